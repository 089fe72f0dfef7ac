/- The document's crust, Crust. -/
import Derived.Test.YtilmlgngnbokfaaF
namespace Go.Proofs.Ytilmlgngnbokfaa
set_option linter.unusedVariables false
set_option linter.unusedSimpArgs false
open Go.RowKit

def crPost (ra : List (Int × Int)) (l : List (Int × Int × Int)) (w : World) (e : Ending) (w' : World) : Prop :=
  Below w.heap.size w w' ∧
  ((0 ≤ wrongI ra l ∧ e = .returned (.tuple #[.slice none 0 0, I (wrongI ra l), .bool false])) ∨
   (wrongI ra l < 0 ∧ ∃ gg cap, e = .returned (.tuple #[.slice (some ⟨gg, 0, none⟩) ra.length cap, I ra.length, .bool true]) ∧
      cap ≤ 9223372036854775807 ∧ ra.length ≤ cap ∧ w.heap.size ≤ gg ∧ gg < w'.heap.size ∧ Crust2 w' gg (crustL ra l)))

set_option maxRecDepth 100000 in
set_option maxHeartbeats 2000000 in
theorem crust46 (A : Option Addr) (c : Nat) (g : Grd) (B : Option Addr) (cl : Nat) (l : List (Int × Int × Int)) (w : World)
   (hr : Pairs w w.heap.size A g.radar) (hl : Threes w w.heap.size B l) (hrl : 1 ≤ g.radar.length ∧ g.radar.length ≤ 400) (hll : l.length ≤ 64)
   (hs : ∀ k (h : k < l.length), 0 ≤ l[k].1 ∧ l[k].1 ≤ (g.radar.length : Int) - 1) :
    Calls Try.prog 46 #[g.val A c, .slice B l.length cl] w (crPost g.radar l w) := by
  obtain ⟨wd, fm, ra⟩ := g
  simp only [Grd.val] at *
  obtain ⟨b, off, rfl, hb, hcs⟩ := hr (by omega)
  have hb1 : b < w.heap.size + 1 := by omega
  obtain ⟨i0, hi0, hi1, hi2, hi3⟩ := info_parts info53
  have u27 : Try.prog.underlying 27 = some (.slice 53) := Try.underlying27
  have hcell := pairs_flat hcs
  have HA := Lib.hid hcell
  have HS := Lib.hid hs
  have HU := Lib.hid u27
  have HI0 := Lib.hid hi0; have HI1 := Lib.hid hi1; have HI2 := Lib.hid hi2; have HI3 := Lib.hid hi3
  clear hcell hcs hr hs u27 hi0 hi1 hi2 hi3
  generalize hP : crPost ra l w = P
  have HP := Lib.hid hP
  clear hP
  generalize hn : ra.length = n at *
  have HN := Lib.hid hn
  clear hn
  have hmade := World.ownsRow_made (base := w.heap.size + 1) (e := 53) (size := 2) (w.alloc (.cells #[I wd, I fm, .slice (some ⟨b, off, none⟩) n c] 29)) #[] 0 (by simp) (Nat.zero_le _) (by simp)
  have hsz1 : (w.alloc (.cells #[I wd, I fm, .slice (some ⟨b, off, none⟩) n c] 29)).heap.size = w.heap.size + 1 := by simp
  rw [hsz1] at hmade
  have HMADE := Lib.hid hmade
  clear hmade hsz1
  go_enter Try.func46, Try.ntmps46
  go_wp2_with (at_builtin; refine wpList_append_own _ rfl _ _ 27 rfl (w.heap.size + 1) 53 i0 (.agg #[.int .i64 0, .int .i64 0]) 2 16 HU.out HI0.out HI1.out HI2.out HI3.out rfl (by decide) _ _ _ rfl HMADE.out ⟨b, off, none⟩ n c (flat2 ra) rfl (by rw [flat2_length, HN.out]) ?qc2 ?qc3 ?qc4 ?qc5 ?qc6 ?_)
  case qc2 =>
    intro j u hj
    exact Lib.cell?_alloc_some _ (Lib.cell?_alloc_some _ (HA.out j u hj))
  case qc3 =>
    intro u hu
    obtain ⟨s, _, hs⟩ := List.mem_flatMap.1 hu
    simp at hs
    rcases hs with rfl | rfl <;> rfl
  case qc4 => simp [maxLen]; omega
  case qc5 => omega
  case qc6 => simp
  intro v' w1 hown hgrow hnil
  have hB1 : Below (w.heap.size + 1) (w.alloc (.cells #[I wd, I fm, .slice (some ⟨b, off, none⟩) n c] 29)) w1 := ((Below.refl _ _).alloc (by simp) _).grown hgrow (by simp) (by intro k hk; simp [Value.ownBlock] at hk; omega)
  have hown' : w1.ownsRow (w.heap.size + 1) 53 2 v' n (flat2 ra) := by simpa using hown
  obtain ⟨m, rfl⟩ : ∃ m, n = m + 1 := ⟨n - 1, by omega⟩
  obtain ⟨gg, cap, rfl⟩ := ownsRow_succ hown'
  have hlt := hown'.lt gg rfl
  have hcap : m + 1 ≤ cap ∧ cap ≤ 9223372036854775807 := by
    rcases hown'.2 with ⟨h, _⟩ | ⟨g', cap', cur, h, _, _, h3, h4, _⟩
    · cases h
    · cases h
      exact ⟨h3, by simpa [maxLen] using h4⟩
  have hCr : Crust2 w1 gg ra := fun k hk => by
    obtain ⟨f1, f2⟩ := flat2_get ra k hk
    have := HN.out
    exact ⟨(hown'.cellAt _ (by omega)).trans f1, (hown'.cellAt _ (by omega)).trans f2, hown'.frozenAt _, hown'.frozenAt _⟩
  have HCR := Lib.hid hCr
  clear hown hown' hgrow hnil hCr
  go_wp2
  go_loopw [8, 9] (fun s s9 wr => ∃ k : Nat, k ≤ l.length ∧ s = I k ∧ Frm w1.heap.size (· = gg) w1 wr ∧ Hid (Crust2 wr gg (crustL ra (l.take k)))) (fun s _ _ => l.length - (intOf s).toNat)
  case atStart => exact ⟨0, Nat.zero_le _, rfl, Frm.refl _ _ _, Lib.hid (by simpa [crustL] using HCR.out)⟩
  case round =>
    obtain ⟨k, hk, rfl, hF, hCk⟩ := hrel
    have hsz := hF.size
    have hBw : Below w.heap.size w wr := (((Below.refl _ w).alloc (Nat.le_refl _) _).trans (hB1.mono (Nat.le_succ _))).trans (hF.below (by have := hB1.size; simp at this; omega) (by omega))
    by_cases hlt2 : k < l.length
    · obtain ⟨bl, offl, rfl, hbl, hcl⟩ := (hl.below hBw) (by omega)
      obtain ⟨s1, s2, s3⟩ := hcl k hlt2
      have hin := HS.out k hlt2
      have hstep := crustL_take ra l k hlt2
      clear hcl
      generalize hx : l[k] = x at *
      obtain ⟨cc, lo, hi⟩ := x
      simp only at s1 s2 s3 hin
      obtain ⟨ci, rfl⟩ := Int.eq_ofNat_of_zero_le hin.1
      have hci : ci < m + 1 := by omega
      have hci3 : (ci : Int) < (m : Int) + 1 := by omega
      have hlen := crustL_length ra (l.take k)
      have hlen2 : (crustL ra (l.take k)).length = m + 1 := hlen.trans HN.out
      have hcut := hCk.out.cut ((ci : Int), lo, hi) ci (by simp) (by omega)
      rw [← hstep] at hcut
      obtain ⟨q1, q2, q3, q4⟩ := hCk.out ci (by omega)
      generalize (crustL ra (l.take k))[ci]'(by omega) = pc at q1 q2 hcut
      obtain ⟨pl, ph⟩ := pc
      simp only at q1 q2 hcut
      have HCUT := Lib.hid hcut
      clear hcut hstep hx hlen hlen2
      go_wp2
      refine (wpIn_wide (n := 9)).1 ?_
      refine wpIn_region_text [0, 1, 2, 3, 4, 5, 6, 7, 8, 9, 10, 11, 12, 13, 14, 15, 16, 17, 18, 19, 20, 21, 22, 23, 24, 25, 26, 27, 28] rfl (by kernel_rfl) (by kernel_rfl) (fun _ d _ _ _ h => by cases d <;> exact h) ?_
      iterate 28 (refine ordT_li rfl rfl (fun K hK => ?_); go_simp; refine hK _ ?_; clear hK K)
      (refine ordT_hv rfl rfl rfl (fun K hK => ?_))
      gi_wp2
      refine ordT_nil ?_
      go_wp2
      go_roundw
      case rel =>
        refine ⟨k + 1, by omega, by go_num, ?_, Lib.hid ?_⟩
        · exact ((hF.setCell (p := ⟨gg, ci * 2, none⟩) (Or.inr rfl) _).setCell (p := ⟨gg, ci * 2 + 1, none⟩) (Or.inr rfl) _).drew
        · exact HCUT.out
      case measure => simp [intOf]; omega
    · have hkl : k = l.length := by omega
      subst hkl
      rw [List.take_length] at hCk
      have hlen := crustL_length ra l
      have hlen2 : (crustL ra l).length = m + 1 := hlen.trans HN.out
      have HL2 := Lib.hid hlen2
      clear hlen hlen2
      have hgg := hlt.2
      go_wp2
      obtain ⟨wo, rfl⟩ : ∃ wo : World, wo = wr := ⟨_, rfl⟩
      go_loopw [10] (fun s wq => ∃ k : Nat, k ≤ m + 1 ∧ s = I k ∧ Below wo.heap.size wo wq ∧ Hid (∀ j (h : j < (crustL ra l).length), j < k → (crustL ra l)[j].1 ≤ (crustL ra l)[j].2)) (fun s _ => m + 1 - (intOf s).toNat)
      case atStart => exact ⟨0, by omega, rfl, Below.refl _ _, Lib.hid fun j _ h => by omega⟩
      case round =>
        obtain ⟨k, hk, rfl, hBq, hall⟩ := hrel
        by_cases hlt3 : k < m + 1
        · have hk' : k < (crustL ra l).length := by rw [HL2.out]; exact hlt3
          have hk3 : (k : Int) < (m : Int) + 1 := by omega
          have hgs : gg < wo.heap.size := by omega
          obtain ⟨q1, q2, _, _⟩ := (hCk.out.below hBq hgs) k hk'
          have hget : ∀ p, (crustL ra l)[k] = p → (p.2 < p.1 → wrongI ra l = k) ∧ (p.1 ≤ p.2 → ∀ j (h : j < (crustL ra l).length), j < k + 1 → (crustL ra l)[j].1 ≤ (crustL ra l)[j].2) := fun p hp => ⟨fun h => by
              unfold wrongI
              exact idxI_hit hk' (by rw [hp]; simpa using h) (fun j hj hjk => by have := hall.out j hj hjk; simp; omega), fun h j hj hjk => by
              by_cases e : j = k
              · subst e; rw [hp]; exact h
              · exact hall.out j hj (by omega)⟩
          generalize hp : (crustL ra l)[k] = p at q1 q2
          obtain ⟨p1, p2⟩ := p
          have hget := hget _ hp
          simp only at q1 q2 hget
          have HG := Lib.hid hget
          clear hget hp
          by_cases hq : p2 < p1
          · have hw := HG.out.1 hq
            have HW := Lib.hid hw
            clear hw
            go_wp2
            go_quiet (fail)
            go_wp2
            refine bodyPost_ret (v := .tuple #[.slice none 0 0, I k, .bool false]) (by simp [results, Try.results46, go_sem]) rfl ?_
            rw [← HP.out]
            refine ⟨(hBw.trans (hBq.mono hBw.size)).trans ?_, .inl ⟨by rw [HW.out]; omega, by rw [HW.out]⟩⟩
            (repeat' (first | assumption | exact Below.refl _ _ | refine Below.drew ?_ | refine below_drewN ?_ _ | refine Below.setCell ?_ (by first | omega | (simp; done) | (simp; omega)) _ | refine Below.alloc ?_ (by first | omega | (simp; done) | (simp; omega)) _ | refine Below.trans ?_ (Below.mono (by assumption) (by first | omega | (simp; done) | (simp; omega)))))
          · have hw := HG.out.2 (by omega)
            have HW := Lib.hid hw
            clear hw
            go_wp2
            go_quiet (fail)
            go_wp2
            go_roundw
            case rel => exact ⟨k + 1, by omega, by go_num, by (repeat' (first | assumption | exact Below.refl _ _ | refine Below.drew ?_ | refine below_drewN ?_ _ | refine Below.setCell ?_ (by first | omega | (simp; done) | (simp; omega)) _ | refine Below.alloc ?_ (by first | omega | (simp; done) | (simp; omega)) _ | refine Below.trans ?_ (Below.mono (by assumption) (by first | omega | (simp; done) | (simp; omega))))), HW⟩
            case measure => simp [intOf]; omega
        · have hw : wrongI ra l = -1 := by
            unfold wrongI
            exact idxI_miss (fun j h => by have := hall.out j h (by rw [HL2.out] at h; omega); simp; omega)
          have HW := Lib.hid hw
          clear hw
          go_wp2
          refine bodyPost_ret (v := .tuple #[.slice (some ⟨gg, 0, none⟩) (m + 1) cap, I (m + 1 : Nat), .bool true]) (by simp [results, Try.results46, go_sem]) rfl ?_
          rw [← HP.out]
          refine ⟨hBw.trans (hBq.mono hBw.size), .inr ⟨by rw [HW.out]; omega, gg, cap, by rw [HN.out], hcap.2, by rw [HN.out]; exact hcap.1, by omega, by have := hBq.size; omega, hCk.out.below hBq (by omega)⟩⟩
end Go.Proofs.Ytilmlgngnbokfaa
