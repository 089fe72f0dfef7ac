/- The crust. -/
import Derived.Test.YtilmlgngnbokfaaV4
import Derived.Test.YtilmlgngnbokfaaPf
import Derived.Test.YtilmlgngnbokfaaLd
import Derived.Lib.SliceRun
import Derived.Lib.Walk
namespace Go.Proofs.Ytilmlgngnbokfaa
set_option linter.unusedVariables false
set_option linter.unusedSimpArgs false
open Go.RowKit

def flat2 (cr : List (Int × Int)) : List Value := cr.flatMap fun s => [I s.1, I s.2]
theorem flat2_length : ∀ cr : List (Int × Int), (flat2 cr).length = cr.length * 2
  | [] => rfl
  | s :: cr => by simp [flat2, List.length_flatMap]; have := flat2_length cr; simp [flat2, List.length_flatMap] at this; omega
theorem flat2_get : ∀ (cr : List (Int × Int)) (k : Nat) (h : k < cr.length), (flat2 cr)[k * 2]? = some (I cr[k].1) ∧ (flat2 cr)[k * 2 + 1]? = some (I cr[k].2)
  | [], k, h => by simp at h
  | s :: cr, 0, _ => by simp [flat2]
  | s :: cr, k + 1, h => by
    have ih := flat2_get cr k (by simpa using h)
    have e1 : (k + 1) * 2 = k * 2 + 2 := by omega
    rw [e1]
    simpa [flat2] using ih
/-- The cells that are pairs. -/
theorem pairs_flat {w : World} {b off : Nat} {cr : List (Int × Int)} (h : ∀ k (h : k < cr.length), w.cell? ⟨b, off + k * 2, none⟩ = some (I cr[k].1) ∧ w.cell? ⟨b, off + k * 2 + 1, none⟩ = some (I cr[k].2)) :
    ∀ j u, (flat2 cr)[j]? = some u → w.cell? ((⟨b, off, none⟩ : Addr).add j) = some u := by
  intro j u hu
  have e : ((⟨b, off, none⟩ : Addr).add j) = ⟨b, off + j, none⟩ := by unfold Addr.add; split <;> simp_all
  rw [e]
  have hlt : j < cr.length * 2 := by
    have := (List.getElem?_eq_some_iff.1 hu).1
    rwa [flat2_length] at this
  have hk : j / 2 < cr.length := by omega
  obtain ⟨f1, f2⟩ := flat2_get cr (j / 2) hk
  obtain ⟨c1, c2⟩ := h (j / 2) hk
  rcases Nat.mod_two_eq_zero_or_one j with h0 | h0
  · have : j = j / 2 * 2 := by omega
    rw [this] at hu ⊢
    rw [f1] at hu
    rw [c1, hu]
  · have : j = j / 2 * 2 + 1 := by omega
    rw [this] at hu ⊢
    rw [f2] at hu
    rw [show off + (j / 2 * 2 + 1) = off + j / 2 * 2 + 1 by omega, c2, hu]

/-- A row of pairs of one's own. -/
def Crust2 (W : World) (g : Nat) (cr : List (Int × Int)) : Prop :=
  ∀ k (h : k < cr.length), W.cell? ⟨g, k * 2, none⟩ = some (I cr[k].1) ∧ W.cell? ⟨g, k * 2 + 1, none⟩ = some (I cr[k].2) ∧ W.frozen? ⟨g, k * 2, none⟩ = false ∧ W.frozen? ⟨g, k * 2 + 1, none⟩ = false
theorem Crust2.below {W W' : World} {g : Nat} {cr : List (Int × Int)} {B : Nat} (h : Crust2 W g cr) (hB : Below B W W') (hg : g < B) : Crust2 W' g cr := fun k hk =>
  ⟨(hB.cell (p := ⟨g, _, none⟩) hg).trans (h k hk).1, (hB.cell (p := ⟨g, _, none⟩) hg).trans (h k hk).2.1, (hB.frozen (p := ⟨g, _, none⟩) hg).trans (h k hk).2.2.1, (hB.frozen (p := ⟨g, _, none⟩) hg).trans (h k hk).2.2.2⟩
theorem Crust2.pairs {W : World} {g : Nat} {cr : List (Int × Int)} (h : Crust2 W g cr) (hg : g < W.heap.size) : Pairs W W.heap.size (some ⟨g, 0, none⟩) cr := fun _ =>
  ⟨g, 0, rfl, hg, fun k hk => by simp only [Nat.zero_add]; exact ⟨(h k hk).1, (h k hk).2.1⟩⟩

theorem info53 : (Try.prog.info? 53).map (fun i => (i.zero, i.size, i.bytes)) = some (some (.agg #[.int .i64 0, .int .i64 0]), 2, 16) := by kernel_rfl

set_option maxRecDepth 100000 in
set_option maxHeartbeats 1000000 in
theorem clone72 (b off n c : Nat) (cr : List (Int × Int)) (w : World) (hn : n = cr.length) (hc0 : 0 < n) (hc1 : n ≤ 1000) (hb : b < w.heap.size)
    (hc : ∀ k (h : k < cr.length), w.cell? ⟨b, off + k * 2, none⟩ = some (I cr[k].1) ∧ w.cell? ⟨b, off + k * 2 + 1, none⟩ = some (I cr[k].2)) :
    Calls Try.prog 72 #[.slice (some ⟨b, off, none⟩) n c] w fun e w' => ∃ g cap, e = .returned (.slice (some ⟨g, 0, none⟩) n cap) ∧ cap ≤ 9223372036854775807 ∧ n ≤ cap ∧ w.heap.size ≤ g ∧ g < w'.heap.size ∧ Crust2 w' g cr ∧ Below w.heap.size w w' := by
  obtain ⟨i0, hi, hi1, hi2, hi3⟩ := info_parts info53
  have hcell := pairs_flat hc
  have A := Lib.hid hcell
  clear hcell hc
  go_enter Try.func72, Try.ntmps72
  have u27 : Try.prog.underlying 27 = some (.slice 53) := Try.underlying27
  have q27 : ∀ (w : World) (a : Option Addr) (n c n' c' : Nat), (binOp .eql 27 (.slice a n c) (.slice none n' c')).run Try.prog w = .ok (.bool a.isNone) w := fun w a n c n' c' => Lib.run_eql_slice_nil w _ _ a n c n' c' u27
  go_wp2_with (at_builtin; refine wpList_append_own _ rfl _ _ 27 rfl w.heap.size 53 i0 (.agg #[.int .i64 0, .int .i64 0]) 2 16 u27 hi hi1 hi2 hi3 rfl (by decide) _ _ _ rfl (World.ownsRow_made w #[] 0 (Nat.le_refl _) (Nat.zero_le _) (by simp)) ⟨b, off, none⟩ n c (flat2 cr) rfl (by rw [flat2_length, hn]) ?qc2 ?qc3 ?qc4 ?qc5 ?qc6 ?_)
  case qc2 =>
    intro j u hj
    exact Lib.cell?_alloc_some _ (A.out j u hj)
  case qc3 =>
    intro u hu
    obtain ⟨s, _, hs⟩ := List.mem_flatMap.1 hu
    simp at hs
    rcases hs with rfl | rfl <;> rfl
  case qc4 => simp [maxLen]; omega
  case qc5 => omega
  case qc6 => simp
  intro v' w1 hown hgrow hnil
  have hz : w.heap.size < w1.heap.size := by have := hgrow.size; simp at this; omega
  have hB : Below w.heap.size w w1 := ((Below.refl _ w).alloc (Nat.le_refl _) _).grown hgrow (by simp) (by intro k hk; simp [Value.ownBlock] at hk; omega)
  have hown' : w1.ownsRow w.heap.size 53 2 v' n (flat2 cr) := by rw [hn]; simpa using hown
  obtain ⟨m, rfl⟩ : ∃ m, n = m + 1 := ⟨n - 1, by omega⟩
  obtain ⟨g, cap, rfl⟩ := ownsRow_succ hown'
  have hlt := hown'.lt g rfl
  have hcap : m + 1 ≤ cap ∧ cap ≤ 9223372036854775807 := by
    rcases hown'.2 with ⟨h, _⟩ | ⟨g', cap', cur, h, _, _, h3, h4, _⟩
    · cases h
    · cases h
      exact ⟨h3, by simpa [maxLen] using h4⟩
  go_wp2
  go_ret
  refine ⟨g, cap, rfl, hcap.2, hcap.1, hlt.1, hlt.2, fun k hk => ?_, hB⟩
  obtain ⟨f1, f2⟩ := flat2_get cr k hk
  exact ⟨(hown'.cellAt _ (by omega)).trans f1, (hown'.cellAt _ (by omega)).trans f2, hown'.frozenAt _, hown'.frozenAt _⟩

/-- One sounding. -/
def cut1 (cr : List (Int × Int)) (s : Int × Int × Int) : List (Int × Int) := cr.modify s.1.toNat (fun p => (max p.1 s.2.1, min p.2 s.2.2))
/-- What is known of the crust. -/
def crustL (ra : List (Int × Int)) (l : List (Int × Int × Int)) : List (Int × Int) := l.foldl cut1 ra
@[simp] theorem cut1_length (cr : List (Int × Int)) (s : Int × Int × Int) : (cut1 cr s).length = cr.length := by simp [cut1]
theorem crustL_length (ra : List (Int × Int)) (l : List (Int × Int × Int)) : (crustL ra l).length = ra.length := by
  unfold crustL
  induction l generalizing ra with
  | nil => rfl
  | cons s l ih => simp only [List.foldl_cons]; rw [ih, cut1_length]
theorem crustL_take (ra : List (Int × Int)) (l : List (Int × Int × Int)) (k : Nat) (h : k < l.length) : crustL ra (l.take (k + 1)) = cut1 (crustL ra (l.take k)) l[k] := by
  unfold crustL
  rw [List.take_succ_eq_append_getElem h, List.foldl_append]
  rfl

theorem Crust2.cut {W : World} {g : Nat} {cr : List (Int × Int)} (h : Crust2 W g cr) (s : Int × Int × Int) (c : Nat) (hc : s.1.toNat = c) (hlt : c < cr.length) :
    Crust2 ((W.setCell ⟨g, c * 2, none⟩ (I (max cr[c].1 s.2.1))).setCell ⟨g, c * 2 + 1, none⟩ (I (min cr[c].2 s.2.2))) g (cut1 cr s) := by
  subst hc
  intro k hk
  have hk' : k < cr.length := by simpa using hk
  obtain ⟨a1, a2, a3, a4⟩ := h k hk'
  obtain ⟨b1, b2, b3, b4⟩ := h _ hlt
  by_cases e : k = s.1.toNat
  · subst e
    have e1 : (cut1 cr s)[s.1.toNat] = (max cr[s.1.toNat].1 s.2.1, min cr[s.1.toNat].2 s.2.2) := by simp [cut1]
    rw [e1]
    refine ⟨?_, ?_, ?_, ?_⟩
    · simp [go_sem, b1, b2]
    · simp [go_sem, b1, b2]
    · simpa [go_sem] using a3
    · simpa [go_sem] using a4
  · have e1 : (cut1 cr s)[k] = cr[k] := by simp [cut1, List.getElem_modify, Ne.symm e]
    rw [e1]
    refine ⟨?_, ?_, by simpa [go_sem] using a3, by simpa [go_sem] using a4⟩
    · rw [World.cell?_setCell_other, World.cell?_setCell_other]
      · exact a1
      all_goals (simp; try omega)
    · rw [World.cell?_setCell_other, World.cell?_setCell_other]
      · exact a2
      all_goals (simp; try omega)

set_option maxHeartbeats 400000 in
theorem clo74 (s : Int × Int) (w : World) :
    Calls Try.prog 74 #[spanV s] w fun e w' => e = .returned (.bool (decide (s.2 < s.1))) ∧ Below w.heap.size w w' := by
  obtain ⟨a, b⟩ := s
  rw [show spanV (a, b) = .agg #[I a, I b] from rfl]
  go_enter Try.func74, Try.ntmps74
  go_wp2
  all_goals
    go_ret
    exact ⟨rfl, by (repeat' (first | assumption | exact Below.refl _ _ | refine Below.drew ?_ | refine below_drewN ?_ _ | refine Below.setCell ?_ (by first | omega | (simp; done) | (simp; omega)) _ | refine Below.alloc ?_ (by first | omega | (simp; done) | (simp; omega)) _ | refine Below.trans ?_ (Below.mono (by assumption) (by first | omega | (simp; done) | (simp; omega)))))⟩

set_option maxRecDepth 100000 in
set_option maxHeartbeats 2000000 in
theorem crustOf_any (A : Option Addr) (c : Nat) (g : Grd) (B : Option Addr) (cl : Nat) (l : List (Int × Int × Int)) (w : World)
   (hr : Pairs w w.heap.size A g.radar) (hl : Threes w w.heap.size B l) (hrl : 1 ≤ g.radar.length ∧ g.radar.length ≤ 400) (hll : l.length ≤ 64)
   (hs : ∀ k (h : k < l.length), 0 ≤ l[k].1 ∧ l[k].1 ≤ (g.radar.length : Int) - 1) :
    Calls Try.prog 44 #[g.val A c, .slice B l.length cl] w fun e w' => ∃ gg cap, e = .returned (.tuple #[.slice (some ⟨gg, 0, none⟩) g.radar.length cap, I (idxI (fun s => decide (s.2 < s.1)) (crustL g.radar l))]) ∧
      cap ≤ 9223372036854775807 ∧ g.radar.length ≤ cap ∧ w.heap.size ≤ gg ∧ gg < w'.heap.size ∧ Crust2 w' gg (crustL g.radar l) ∧ Below w.heap.size w w' := by
  obtain ⟨wd, fm, ra⟩ := g
  simp only [Grd.val] at *
  obtain ⟨b, off, rfl, hb, hcs⟩ := hr (by omega)
  have hb1 : b < w.heap.size + 1 := by omega
  have hclo := fun W (hB : Below w.heap.size w W) => clone72 b off ra.length c ra W rfl (by omega) (by omega) (by have := hB.size; omega) (fun k h => ⟨(hB.cell (p := ⟨b, _, none⟩) hb).trans (hcs k h).1, (hB.cell (p := ⟨b, _, none⟩) hb).trans (hcs k h).2⟩)
  have HCLO := Lib.hid hclo
  have HS := Lib.hid hs
  clear hclo hcs hr hs
  go_enter Try.func44, Try.ntmps44
  go_wp2_with (go_at_call 72; refine (HCLO.out _ (by (repeat' (first | assumption | exact Below.refl _ _ | refine Below.drew ?_ | refine below_drewN ?_ _ | refine Below.setCell ?_ (by first | omega | (simp; done) | (simp; omega)) _ | refine Below.alloc ?_ (by first | omega | (simp; done) | (simp; omega)) _ | refine Below.trans ?_ (Below.mono (by assumption) (by first | omega | (simp; done) | (simp; omega))))))).mono ?_; rintro e w1 ⟨gg, cap, rfl, hcap, hcap2, hgg, hgg2, hCr, hB⟩)
  have hgb : w.heap.size + 1 ≤ gg := by simpa using hgg
  have hB1 : Below (w.heap.size + 1) (w.alloc (.cells #[I wd, I fm, .slice (some ⟨b, off, none⟩) ra.length c] 29)) w1 := by simpa using hB
  have hCR := Lib.hid hCr
  clear hCr hB hgg
  go_loopw [14] (fun s wr => ∃ k : Nat, k ≤ l.length ∧ s = I k ∧ Frm w1.heap.size (· = gg) w1 wr ∧ Hid (Crust2 wr gg (crustL ra (l.take k)))) (fun s _ => l.length - (intOf s).toNat)
  case atStart => exact ⟨0, Nat.zero_le _, rfl, Frm.refl _ _ _, Lib.hid (by simpa [crustL] using hCR.out)⟩
  case round =>
    obtain ⟨k, hk, rfl, hF, hCk⟩ := hrel
    have hsz := hF.size
    have hBw : Below w.heap.size w wr := (((Below.refl _ w).alloc (Nat.le_refl _) _).trans (hB1.mono (Nat.le_succ _))).trans (hF.below (by have := hB1.size; simp at this; omega) (by omega))
    by_cases hlt : k < l.length
    · obtain ⟨bl, offl, rfl, hbl, hcl⟩ := (hl.below hBw) (by omega)
      obtain ⟨s1, s2, s3⟩ := hcl k hlt
      have hin := HS.out k hlt
      have hstep := crustL_take ra l k hlt
      clear hcl
      generalize hx : l[k] = x at *
      obtain ⟨cc, lo, hi⟩ := x
      simp only at s1 s2 s3 hin
      obtain ⟨ci, rfl⟩ := Int.eq_ofNat_of_zero_le hin.1
      have hci : ci < ra.length := by omega
      have hlen := crustL_length ra (l.take k)
      have hcut := hCk.out.cut ((ci : Int), lo, hi) ci (by simp) (by omega)
      rw [← hstep] at hcut
      obtain ⟨q1, q2, q3, q4⟩ := hCk.out ci (by omega)
      generalize (crustL ra (l.take k))[ci]'(by omega) = pc at q1 q2 hcut
      obtain ⟨pl, ph⟩ := pc
      simp only at q1 q2 hcut
      have hgw : gg < wr.heap.size := by omega
      have hne : gg ≠ wr.heap.size := by omega
      have HCUT := Lib.hid hcut
      clear hcut hstep hx
      go_wp2
      refine (wpIn_wide (n := 9)).1 ?_
      refine wpIn_region_plan (Plan.ons [0, 1, 2, 3, 4, 5, 6, 7, 8, 9, 10, 11, 12, 13, 14, 15, 16, 17, 18, 19, 20, 21, 22, 23] .fin) [1, 10, 11, 12, 13, 14, 15, 16, 17]
        (fun W' => W'.cell? ⟨gg, ci * 2 + 1, none⟩ = some (I ph) ∧ W'.cell? ⟨wr.heap.size, 2, none⟩ = some (I hi))
        [23] rfl (by kernel_rfl) (by kernel_rfl) (fun _ d _ _ _ h => by cases d <;> exact h) ⟨by simp [go_sem, hgw, q2], by simp [go_sem]⟩ ?_
      (refine ordQ_li rfl rfl rfl (fun K hK => ?_); go_simp; refine hK _ ?_; clear hK K)
      (refine ordQ_held (.pointer (some ⟨gg, ci * 2, none⟩)) rfl rfl rfl rfl (fun W' hC' => ?_) (fun K hK => ?_); (focus (obtain ⟨p1, p2⟩ := hC'; go_simp; try exact ⟨rfl, rfl⟩)); go_simp; refine hK _ ?_; clear hK K)
      iterate 8 (refine ordQ_li rfl rfl rfl (fun K hK => ?_); go_simp; refine hK _ ?_; clear hK K)
      (refine ordQ_held (.pointer (some ⟨gg, ci * 2, none⟩)) rfl rfl rfl rfl (fun W' hC' => ?_) (fun K hK => ?_); (focus (obtain ⟨p1, p2⟩ := hC'; go_simp; try exact ⟨rfl, rfl⟩)); go_simp; refine hK _ ?_; clear hK K)
      (refine ordQ_held (.pointer (some ⟨gg, ci * 2, none⟩)) rfl rfl rfl rfl (fun W' hC' => ?_) (fun K hK => ?_); (focus (obtain ⟨p1, p2⟩ := hC'; go_simp; try exact ⟨rfl, rfl⟩)); go_simp; refine hK _ ?_; clear hK K)
      (refine ordQ_held (.pointer (some ⟨gg, ci * 2 + 1, none⟩)) rfl rfl rfl rfl (fun W' hC' => ?_) (fun K hK => ?_); (focus (obtain ⟨p1, p2⟩ := hC'; go_simp; try exact ⟨rfl, rfl⟩)); go_simp; refine hK _ ?_; clear hK K)
      (refine ordQ_held (I ph) rfl rfl rfl rfl (fun W' hC' => ?_) (fun K hK => ?_); (focus (obtain ⟨p1, p2⟩ := hC'; go_simp; try exact ⟨rfl, rfl⟩)); go_simp; refine hK _ ?_; clear hK K)
      (refine ordQ_held (.pointer (some ⟨wr.heap.size, 1, none⟩)) rfl rfl rfl rfl (fun W' hC' => ?_) (fun K hK => ?_); (focus (obtain ⟨p1, p2⟩ := hC'; go_simp; try exact ⟨rfl, rfl⟩)); go_simp; refine hK _ ?_; clear hK K)
      (refine ordQ_held (.pointer (some ⟨wr.heap.size, 2, none⟩)) rfl rfl rfl rfl (fun W' hC' => ?_) (fun K hK => ?_); (focus (obtain ⟨p1, p2⟩ := hC'; go_simp; try exact ⟨rfl, rfl⟩)); go_simp; refine hK _ ?_; clear hK K)
      (refine ordQ_held (I hi) rfl rfl rfl rfl (fun W' hC' => ?_) (fun K hK => ?_); (focus (obtain ⟨p1, p2⟩ := hC'; go_simp; try exact ⟨rfl, rfl⟩)); go_simp; refine hK _ ?_; clear hK K)
      (refine ordQ_held (I (min ph hi)) rfl rfl rfl rfl (fun W' hC' => ?_) (fun K hK => ?_); (focus (obtain ⟨p1, p2⟩ := hC'; go_simp; try exact ⟨rfl, rfl⟩)); go_simp; refine hK _ ?_; clear hK K)
      iterate 2 (refine ordQ_li rfl rfl rfl (fun K hK => ?_); go_simp; refine hK _ ?_; clear hK K)
      refine ordQ_hv rfl rfl rfl (fun K hK => ?_)
      gi_wp2
      refine hK _ _ (fun _ => ⟨by simp [go_sem, hgw, q1, q2], by simp [go_sem, hgw]⟩) ?_
      clear hK K
      iterate 2 (refine ordQ_li rfl rfl rfl (fun K hK => ?_); go_simp; refine hK _ ?_; clear hK K)
      refine ordQ_hv rfl rfl rfl (fun K hK => ?_)
      gi_wp2
      refine hK _ _ (fun h => by cases h) ?_
      clear hK K
      refine ordQ_fin ?_
      go_wp2
      go_roundw
      case rel =>
        refine ⟨k + 1, by omega, rfl, ?_, Lib.hid ?_⟩
        · exact (((hF.setCell (p := ⟨gg, ci * 2, none⟩) (Or.inr rfl) _).setCell (p := ⟨gg, ci * 2 + 1, none⟩) (Or.inr rfl) _).alloc (by simpa using hsz) _).drew
        · have h2 : Below (gg + 1) ((wr.setCell ⟨gg, ci * 2, none⟩ (I (max pl lo))).setCell ⟨gg, ci * 2 + 1, none⟩ (I (min ph hi))) _ := ((Below.refl (gg + 1) _).alloc (by simp; omega) (.cells #[I ci, I lo, I hi] 55)).drew
          exact HCUT.out.below h2 (by omega)
      case measure => simp [intOf]; omega
    · have hkl : k = l.length := by omega
      subst hkl
      rw [List.take_length] at hCk
      have hidx := idx73 (fun s => decide (s.2 < s.1)) 74 #[] (enters_of Try.func74 (by kernel_rfl) rfl) (some ⟨gg, 0, none⟩) cap (crustL ra l) wr (hCk.out.pairs (by omega)) (by rw [crustL_length]; omega) (fun i h W hB => clo74 _ W)
      rw [crustL_length] at hidx
      have HI := Lib.hid hidx
      clear hidx
      go_wp2_with (go_at_call 73; refine HI.out.mono ?_; rintro e w2 ⟨rfl, hB2⟩)
      refine bodyPost_ret (v := .tuple #[.slice (some ⟨gg, 0, none⟩) ra.length cap, I (idxI (fun s => decide (s.2 < s.1)) (crustL ra l))]) (by simp [results, Try.results44, go_sem]) rfl ⟨gg, cap, rfl, hcap, hcap2, by omega, by have := hB2.size; omega, hCk.out.below hB2 (by omega), below_call hBw hB2⟩
end Go.Proofs.Ytilmlgngnbokfaa
