/- The document's breaks. -/
import Derived.Test.YtilmlgngnbokfaaX6
import Derived.Test.YtilmlgngnbokfaaBr
namespace Go.Proofs.Ytilmlgngnbokfaa
set_option linter.unusedVariables false
set_option linter.unusedSimpArgs false
open Go.RowKit

set_option maxRecDepth 100000 in
set_option maxHeartbeats 4000000 in
theorem refbreaks_any (A : Option Addr) (c : Nat) (g : Grd) (gg cap : Nat) (cr : List (Int × Int)) (Ap Al : Option Addr) (cp cl : Nat) (d : Deck) (w : World) (ha : DeckAt w Ap Al d) (hd : d.ok cr.length) (hgg : gg < w.heap.size)
   (hC : Crust2 w gg cr) (hcr : cr.length ≤ 400) (hlo : ∀ k (h : k < cr.length), 0 ≤ cr[k].1 ∧ cr[k].1 ≤ 500) (hfirm : 1 ≤ g.firm ∧ g.firm ≤ 100) :
    Calls Try.prog 51 #[g.val A c, .slice (some ⟨gg, 0, none⟩) cr.length cap, d.val Ap Al cp cl] w fun e w' => e = .returned (I (brkI d cr g.firm)) ∧ Below w.heap.size w w' := by
  have hLoad : ∀ k, k < d.posts.length → ∀ W, Below w.heap.size w W → Calls Try.prog 47 #[d.val Ap Al cp cl, I k] W fun e w' => e = .returned (Rat2 (pres d k).1 (pres d k).2) ∧ Below W.heap.size W w' :=
    fun k hk W hB => refload_any Ap Al cp cl d k W (ha.below hB) (Deck.ok_more hd (by omega)) hk
  have hfacts : ∀ k, k < d.posts.length → ∃ ci t : Nat, d.posts.getD k 0 = ci ∧ ci < cr.length ∧ t ≤ 500 ∧ (cr.getD ci (0, 0)).1 = t ∧ ∃ p1 p2 : Int, pres d k = (p1, p2) ∧ (0 ≤ p1 ∧ p1 ≤ 100000000000) ∧ (1 ≤ p2 ∧ p2 ≤ 80000) ∧ (g.firm * t * t * p2 < p1 ↔ brk d cr g.firm k = true) := fun k hk => by
    have hin := hd.2.2.2.1 k hk
    have hpk : d.posts.getD k 0 = d.posts[k] := by simp [List.getD, hk]
    obtain ⟨ci, hci⟩ := Int.eq_ofNat_of_zero_le hin.1
    have hcl : ci < cr.length := by omega
    have hl := hlo ci hcl
    obtain ⟨t, ht⟩ := Int.eq_ofNat_of_zero_le hl.1
    have hcg : (cr.getD ci (0, 0)).1 = t := by rw [← ht]; simp [List.getD, hcl]
    have hrep := pres_rep hd k hk
    obtain ⟨v1, v2, v3, v4⟩ := pres_bd hd k hk
    have hpd := rep_den_le v1 (show Rep (presC d k) ((pres d k).1, (pres d k).2) (presN d k) from hrep)
    have hpn := rep_le (M := 90000) v1 (show Rep (presC d k) ((pres d k).1, (pres d k).2) (presN d k) from hrep) v4
    have m1 := mul_bd (show 0 ≤ g.firm by omega) (show g.firm ≤ 100 by omega) (show 0 ≤ (t : Int) by omega) (show (t : Int) ≤ 500 by omega)
    have m2 := mul_bd m1.1 m1.2 (show 0 ≤ (t : Int) by omega) (show (t : Int) ≤ 500 by omega)
    have hrep2 : Rep (presC d k) (g.firm * t * t, 1) (g.firm * t * t * presC d k) := ⟨m2.1, by simp, ⟨presC d k, by simp⟩, by simp⟩
    have hcmp := cmp_rep (n := (pres d k).1) (d := (pres d k).2) v1 hrep hrep2
    have hice : iceOf d cr g.firm k = g.firm * t * t := by unfold iceOf; rw [hpk, hci]; simp only [Int.toNat_natCast, hcg]
    refine ⟨ci, t, by rw [hpk, hci], hcl, by omega, hcg, (pres d k).1, (pres d k).2, rfl, ⟨hrep.1, by omega⟩, ⟨hrep.2.1, by omega⟩, ?_⟩
    unfold brk
    rw [hice, decide_eq_true_iff]
    rw [Int.mul_one] at hcmp
    unfold cmpI at hcmp
    constructor
    · intro h
      rw [if_neg (by omega), if_pos h] at hcmp
      by_cases h1 : presN d k < g.firm * t * t * presC d k
      · rw [if_pos h1] at hcmp; omega
      · rw [if_neg h1] at hcmp
        by_cases h2 : g.firm * t * t * presC d k < presN d k
        · exact h2
        · rw [if_neg h2] at hcmp; omega
    · intro h
      rw [if_neg (show ¬ presN d k < g.firm * t * t * presC d k by omega), if_pos h] at hcmp
      by_cases h1 : (pres d k).1 < g.firm * t * t * (pres d k).2
      · rw [if_pos h1] at hcmp; omega
      · rw [if_neg h1] at hcmp
        by_cases h2 : g.firm * t * t * (pres d k).2 < (pres d k).1
        · exact h2
        · rw [if_neg h2] at hcmp; omega
  have hbrk : ∀ k, brk d cr g.firm k = brk d cr g.firm k := fun _ => rfl
  have hidx : (∀ k : Nat, k < d.posts.length → brk d cr g.firm k = true → (∀ j, j < k → brk d cr g.firm j = false) → brkI d cr g.firm = k) ∧ ((∀ j, j < d.posts.length → brk d cr g.firm j = false) → brkI d cr g.firm = -1) := by
    refine ⟨fun k hk h1 h2 => ?_, fun h => ?_⟩
    · unfold brkI
      exact idxI_hit (by simpa using hk) (by simpa using h1) (fun j h hj => by simpa using h2 j hj)
    · unfold brkI
      exact idxI_miss (fun j hj => by simpa using h j (by simpa using hj))
  have hp0 := ha.hp
  have hpl : d.posts.length ≤ 24 := hd.2.1
  generalize brk d cr g.firm = bk at *
  generalize brkI d cr g.firm = bi at *
  have HC := Lib.hid hC
  clear hbrk hlo hd ha hC
  generalize hprs : pres d = prs at *
  clear hprs
  obtain ⟨wd, fm, ra⟩ := g
  obtain ⟨ps, ls, own, wt, ap, pe⟩ := d
  simp only [Grd.val, Deck.val] at *
  have HLOAD := Lib.hid hLoad
  have HFACTS := Lib.hid hfacts
  have HIDX := Lib.hid hidx
  clear hLoad hfacts hidx
  have hce : ∀ W, Below (w.heap.size + 2) ((w.alloc (.cells #[I wd, I fm, .slice A ra.length c] 29)).alloc (.cells #[.slice Ap ps.length cp, .slice Al ls.length cl, I own, I wt, I ap, I pe] 24)) W →
      (W.cell? ⟨w.heap.size, 0, none⟩ = some (I wd) ∧ W.cell? ⟨w.heap.size, 1, none⟩ = some (I fm) ∧ W.cell? ⟨w.heap.size, 2, none⟩ = some (.slice A ra.length c) ∧ W.cell? ⟨w.heap.size + 1, 0, none⟩ = some (.slice Ap ps.length cp) ∧ W.cell? ⟨w.heap.size + 1, 1, none⟩ = some (.slice Al ls.length cl) ∧ W.cell? ⟨w.heap.size + 1, 2, none⟩ = some (I own) ∧ W.cell? ⟨w.heap.size + 1, 3, none⟩ = some (I wt) ∧ W.cell? ⟨w.heap.size + 1, 4, none⟩ = some (I ap) ∧ W.cell? ⟨w.heap.size + 1, 5, none⟩ = some (I pe)) ∧ Below w.heap.size w W ∧ w.heap.size + 2 ≤ W.heap.size := fun W hB => by
    refine ⟨⟨?_, ?_, ?_, ?_, ?_, ?_, ?_, ?_, ?_⟩, (((Below.refl _ w).alloc (Nat.le_refl _) _).alloc (by simp) _).trans (hB.mono (by omega)), by have := hB.size; simpa using this⟩
    iterate 3 (rw [hB.cell (p := ⟨w.heap.size, _, none⟩) (by simp)]; simp [go_sem])
    iterate 6 (rw [hB.cell (p := ⟨w.heap.size + 1, _, none⟩) (by simp)]; simp [go_sem])
  have HCE := Lib.hid hce
  clear hce
  go_enter Try.func51, Try.ntmps51
  go_wp2
  go_loopw [7, 8, 9] (fun s7 s8 s9 wr => ∃ k : Nat, k ≤ ps.length ∧ s7 = I k ∧ Below (w.heap.size + 2) ((w.alloc (.cells #[I wd, I fm, .slice A ra.length c] 29)).alloc (.cells #[.slice Ap ps.length cp, .slice Al ls.length cl, I own, I wt, I ap, I pe] 24)) wr ∧ Hid (∀ j, j < k → bk j = false)) (fun s7 _ _ _ => ps.length - (intOf s7).toNat)
  case atStart => exact ⟨0, by omega, rfl, Below.refl _ _, Lib.hid fun j h => by omega⟩
  case round =>
    obtain ⟨k, hk, rfl, hB, hall⟩ := hrel
    obtain ⟨⟨a1, a2, a3, a4, a5, a6, a7, a8, a9⟩, hq, hz⟩ := HCE.out wr hB
    by_cases hlt : k < ps.length
    · obtain ⟨ci, t, e1, hci, ht, e2, p1, p2, e3, hp1, hp2, hbk⟩ := HFACTS.out k hlt
      obtain ⟨bp, offp, rfl, hbp, hcp⟩ := (hp0.below hq) (by omega)
      have hcell := hcp k hlt
      have hpk : ps.getD k 0 = ps[k] := by simp [List.getD, hlt]
      rw [← hpk, e1] at hcell
      have hc1 := (hq.cell (p := ⟨gg, ci * 2, none⟩) hgg).trans (HC.out ci hci).1
      have hcg : cr.getD ci (0, 0) = cr[ci] := by simp [List.getD, hci]
      rw [← hcg, e2] at hc1
      have hld := HLOAD.out k hlt wr hq
      rw [e3] at hld
      have HLD := Lib.hid hld
      have HBK := Lib.hid hbk
      have m1 := mul_bd (show 0 ≤ fm by omega) (show fm ≤ 100 by omega) (show 0 ≤ (t : Int) by omega) (show (t : Int) ≤ 500 by omega)
      have m2 := mul_bd m1.1 m1.2 (show 0 ≤ (t : Int) by omega) (show (t : Int) ≤ 500 by omega)
      have m3 := mul_bd m2.1 m2.2 (show 0 ≤ p2 by omega) (show p2 ≤ 80000 by omega)
      have hw1 : IntKind.i64.wrap (fm * t) = fm * t := IntWalk.i64_in _ (by omega)
      have hw2 : IntKind.i64.wrap (fm * t * t) = fm * t * t := IntWalk.i64_in _ (by omega)
      have hw3 : IntKind.i64.wrap (fm * t * t * p2) = fm * t * t * p2 := IntWalk.i64_in _ (by omega)
      have HW1 := Lib.hid hw1; have HW2 := Lib.hid hw2; have HW3 := Lib.hid hw3
      have hci3 : (ci : Int) < cr.length := by omega
      clear hcp hpk e1 e2 e3 hcg hld hbk m1 m2 m3 hw1 hw2 hw3
      by_cases hgt : fm * t * t * p2 < p1
      · go_wp2_with (go_at_call 47; refine HLD.out.mono ?_; rintro e w2 ⟨rfl, hB2⟩; have hb2 := hB.trans (hB2.mono hz); have hz2 := (HCE.out w2 hb2).2.2; obtain ⟨⟨b1, b2, b3, b4, b5, b6, b7, b8, b9⟩, hq2, hz3⟩ := HCE.out _ (hb2.alloc hz2 (.cells #[I p1, I p2] 33)); have hw1 := HW1.out; have hw2 := HW2.out; have hw3 := HW3.out)
        go_ret
        exact ⟨by rw [HIDX.out.1 k hlt (HBK.out.1 hgt) hall.out]; rfl, by (repeat' (first | assumption | exact Below.refl _ _ | refine Below.drew ?_ | refine below_drewN ?_ _ | refine Below.setCell ?_ (by first | omega | (simp; done) | (simp; omega)) _ | refine Below.alloc ?_ (by first | omega | (simp; done) | (simp; omega)) _ | refine Below.trans ?_ (Below.mono (by assumption) (by first | omega | (simp; done) | (simp; omega)))))⟩
      · have hle : p1 ≤ fm * t * t * p2 := by omega
        have HLE := Lib.hid hgt
        clear hgt
        go_wp2_with (go_at_call 47; refine HLD.out.mono ?_; rintro e w2 ⟨rfl, hB2⟩; have hb2 := hB.trans (hB2.mono hz); have hz2 := (HCE.out w2 hb2).2.2; obtain ⟨⟨b1, b2, b3, b4, b5, b6, b7, b8, b9⟩, hq2, hz3⟩ := HCE.out _ (hb2.alloc hz2 (.cells #[I p1, I p2] 33)); have hw1 := HW1.out; have hw2 := HW2.out; have hw3 := HW3.out)
        go_roundw
        case rel => exact ⟨k + 1, by omega, by go_num, hb2.alloc hz2 _, Lib.hid fun j hj => by
          rcases Nat.lt_succ_iff_lt_or_eq.1 hj with h1 | rfl
          · exact hall.out j h1
          · cases hh : bk j with
            | false => rfl
            | true => exact absurd (HBK.out.2 hh) (Int.not_lt.2 HLE.out)⟩
        case measure => simp [intOf]; omega
    · have hmiss := HIDX.out.2 (fun j hj => hall.out j (by omega))
      have HMISS := Lib.hid hmiss
      clear hmiss
      go_wp2
      go_ret
      exact ⟨by rw [HMISS.out]; rfl, hq⟩
end Go.Proofs.Ytilmlgngnbokfaa
