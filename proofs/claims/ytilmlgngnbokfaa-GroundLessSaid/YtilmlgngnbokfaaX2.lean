/- The document's Share, Half. -/
import Derived.Test.YtilmlgngnbokfaaX1
import Derived.Test.YtilmlgngnbokfaaPg
namespace Go.Proofs.Ytilmlgngnbokfaa
set_option linter.unusedVariables false
set_option linter.unusedSimpArgs false
open Go.RowKit

/-- What a post bears of a person so far from it, times the denominator. -/
def shareU (l r wt x : Int) : Int :=
  if x = 0 then wt * comU l r else if x < 0 ∧ -x < l then wt * (l + x) * comU l r / l else if 0 < x ∧ x < r then wt * (r - x) * comU l r / r else 0
def shareD (d : Deck) (i : Nat) (x : Int) : Int := shareU (leftOf d.lengths i) (rightOf d.lengths i) d.weight x

def RetI (n : Int) (w : World) (e : Ending) (w' : World) : Prop := e = .returned (I n) ∧ Below w.heap.size w w'

set_option maxRecDepth 100000 in
set_option maxHeartbeats 1000000 in
theorem half_any (Ap Al : Option Addr) (cp cl : Nat) (d : Deck) (i : Nat) (w : World) (ha : DeckAt w Ap Al d) (hd : d.ok 1000000) (hi : i < d.posts.length) :
    Calls Try.prog 20 #[d.val Ap Al cp cl, I i] w (RetI (halfU (leftOf d.lengths i) (rightOf d.lengths i) d.own) w) := by
  have hbm := fun W (hB : Below w.heap.size w W) => beams_any Ap Al cp cl d i W (ha.below hB).hl (by have := hd.2.1; have := hd.2.2.1; omega) (by have := hd.2.2.1; omega)
  have hcm := fun W (hB : Below w.heap.size w W) => common_any Ap Al cp cl d i W (ha.below hB) hd hi
  have hbe := beam_bd hd i
  have hC : presC d i = 2 * max 1 (leftOf d.lengths i) * max 1 (rightOf d.lengths i) := rfl
  have hCb := comU_bd hbe.1 hbe.2
  have ho := hd.2.2.2.2.2.1
  rw [show comU (leftOf d.lengths i) (rightOf d.lengths i) = presC d i from rfl] at hCb
  generalize hL : leftOf d.lengths i = l at *
  generalize hR : rightOf d.lengths i = r at *
  generalize presC d i = C at *
  clear hL hR ha hd
  obtain ⟨ps, ls, own, wt, ap, pe⟩ := d
  simp only [Deck.val] at *
  have m1 := mul_bd ho.1 ho.2 (show 0 ≤ l + r by omega) (show l + r ≤ 400 by omega)
  have m2 := mul_bd m1.1 m1.2 (show 0 ≤ C by omega) hCb.2
  have hh : own * (l + r) * C / 2 = halfU l r own := by
    rw [hC]; unfold halfU
    rw [Int.mul_assoc 2, show own * (l + r) * (2 * (max 1 l * max 1 r)) = 2 * (own * (l + r) * (max 1 l * max 1 r)) by rw [Int.mul_left_comm], Int.mul_ediv_cancel_left _ (by omega)]
  rw [← hh]
  clear hC hh
  have HBM := Lib.hid hbm
  have HCM := Lib.hid hcm
  clear hbm hcm
  go_enter Try.func20, Try.ntmps20
  go_wp2_with (go_at_call 41; refine (HBM.out _ (by (repeat' (first | assumption | exact Below.refl _ _ | refine Below.drew ?_ | refine below_drewN ?_ _ | refine Below.setCell ?_ (by first | omega | (simp; done) | (simp; omega)) _ | refine Below.alloc ?_ (by first | omega | (simp; done) | (simp; omega)) _ | refine Below.trans ?_ (Below.mono (by assumption) (by first | omega | (simp; done) | (simp; omega))))))).mono ?_; rintro e w1 ⟨rfl, hB⟩)
  have hB1 := below_call (w := w) (by (repeat' (first | assumption | exact Below.refl _ _ | refine Below.drew ?_ | refine below_drewN ?_ _ | refine Below.setCell ?_ (by first | omega | (simp; done) | (simp; omega)) _ | refine Below.alloc ?_ (by first | omega | (simp; done) | (simp; omega)) _ | refine Below.trans ?_ (Below.mono (by assumption) (by first | omega | (simp; done) | (simp; omega)))))) hB
  have hz : w.heap.size < w1.heap.size := by have := hB.size; simp at this; omega
  obtain ⟨k0, k1, k2, k3, k4, k5⟩ : w1.cell? ⟨w.heap.size, 0, none⟩ = some (.slice Ap ps.length cp) ∧ w1.cell? ⟨w.heap.size, 1, none⟩ = some (.slice Al ls.length cl) ∧ w1.cell? ⟨w.heap.size, 2, none⟩ = some (I own) ∧ w1.cell? ⟨w.heap.size, 3, none⟩ = some (I wt) ∧ w1.cell? ⟨w.heap.size, 4, none⟩ = some (I ap) ∧ w1.cell? ⟨w.heap.size, 5, none⟩ = some (I pe) := by
    refine ⟨?_, ?_, ?_, ?_, ?_, ?_⟩ <;> (rw [hB.cell (p := ⟨w.heap.size, _, none⟩) (by simp)]; simp [go_sem])
  have HK0 := Lib.hid k0; have HK1 := Lib.hid k1; have HK2 := Lib.hid k2; have HK3 := Lib.hid k3; have HK4 := Lib.hid k4; have HK5 := Lib.hid k5
  have HB1 := Lib.hid hB1
  have w1' : IntKind.i64.wrap (l + r) = l + r := IntWalk.i64_in _ (by omega)
  have w2' : IntKind.i64.wrap (own * (l + r)) = own * (l + r) := IntWalk.i64_in _ (by omega)
  have w3' : IntKind.i64.wrap (own * (l + r) * C) = own * (l + r) * C := IntWalk.i64_in _ (by omega)
  have w4' : IntKind.i64.wrap ((own * (l + r) * C).tdiv 2) = own * (l + r) * C / 2 := by rw [Int.tdiv_eq_ediv_of_nonneg (by omega)]; exact IntWalk.i64_in _ (by omega)
  clear k0 k1 k2 k3 k4 k5 hB hB1
  refine (wpIn_wide (n := 9)).1 ?_
  refine wpIn_region_vals [some 13, some 14, some 15, some 16, some 17, some 18, some 19, some 20, some 21, some 22, some 23, some 4]
    (nthV [.pointer (some ⟨w.heap.size, 2, none⟩), I own, I l, I r, I (l + r), I (own * (l + r)), .agg #[.slice Ap ps.length cp, .slice Al ls.length cl, I own, I wt, I ap, I pe], I i, I C, I (own * (l + r) * C), I (own * (l + r) * C / 2), I (own * (l + r) * C / 2)])
    (fun W => Below w1.heap.size w1 W) rfl (by kernel_rfl) (by kernel_rfl) (by kernel_rfl) (fun _ d _ _ _ h => by cases d <;> exact h) (Below.refl _ _).drew ?_ ?_
  · refine ⟨?_, ?_, ?_, ?_, ?_, ?_, ?_, ?_, ?_, ?_, ?_, ?_, trivial⟩
    · (intro x W hC K hK; have HK := Lib.hid hK; have HC := Lib.hid hC; clear hC hK; simp only [putD, nthV, Act.put, List.setIfInBounds_toArray, List.set_cons_succ, List.set_cons_zero, Nat.zero_add, Nat.reduceAdd, Nat.reduceEqDiff, reduceIte , Nat.succ_ne_zero, Nat.zero_ne_one, Nat.one_ne_zero] at HK ⊢)
      (refine op_li rfl ?_; go_simp; exact HK.out _ HC.out)
    · (intro x W hC K hK; have HK := Lib.hid hK; have HC := Lib.hid hC; clear hC hK; simp only [putD, nthV, Act.put, List.setIfInBounds_toArray, List.set_cons_succ, List.set_cons_zero, Nat.zero_add, Nat.reduceAdd, Nat.reduceEqDiff, reduceIte , Nat.succ_ne_zero, Nat.zero_ne_one, Nat.one_ne_zero] at HK ⊢)
      have c := (HC.out.cell (p := ⟨w.heap.size, 2, none⟩) hz).trans HK2.out
      (refine op_li rfl ?_; go_simp; exact HK.out _ HC.out)
    iterate 4
      (intro x W hC K hK; have HK := Lib.hid hK; have HC := Lib.hid hC; clear hC hK; simp only [putD, nthV, Act.put, List.setIfInBounds_toArray, List.set_cons_succ, List.set_cons_zero, Nat.zero_add, Nat.reduceAdd, Nat.reduceEqDiff, reduceIte , Nat.succ_ne_zero, Nat.zero_ne_one, Nat.one_ne_zero] at HK ⊢)
      (refine op_li rfl ?_; go_simp; exact HK.out _ HC.out)
    · (intro x W hC K hK; have HK := Lib.hid hK; have HC := Lib.hid hC; clear hC hK; simp only [putD, nthV, Act.put, List.setIfInBounds_toArray, List.set_cons_succ, List.set_cons_zero, Nat.zero_add, Nat.reduceAdd, Nat.reduceEqDiff, reduceIte , Nat.succ_ne_zero, Nat.zero_ne_one, Nat.one_ne_zero] at HK ⊢)
      have c0 := (HC.out.cell (p := ⟨w.heap.size, 0, none⟩) hz).trans HK0.out
      have c1 := (HC.out.cell (p := ⟨w.heap.size, 1, none⟩) hz).trans HK1.out
      have c2 := (HC.out.cell (p := ⟨w.heap.size, 2, none⟩) hz).trans HK2.out
      have c3 := (HC.out.cell (p := ⟨w.heap.size, 3, none⟩) hz).trans HK3.out
      have c4 := (HC.out.cell (p := ⟨w.heap.size, 4, none⟩) hz).trans HK4.out
      have c5 := (HC.out.cell (p := ⟨w.heap.size, 5, none⟩) hz).trans HK5.out
      (refine op_li rfl ?_; go_simp; exact HK.out _ HC.out)
    · (intro x W hC K hK; have HK := Lib.hid hK; have HC := Lib.hid hC; clear hC hK; simp only [putD, nthV, Act.put, List.setIfInBounds_toArray, List.set_cons_succ, List.set_cons_zero, Nat.zero_add, Nat.reduceAdd, Nat.reduceEqDiff, reduceIte , Nat.succ_ne_zero, Nat.zero_ne_one, Nat.one_ne_zero] at HK ⊢)
      (refine op_li rfl ?_; go_simp; exact HK.out _ HC.out)
    · (intro x W hC K hK; have HK := Lib.hid hK; have HC := Lib.hid hC; clear hC hK; simp only [putD, nthV, Act.put, List.setIfInBounds_toArray, List.set_cons_succ, List.set_cons_zero, Nat.zero_add, Nat.reduceAdd, Nat.reduceEqDiff, reduceIte , Nat.succ_ne_zero, Nat.zero_ne_one, Nat.one_ne_zero] at HK ⊢)
      gi_wp2_with (refine And.intro trivial ?_; gi_at_call 17; refine callsIn_wide.2 ((HCM.out _ (below_call HB1.out HC.out)).mono ?_); rintro e w2 ⟨rfl, hB2⟩)
      exact HK.out _ (HC.out.trans (hB2.mono HC.out.size))
    iterate 3
      (intro x W hC K hK; have HK := Lib.hid hK; have HC := Lib.hid hC; clear hC hK; simp only [putD, nthV, Act.put, List.setIfInBounds_toArray, List.set_cons_succ, List.set_cons_zero, Nat.zero_add, Nat.reduceAdd, Nat.reduceEqDiff, reduceIte , Nat.succ_ne_zero, Nat.zero_ne_one, Nat.one_ne_zero] at HK ⊢)
      (refine op_li rfl ?_; go_simp; exact HK.out _ HC.out)
  · (intro W hC; have HC := Lib.hid hC; clear hC; simp only [putD, nthV, Act.put, List.setIfInBounds_toArray, List.set_cons_succ, List.set_cons_zero, Nat.zero_add, Nat.reduceAdd])
    go_wp2
    go_ret
    exact ⟨rfl, below_call HB1.out HC.out⟩

set_option maxRecDepth 100000 in
set_option maxHeartbeats 2000000 in
theorem share_any (Ap Al : Option Addr) (cp cl : Nat) (d : Deck) (i : Nat) (x : Int) (w : World) (ha : DeckAt w Ap Al d) (hd : d.ok 1000000) (hi : i < d.posts.length) (hx : -1000000 ≤ x ∧ x ≤ 1000000) :
    Calls Try.prog 18 #[d.val Ap Al cp cl, I i, I x] w (RetI (shareD d i x) w) := by
  have hbm := fun W (hB : Below w.heap.size w W) => beams_any Ap Al cp cl d i W (ha.below hB).hl (by have := hd.2.1; have := hd.2.2.1; omega) (by have := hd.2.2.1; omega)
  have hcm := fun W (hB : Below w.heap.size w W) => common_any Ap Al cp cl d i W (ha.below hB) hd hi
  have hbe := beam_bd hd i
  have hC : presC d i = comU (leftOf d.lengths i) (rightOf d.lengths i) := rfl
  have hCb := comU_bd hbe.1 hbe.2
  have ho := hd.2.2.2.2.2.2.1
  unfold shareD shareU
  rw [← hC] at hCb ⊢
  generalize hL : leftOf d.lengths i = l at *
  generalize hR : rightOf d.lengths i = r at *
  generalize presC d i = C at *
  clear hL hR ha hd hC
  obtain ⟨ps, ls, own, wt, ap, pe⟩ := d
  simp only [Deck.val] at *
  have HBM := Lib.hid hbm
  have HCM := Lib.hid hcm
  clear hbm hcm
  have hcells : ∀ W, Below (w.heap.size + 1) (w.alloc (.cells #[.slice Ap ps.length cp, .slice Al ls.length cl, I own, I wt, I ap, I pe] 24)) W →
      W.cell? ⟨w.heap.size, 0, none⟩ = some (.slice Ap ps.length cp) ∧ W.cell? ⟨w.heap.size, 1, none⟩ = some (.slice Al ls.length cl) ∧ W.cell? ⟨w.heap.size, 2, none⟩ = some (I own) ∧ W.cell? ⟨w.heap.size, 3, none⟩ = some (I wt) ∧ W.cell? ⟨w.heap.size, 4, none⟩ = some (I ap) ∧ W.cell? ⟨w.heap.size, 5, none⟩ = some (I pe) := fun W hB => by
    refine ⟨?_, ?_, ?_, ?_, ?_, ?_⟩ <;> (rw [hB.cell (p := ⟨w.heap.size, _, none⟩) (by simp)]; simp [go_sem])
  have HCE := Lib.hid hcells
  clear hcells
  by_cases h0 : x = 0
  · subst h0
    rw [if_pos rfl]
    have m1 := mul_bd ho.1 ho.2 (show 0 ≤ C by omega) hCb.2
    have w1' : IntKind.i64.wrap (wt * C) = wt * C := IntWalk.i64_in _ (by omega)
    have HW1 := Lib.hid w1'
    clear w1'
    go_enter Try.func18, Try.ntmps18
    go_wp2_with (go_at_call 41; refine (HBM.out _ (by (repeat' (first | assumption | exact Below.refl _ _ | refine Below.drew ?_ | refine below_drewN ?_ _ | refine Below.setCell ?_ (by first | omega | (simp; done) | (simp; omega)) _ | refine Below.alloc ?_ (by first | omega | (simp; done) | (simp; omega)) _ | refine Below.trans ?_ (Below.mono (by assumption) (by first | omega | (simp; done) | (simp; omega))))))).mono ?_; rintro e w1 ⟨rfl, hB⟩)
    have hB0 : Below (w.heap.size + 1) (w.alloc (.cells #[.slice Ap ps.length cp, .slice Al ls.length cl, I own, I wt, I ap, I pe] 24)) w1 := by simpa using hB
    have HB0 := Lib.hid hB0
    have HB1 := Lib.hid (below_call (w := w) (by (repeat' (first | assumption | exact Below.refl _ _ | refine Below.drew ?_ | refine below_drewN ?_ _ | refine Below.setCell ?_ (by first | omega | (simp; done) | (simp; omega)) _ | refine Below.alloc ?_ (by first | omega | (simp; done) | (simp; omega)) _ | refine Below.trans ?_ (Below.mono (by assumption) (by first | omega | (simp; done) | (simp; omega)))))) hB)
    have hz := hB0.size
    simp at hz
    have w1' := HW1.out
    clear hB hB0
    refine (wpIn_wide (n := 9)).1 ?_
    refine wpIn_region_vals [some 17, some 18, some 19, some 20, some 21, some 22, some 6]
      (nthV [.pointer (some ⟨w.heap.size, 3, none⟩), I wt, .agg #[.slice Ap ps.length cp, .slice Al ls.length cl, I own, I wt, I ap, I pe], I i, I C, I (wt * C), I (wt * C)])
      (fun W => Below w1.heap.size w1 W) rfl (by kernel_rfl) (by kernel_rfl) (by kernel_rfl) (fun _ d _ _ _ h => by cases d <;> exact h) (Below.refl _ _).drew ?_ ?_
    · refine ⟨?_, ?_, ?_, ?_, ?_, ?_, ?_, trivial⟩
      all_goals ((intro x W hC K hK; have HK := Lib.hid hK; have HC := Lib.hid hC; clear hC hK; simp only [putD, nthV, Act.put, List.setIfInBounds_toArray, List.set_cons_succ, List.set_cons_zero, Nat.zero_add, Nat.reduceAdd, Nat.reduceEqDiff, reduceIte , Nat.succ_ne_zero, Nat.zero_ne_one, Nat.one_ne_zero] at HK ⊢); obtain ⟨c0, c1, c2, c3, c4, c5⟩ := HCE.out _ (HB0.out.trans (HC.out.mono hz)))
      all_goals first
        | (refine op_li rfl ?_; go_simp; exact HK.out _ HC.out)
        | (gi_wp2_with (refine And.intro trivial ?_; gi_at_call 17; refine callsIn_wide.2 ((HCM.out _ (below_call HB1.out HC.out)).mono ?_); rintro e w2 ⟨rfl, hB2⟩)
           exact HK.out _ (HC.out.trans (hB2.mono HC.out.size)))
    · (intro W hC; have HC := Lib.hid hC; clear hC; simp only [putD, nthV, Act.put, List.setIfInBounds_toArray, List.set_cons_succ, List.set_cons_zero, Nat.zero_add, Nat.reduceAdd])
      go_wp2
      go_ret
      exact ⟨rfl, below_call HB1.out HC.out⟩
  · rw [if_neg h0]
    by_cases h1 : x < 0 ∧ -x < l
    · rw [if_pos h1]
      have n1 := mul_bd ho.1 ho.2 (show 0 ≤ l + x by omega) (show l + x ≤ 200 by omega)
      have m1 := mul_bd n1.1 n1.2 (show 0 ≤ C by omega) hCb.2
      have wA : IntKind.i64.wrap (l + x) = l + x := IntWalk.i64_in _ (by omega)
      have wB : IntKind.i64.wrap (wt * (l + x)) = wt * (l + x) := IntWalk.i64_in _ (by omega)
      have wC : IntKind.i64.wrap (wt * (l + x) * C) = wt * (l + x) * C := IntWalk.i64_in _ (by omega)
      have wD : IntKind.i64.wrap ((wt * (l + x) * C).tdiv l) = wt * (l + x) * C / l := by
        rw [Int.tdiv_eq_ediv_of_nonneg (by omega)]
        have := div_bd (a := wt * (l + x) * C) (x := l) (by omega) (by omega)
        exact IntWalk.i64_in _ (by omega)
      have HWA := Lib.hid wA; have HWB := Lib.hid wB; have HWC := Lib.hid wC; have HWD := Lib.hid wD
      clear wA wB wC wD n1 m1
      obtain ⟨hx0, hxl⟩ := h1
      have h0' : (x == 0) = false := by simpa using h0
      clear h0
      go_enter Try.func18, Try.ntmps18
      go_wp2_with (go_at_call 41; refine (HBM.out _ (by (repeat' (first | assumption | exact Below.refl _ _ | refine Below.drew ?_ | refine below_drewN ?_ _ | refine Below.setCell ?_ (by first | omega | (simp; done) | (simp; omega)) _ | refine Below.alloc ?_ (by first | omega | (simp; done) | (simp; omega)) _ | refine Below.trans ?_ (Below.mono (by assumption) (by first | omega | (simp; done) | (simp; omega))))))).mono ?_; rintro e w1 ⟨rfl, hB⟩)
      have hB0 : Below (w.heap.size + 1) (w.alloc (.cells #[.slice Ap ps.length cp, .slice Al ls.length cl, I own, I wt, I ap, I pe] 24)) w1 := by simpa using hB
      have HB0 := Lib.hid hB0
      have HB1 := Lib.hid (below_call (w := w) (by (repeat' (first | assumption | exact Below.refl _ _ | refine Below.drew ?_ | refine below_drewN ?_ _ | refine Below.setCell ?_ (by first | omega | (simp; done) | (simp; omega)) _ | refine Below.alloc ?_ (by first | omega | (simp; done) | (simp; omega)) _ | refine Below.trans ?_ (Below.mono (by assumption) (by first | omega | (simp; done) | (simp; omega)))))) hB)
      have hz := hB0.size
      simp at hz
      have wA := HWA.out; have wB := HWB.out; have wC := HWC.out; have wD := HWD.out
      have hl1 : (l == 0) = false := by simp; omega
      have hl2 : l ≠ 0 := by omega
      clear hB hB0
      refine (wpIn_wide (n := 9)).1 ?_
      refine wpIn_region_vals [some 31, some 32, some 33, some 34, some 35, some 36, some 37, some 38, some 39, some 40, some 41, some 42, some 6]
        (nthV [.pointer (some ⟨w.heap.size, 3, none⟩), I wt, I l, I x, I (l + x), I (wt * (l + x)), .agg #[.slice Ap ps.length cp, .slice Al ls.length cl, I own, I wt, I ap, I pe], I i, I C, I (wt * (l + x) * C), I l, I (wt * (l + x) * C / l), I (wt * (l + x) * C / l)])
        (fun W => Below w1.heap.size w1 W) rfl (by kernel_rfl) (by kernel_rfl) (by kernel_rfl) (fun _ d _ _ _ h => by cases d <;> exact h) (Below.refl _ _).drew ?_ ?_
      · refine ⟨?_, ?_, ?_, ?_, ?_, ?_, ?_, ?_, ?_, ?_, ?_, ?_, ?_, trivial⟩
        all_goals ((intro x W hC K hK; have HK := Lib.hid hK; have HC := Lib.hid hC; clear hC hK; simp only [putD, nthV, Act.put, List.setIfInBounds_toArray, List.set_cons_succ, List.set_cons_zero, Nat.zero_add, Nat.reduceAdd, Nat.reduceEqDiff, reduceIte , Nat.succ_ne_zero, Nat.zero_ne_one, Nat.one_ne_zero] at HK ⊢); obtain ⟨c0, c1, c2, c3, c4, c5⟩ := HCE.out _ (HB0.out.trans (HC.out.mono hz)))
        all_goals first
          | (refine op_li rfl ?_; go_simp; exact HK.out _ HC.out)
          | (gi_wp2_with (refine And.intro trivial ?_; gi_at_call 17; refine callsIn_wide.2 ((HCM.out _ (below_call HB1.out HC.out)).mono ?_); rintro e w2 ⟨rfl, hB2⟩)
             exact HK.out _ (HC.out.trans (hB2.mono HC.out.size)))
      · (intro W hC; have HC := Lib.hid hC; clear hC; simp only [putD, nthV, Act.put, List.setIfInBounds_toArray, List.set_cons_succ, List.set_cons_zero, Nat.zero_add, Nat.reduceAdd])
        go_wp2
        go_ret
        exact ⟨rfl, below_call HB1.out HC.out⟩
    · rw [if_neg h1]
      by_cases h2 : 0 < x ∧ x < r
      · rw [if_pos h2]
        have n1 := mul_bd ho.1 ho.2 (show 0 ≤ r - x by omega) (show r - x ≤ 200 by omega)
        have m1 := mul_bd n1.1 n1.2 (show 0 ≤ C by omega) hCb.2
        have wA : IntKind.i64.wrap (r - x) = r - x := IntWalk.i64_in _ (by omega)
        have wB : IntKind.i64.wrap (wt * (r - x)) = wt * (r - x) := IntWalk.i64_in _ (by omega)
        have wC : IntKind.i64.wrap (wt * (r - x) * C) = wt * (r - x) * C := IntWalk.i64_in _ (by omega)
        have wD : IntKind.i64.wrap ((wt * (r - x) * C).tdiv r) = wt * (r - x) * C / r := by
          rw [Int.tdiv_eq_ediv_of_nonneg (by omega)]
          have := div_bd (a := wt * (r - x) * C) (x := r) (by omega) (by omega)
          exact IntWalk.i64_in _ (by omega)
        have HWA := Lib.hid wA; have HWB := Lib.hid wB; have HWC := Lib.hid wC; have HWD := Lib.hid wD
        clear wA wB wC wD n1 m1
        obtain ⟨hx0, hxl⟩ := h2
        have h0' : (x == 0) = false := by simpa using h0
        clear h0
        go_enter Try.func18, Try.ntmps18
        go_wp2_with (go_at_call 41; refine (HBM.out _ (by (repeat' (first | assumption | exact Below.refl _ _ | refine Below.drew ?_ | refine below_drewN ?_ _ | refine Below.setCell ?_ (by first | omega | (simp; done) | (simp; omega)) _ | refine Below.alloc ?_ (by first | omega | (simp; done) | (simp; omega)) _ | refine Below.trans ?_ (Below.mono (by assumption) (by first | omega | (simp; done) | (simp; omega))))))).mono ?_; rintro e w1 ⟨rfl, hB⟩)
        have hB0 : Below (w.heap.size + 1) (w.alloc (.cells #[.slice Ap ps.length cp, .slice Al ls.length cl, I own, I wt, I ap, I pe] 24)) w1 := by simpa using hB
        have HB0 := Lib.hid hB0
        have HB1 := Lib.hid (below_call (w := w) (by (repeat' (first | assumption | exact Below.refl _ _ | refine Below.drew ?_ | refine below_drewN ?_ _ | refine Below.setCell ?_ (by first | omega | (simp; done) | (simp; omega)) _ | refine Below.alloc ?_ (by first | omega | (simp; done) | (simp; omega)) _ | refine Below.trans ?_ (Below.mono (by assumption) (by first | omega | (simp; done) | (simp; omega)))))) hB)
        have hz := hB0.size
        simp at hz
        have wA := HWA.out; have wB := HWB.out; have wC := HWC.out; have wD := HWD.out
        have hl1 : (r == 0) = false := by simp; omega
        have hl2 : r ≠ 0 := by omega
        clear hB hB0
        refine (wpIn_wide (n := 9)).1 ?_
        refine wpIn_region_vals [some 50, some 51, some 52, some 53, some 54, some 55, some 56, some 57, some 58, some 59, some 60, some 61, some 6]
          (nthV [.pointer (some ⟨w.heap.size, 3, none⟩), I wt, I r, I x, I (r - x), I (wt * (r - x)), .agg #[.slice Ap ps.length cp, .slice Al ls.length cl, I own, I wt, I ap, I pe], I i, I C, I (wt * (r - x) * C), I r, I (wt * (r - x) * C / r), I (wt * (r - x) * C / r)])
          (fun W => Below w1.heap.size w1 W) rfl (by kernel_rfl) (by kernel_rfl) (by kernel_rfl) (fun _ d _ _ _ h => by cases d <;> exact h) (Below.refl _ _).drew ?_ ?_
        · refine ⟨?_, ?_, ?_, ?_, ?_, ?_, ?_, ?_, ?_, ?_, ?_, ?_, ?_, trivial⟩
          all_goals ((intro x W hC K hK; have HK := Lib.hid hK; have HC := Lib.hid hC; clear hC hK; simp only [putD, nthV, Act.put, List.setIfInBounds_toArray, List.set_cons_succ, List.set_cons_zero, Nat.zero_add, Nat.reduceAdd, Nat.reduceEqDiff, reduceIte , Nat.succ_ne_zero, Nat.zero_ne_one, Nat.one_ne_zero] at HK ⊢); obtain ⟨c0, c1, c2, c3, c4, c5⟩ := HCE.out _ (HB0.out.trans (HC.out.mono hz)))
          all_goals first
            | (refine op_li rfl ?_; go_simp; exact HK.out _ HC.out)
            | (gi_wp2_with (refine And.intro trivial ?_; gi_at_call 17; refine callsIn_wide.2 ((HCM.out _ (below_call HB1.out HC.out)).mono ?_); rintro e w2 ⟨rfl, hB2⟩)
               exact HK.out _ (HC.out.trans (hB2.mono HC.out.size)))
        · (intro W hC; have HC := Lib.hid hC; clear hC; simp only [putD, nthV, Act.put, List.setIfInBounds_toArray, List.set_cons_succ, List.set_cons_zero, Nat.zero_add, Nat.reduceAdd])
          go_wp2
          go_ret
          exact ⟨rfl, below_call HB1.out HC.out⟩
      · rw [if_neg h2]
        have h0' : (x == 0) = false := by simpa using h0
        clear h0
        by_cases hx0 : x < 0
        · have hxl : l ≤ -x := by omega
          go_enter Try.func18, Try.ntmps18
          go_wp2_with (go_at_call 41; refine (HBM.out _ (by (repeat' (first | assumption | exact Below.refl _ _ | refine Below.drew ?_ | refine below_drewN ?_ _ | refine Below.setCell ?_ (by first | omega | (simp; done) | (simp; omega)) _ | refine Below.alloc ?_ (by first | omega | (simp; done) | (simp; omega)) _ | refine Below.trans ?_ (Below.mono (by assumption) (by first | omega | (simp; done) | (simp; omega))))))).mono ?_; rintro e w1 ⟨rfl, hB⟩)
          go_ret
          exact ⟨rfl, below_call (by (repeat' (first | assumption | exact Below.refl _ _ | refine Below.drew ?_ | refine below_drewN ?_ _ | refine Below.setCell ?_ (by first | omega | (simp; done) | (simp; omega)) _ | refine Below.alloc ?_ (by first | omega | (simp; done) | (simp; omega)) _ | refine Below.trans ?_ (Below.mono (by assumption) (by first | omega | (simp; done) | (simp; omega)))))) hB⟩
        · have hx1 : 0 < x := by
            have : x ≠ 0 := by simpa using h0'
            omega
          have hxl : r ≤ x := by omega
          go_enter Try.func18, Try.ntmps18
          go_wp2_with (go_at_call 41; refine (HBM.out _ (by (repeat' (first | assumption | exact Below.refl _ _ | refine Below.drew ?_ | refine below_drewN ?_ _ | refine Below.setCell ?_ (by first | omega | (simp; done) | (simp; omega)) _ | refine Below.alloc ?_ (by first | omega | (simp; done) | (simp; omega)) _ | refine Below.trans ?_ (Below.mono (by assumption) (by first | omega | (simp; done) | (simp; omega))))))).mono ?_; rintro e w1 ⟨rfl, hB⟩)
          go_ret
          exact ⟨rfl, below_call (by (repeat' (first | assumption | exact Below.refl _ _ | refine Below.drew ?_ | refine below_drewN ?_ _ | refine Below.setCell ?_ (by first | omega | (simp; done) | (simp; omega)) _ | refine Below.alloc ?_ (by first | omega | (simp; done) | (simp; omega)) _ | refine Below.trans ?_ (Below.mono (by assumption) (by first | omega | (simp; done) | (simp; omega)))))) hB⟩
end Go.Proofs.Ytilmlgngnbokfaa
