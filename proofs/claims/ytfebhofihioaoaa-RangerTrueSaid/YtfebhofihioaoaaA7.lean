/- Ranger, plain: the sample's numbers; all spots together; a crowd by remainders. -/
import Derived.Test.YtfebhofihioaoaaA6
namespace Go.Proofs.Ytfebhofihioaoaa
set_option linter.unusedVariables false
set_option linter.unusedSimpArgs false

theorem sum_take (l : List Nat) : ∀ k, k ≤ l.length → sumN (fun i => ((l.getD i 0 : Nat) : Int)) k = ((l.take k).sum : Nat)
  | 0, _ => by simp [sumN]
  | k + 1, h => by
    simp only [sumN]
    rw [sum_take l k (by omega), List.take_succ_eq_append_getElem (by omega), List.sum_append]
    simp [List.getD, show k < l.length by omega]
theorem sum_getD (l : List Nat) : sumN (fun i => ((l.getD i 0 : Nat) : Int)) l.length = (l.sum : Nat) := by
  rw [sum_take l l.length (Nat.le_refl _), List.take_length]
theorem forX_all {x : Prk} {S : Nat} (hS : ∀ i, i < x.n → S.testBit i = true) (posts : Nat → Int) : forX x posts S = sumN posts x.n := sumN_congr fun i hi => by
  rw [if_pos (canB_iff.2 ⟨i, hi, hS i hi, by simp [frX]⟩)]
theorem all_bits {n i : Nat} (h : i < n) : (2 ^ n - 1).testBit i = true := by rw [Nat.testBit_two_pow_sub_one]; simpa using h
/-- With fewer rangers than all spots together need nothing suffices. -/
theorem few_not {x : Prk} {m : List Nat} (hm : m.length = x.n) (h : (m.sum : Int) < needV x (2 ^ x.n - 1)) : ¬ Enough x (postF m) := fun he => by
  have h1 := he (2 ^ x.n - 1) (by have := Nat.two_pow_pos x.n; omega)
  rw [forX_all fun i hi => all_bits hi] at h1
  have h2 : sumN (postF m) x.n = (m.sum : Nat) := by rw [← hm]; exact sum_getD m
  omega

/-! The example. -/
def x0 : Prk := ⟨[(0, 100, 40, 2), (10, 60, 30, 5), (0, 50, 25, 0)], 20, 120⟩
theorem x0_ok : PrkOk x0 where
  n6 := by decide
  all := by decide
  peo := by decide
  hold := by decide
  near := by decide
  most := by decide
  least := by decide
def insR (r : Int × Int) : List (Int × Int) → List (Int × Int)
  | [] => [r]
  | s :: l => if r.1 ≤ s.1 then r :: s :: l else s :: insR r l
def sortR : List (Int × Int) → List (Int × Int)
  | [] => []
  | r :: l => insR r (sortR l)
theorem insR_perm (r : Int × Int) : ∀ l, (insR r l).Perm (r :: l)
  | [] => .refl _
  | s :: l => by
    unfold insR
    split
    · exact .refl _
    · exact ((insR_perm r l).cons s).trans (.swap _ _ _)
theorem sortR_perm : ∀ l, (sortR l).Perm l
  | [] => .refl _
  | r :: l => (insR_perm r (sortR l)).trans ((sortR_perm l).cons r)
theorem insR_sorted (r : Int × Int) : ∀ l : List (Int × Int), l.Pairwise (fun a b => a.1 ≤ b.1) → (insR r l).Pairwise fun a b => a.1 ≤ b.1
  | [], _ => by simp [insR]
  | s :: l, h => by
    obtain ⟨h1, h2⟩ := List.pairwise_cons.1 h
    unfold insR
    split
    · rename_i hrs
      refine List.pairwise_cons.2 ⟨fun b hb => ?_, h⟩
      rcases List.mem_cons.1 hb with rfl | hb
      · exact hrs
      · have := h1 b hb; omega
    · rename_i hrs
      refine List.pairwise_cons.2 ⟨fun b hb => ?_, insR_sorted r l h2⟩
      rcases List.mem_cons.1 ((insR_perm r l).mem_iff.1 hb) with rfl | hb
      · omega
      · exact h1 b hb
theorem sortR_sorted : ∀ l : List (Int × Int), (sortR l).Pairwise fun a b => a.1 ≤ b.1
  | [] => List.Pairwise.nil
  | r :: l => insR_sorted r _ (sortR_sorted l)
def runs0 (S : Nat) : List (Int × Int) := sortR (runsL x0 S 3)
/-- Every set of a valid park has a need. -/
theorem allNeed {x : Prk} (hx : PrkOk x) : AllNeed x := fun S => ⟨_, need_greed hx (sortR_perm (runsL x S x.n)) (sortR_sorted _)⟩
theorem need0 (S : Nat) : IsNeed x0 S (baseC x0 S + greed (runs0 S) 110) := need_greed x0_ok (l := runs0 S) (sortR_perm _) (sortR_sorted _)
theorem need0_val (S : Nat) : needV x0 S = baseC x0 S + greed (runs0 S) 110 := (need0 S).val
theorem all0 : AllNeed x0 := fun S => ⟨_, need0 S⟩
def needs0 : List Int := [0, 3, 2, 5, 2, 5, 4, 6]
theorem needs0_eq : ∀ S, S < 8 → baseC x0 S + greed (runs0 S) 110 = needs0.getD S 0 := by decide +kernel
theorem need0_tab {S : Nat} (h : S < 8) : needV x0 S = needs0.getD S 0 := by rw [need0_val, needs0_eq S h]
def enough0 (posts : Nat → Int) : Bool := (List.range 8).all fun S => decide (needs0.getD S 0 ≤ forX x0 posts S)
theorem enough0_iff (posts : Nat → Int) : enough0 posts = true ↔ Enough x0 posts := by
  unfold enough0
  simp only [List.all_eq_true, List.mem_range, decide_eq_true_iff]
  constructor
  · intro h S hS
    rw [need0_tab hS]
    exact h S hS
  · intro h S hS
    rw [← need0_tab hS]
    exact h S hS
theorem few0 : ∀ n, n < 6 → ∀ l ∈ vecs 3 n, enough0 (postF l) = false := by decide +kernel
theorem six0 : ∀ l ∈ vecs 3 6, enough0 (postF l) = true → ([0, 5, 1] ≤ l) := by decide +kernel
theorem fewest0 : IsFewest x0 [0, 5, 1] where
  len := rfl
  sum := by decide
  ok := (enough0_iff _).1 (by decide +kernel)
  least m hm hok := by
    have hok' := (enough0_iff _).2 hok
    rcases Nat.lt_trichotomy m.sum 6 with h | h | h
    · have := few0 m.sum h m ((mem_vecs 3 m.sum m).2 ⟨hm, rfl⟩)
      rw [this] at hok'; cases hok'
    · exact .inr ⟨h.symm, six0 m ((mem_vecs 3 6 m).2 ⟨hm, h⟩) hok'⟩
    · exact .inl h
end Go.Proofs.Ytfebhofihioaoaa
