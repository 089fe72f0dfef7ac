/- Choosing the greatest: plain. -/
import Derived.Test.YtilmlgngnbokfaaL2
namespace Go.Proofs.Ytilmlgngnbokfaa
set_option linter.unusedVariables false
set_option linter.unusedSimpArgs false
open Go

/-- The first k are the greatest, falling. -/
def Sel (ys xs : List Int) (k : Nat) : Prop := ys.Perm xs ∧ ∀ i j (hij : i < j) (hj : j < ys.length), i < k → ys[j] ≤ ys[i]
theorem Sel.zero (xs : List Int) : Sel xs xs 0 := ⟨List.Perm.refl _, fun i j _ _ h => by omega⟩
theorem Sel.sum {ys xs : List Int} {k : Nat} (h : Sel ys xs k) (hk : k ≤ ys.length) : (ys.take k).sum = topS k xs := by
  have hp : (ys.take k ++ (ys.drop k).mergeSort geI).Perm xs := by
    refine List.Perm.trans (List.Perm.append_left _ (List.mergeSort_perm _ _)) ?_
    rw [List.take_append_drop]
    exact h.1
  have hs : (ys.take k ++ (ys.drop k).mergeSort geI).Pairwise (fun a b => b ≤ a) := by
    refine List.pairwise_append.2 ⟨?_, sort_desc _, fun a ha b hb => ?_⟩
    · refine List.pairwise_iff_getElem.2 fun i j hi hj hij => ?_
      rw [List.getElem_take, List.getElem_take]
      have : j < k := by simp at hj; omega
      exact h.2 i j hij (by omega) (by omega)
    · have hb' := (List.mergeSort_perm (ys.drop k) geI).mem_iff.1 hb
      obtain ⟨i, hi, rfl⟩ := List.mem_iff_getElem.1 ha
      obtain ⟨j, hj, rfl⟩ := List.mem_iff_getElem.1 hb'
      rw [List.getElem_take, List.getElem_drop]
      simp at hi
      exact h.2 i (k + j) (by omega) (by simp at hj; omega) (by omega)
  unfold topS
  rw [← eq_sort hp hs, List.take_left' (by simp; omega)]

def swapL (ys : List Int) (i k : Nat) (hi : i < ys.length) (hk : k < ys.length) : List Int := (ys.set i ys[k]).set k ys[i]
theorem swapL_perm {ys : List Int} {i k : Nat} (hi : i < ys.length) (hk : k < ys.length) : (swapL ys i k hi hk).Perm ys := by
  have h := Array.swap_perm (xs := ys.toArray) (i := i) (j := k) (by simpa using hi) (by simpa using hk)
  have h2 := h.toList
  simpa [swapL, Array.swap] using h2
theorem swapL_length {ys : List Int} {i k : Nat} (hi : i < ys.length) (hk : k < ys.length) : (swapL ys i k hi hk).length = ys.length := by simp [swapL]
theorem swapL_get {ys : List Int} {i k : Nat} (hi : i < ys.length) (hk : k < ys.length) (j : Nat) (hj : j < ys.length) : (swapL ys i k hi hk)[j]'(by simp [swapL]; exact hj) = if j = k then ys[i] else if j = i then ys[k] else ys[j] := by
  simp only [swapL, List.getElem_set]
  by_cases h1 : k = j
  · subst h1; simp
  · rw [if_neg h1, if_neg (Ne.symm h1)]
    by_cases h2 : i = j
    · subst h2; simp
    · rw [if_neg h2, if_neg (Ne.symm h2)]

theorem Sel.swap {ys xs : List Int} {k i : Nat} (h : Sel ys xs k) (hk : k < ys.length) (hi : i < ys.length) (hki : k < i) : Sel (swapL ys i k hi hk) xs k := by
  refine ⟨(swapL_perm hi hk).trans h.1, fun a b hab hb ha => ?_⟩
  rw [swapL_length] at hb
  rw [swapL_get hi hk b hb, swapL_get hi hk a (by omega), if_neg (show ¬ a = k by omega), if_neg (show ¬ a = i by omega)]
  split
  · exact h.2 a i (by omega) hi ha
  · split
    · exact h.2 a k (by omega) hk ha
    · exact h.2 a b hab hb ha
/-- Up to i none behind k is greater than it. -/
def Best (ys : List Int) (k i : Nat) : Prop := ∀ j (hkj : k < j) (hj : j < ys.length), j < i → ys[j] ≤ ys[k]
theorem Best.one {ys : List Int} {k i : Nat} (h : Best ys k i) (hi : i < ys.length) (hki : k < i) (hle : ys[i] ≤ ys[k]) : Best ys k (i + 1) := fun j hkj hj hji => by
  by_cases e : j = i
  · subst e; exact hle
  · exact h j hkj hj (by omega)
theorem Best.swap {ys : List Int} {k i : Nat} (h : Best ys k i) (hi : i < ys.length) (hk : k < ys.length) (hki : k < i) (hlt : ys[k] < ys[i]) : Best (swapL ys i k hi hk) k (i + 1) := fun j hkj hj hji => by
  rw [swapL_length] at hj
  rw [swapL_get hi hk j hj, swapL_get hi hk k hk, if_pos rfl, if_neg (show ¬ j = k by omega)]
  split
  · omega
  · have := h j hkj hj (by omega)
    omega
theorem Sel.next {ys xs : List Int} {k : Nat} (h : Sel ys xs k) (hb : Best ys k ys.length) : Sel ys xs (k + 1) := ⟨h.1, fun i j hij hj hi => by
  by_cases e : i = k
  · subst e; exact hb j hij hj hj
  · exact h.2 i j hij hj (by omega)⟩
theorem swapL_take {ys : List Int} {k i : Nat} (hk : k < ys.length) (hi : i < ys.length) (hki : k < i) : (swapL ys i k hi hk).take k = ys.take k := by
  unfold swapL
  rw [List.take_set_of_le (by omega), List.take_set_of_le (by omega)]
end Go.Proofs.Ytilmlgngnbokfaa
