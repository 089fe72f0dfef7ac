/- Ranger, plain: the first posts in order that suffice. -/
import Derived.Test.YtfebhofihioaoaaA9
namespace Go.Proofs.Ytfebhofihioaoaa
set_option linter.unusedVariables false
set_option linter.unusedSimpArgs false

open Classical in
noncomputable def enoughB (x : Prk) (l : List Nat) : Bool := decide (Enough x (postF l))
open Classical in
theorem enoughB_iff {x : Prk} {l : List Nat} : enoughB x l = true ↔ Enough x (postF l) := by unfold enoughB; exact decide_eq_true_iff
/-- The first list that goes on from p and is in E. -/
def fnd (E : List Nat → Bool) (p : List Nat) (k left : Nat) : Option (List Nat) := ((vecs k left).find? fun m => E (p ++ m)).map (p ++ ·)
theorem find_flat (E : List Nat → Bool) (p : List Nat) (g : Nat → List (List Nat)) : ∀ l : List Nat, ((l.flatMap fun v => (g v).map (v :: ·)).find? fun m => E (p ++ m)).map (p ++ ·) = l.findSome? fun v => ((g v).find? fun m => E ((p ++ [v]) ++ m)).map ((p ++ [v]) ++ ·)
  | [] => rfl
  | v :: l => by
    have ih := find_flat E p g l
    rw [List.flatMap_cons, List.find?_append, List.findSome?_cons]
    have h1 : ((g v).map (v :: ·)).find? (fun m => E (p ++ m)) = ((g v).find? fun m => E ((p ++ [v]) ++ m)).map (v :: ·) := by
      rw [List.find?_map]
      congr 2
      funext m
      simp
    rw [h1]
    cases h2 : (g v).find? fun m => E ((p ++ [v]) ++ m) with
    | none => simpa using ih
    | some m => simp
theorem fnd_succ (E : List Nat → Bool) (p : List Nat) (k left : Nat) : fnd E p (k + 1) left = (List.range (left + 1)).findSome? fun v => fnd E (p ++ [v]) k (left - v) := by
  unfold fnd
  rw [← find_flat]
  rfl
theorem fnd_zero (E : List Nat → Bool) (p : List Nat) : fnd E p 0 0 = if E p then some p else none := by
  unfold fnd vecs
  by_cases h : E p = true <;> simp [h]
theorem range_none {f : Nat → Option (List Nat)} {N : Nat} (h : ∀ v, v < N → f v = none) : (List.range N).findSome? f = none := by
  rw [List.findSome?_eq_none_iff]
  intro v hv
  exact h v (List.mem_range.1 hv)
theorem range_some {f : Nat → Option (List Nat)} {m : List Nat} : ∀ {N J : Nat}, J < N → (∀ v, v < J → f v = none) → f J = some m → (List.range N).findSome? f = some m
  | 0, _, hJ, _, _ => by omega
  | N + 1, J, hJ, h1, h2 => by
    rw [List.range_succ, List.findSome?_append]
    rcases Nat.lt_succ_iff_lt_or_eq.1 hJ with h | rfl
    · rw [range_some h h1 h2]; rfl
    · rw [range_none h1]
      simp [h2]
theorem fnd_one (E : List Nat → Bool) (p : List Nat) (left : Nat) : fnd E p 1 left = if E (p ++ [left]) then some (p ++ [left]) else none := by
  rw [fnd_succ]
  have h0 : ∀ v, v < left → fnd E (p ++ [v]) 0 (left - v) = none := fun v hv => by
    unfold fnd vecs
    rw [if_neg (by omega)]
    rfl
  have h1 := fnd_zero E (p ++ [left])
  by_cases h : E (p ++ [left]) = true
  · rw [if_pos h]
    rw [if_pos h] at h1
    refine range_some (J := left) (by omega) h0 ?_
    rw [Nat.sub_self]
    exact h1
  · rw [if_neg h]
    rw [if_neg h] at h1
    refine range_none fun v hv => ?_
    rcases Nat.lt_succ_iff_lt_or_eq.1 hv with h2 | rfl
    · exact h0 v h2
    · rw [Nat.sub_self]
      exact h1
/-- The fewest posts, if there are some. -/
noncomputable def fewV (x : Prk) : Option (List Nat) := (List.range 13).findSome? fun N => fnd (enoughB x) [] x.n N
theorem fnd_nil {E : List Nat → Bool} {k left : Nat} : fnd E [] k left = (vecs k left).find? E := by
  unfold fnd
  simp
theorem fnd_none {x : Prk} {N : Nat} (h : fnd (enoughB x) [] x.n N = none) {m : List Nat} (hm : m.length = x.n) (hs : m.sum = N) : ¬ Enough x (postF m) := fun he => by
  rw [fnd_nil, List.find?_eq_none] at h
  exact h m ((mem_vecs _ _ _).2 ⟨hm, hs⟩) (enoughB_iff.2 he)
theorem fewV_some {x : Prk} {m : List Nat} (h : fewV x = some m) : IsFewest x m := by
  unfold fewV at h
  obtain ⟨N, hN, h1, h2⟩ : ∃ N, N < 13 ∧ (∀ v, v < N → fnd (enoughB x) [] x.n v = none) ∧ fnd (enoughB x) [] x.n N = some m := by
    have key : ∀ K, (List.range K).findSome? (fun N => fnd (enoughB x) [] x.n N) = some m → ∃ N, N < K ∧ (∀ v, v < N → fnd (enoughB x) [] x.n v = none) ∧ fnd (enoughB x) [] x.n N = some m := fun K => by
      induction K with
      | zero => intro h; cases h
      | succ K ih =>
        intro h
        rw [List.range_succ, List.findSome?_append] at h
        cases h3 : (List.range K).findSome? fun N => fnd (enoughB x) [] x.n N with
        | some m' =>
          rw [h3] at h
          injection h with h
          subst h
          obtain ⟨N, h4, h5⟩ := ih h3
          exact ⟨N, by omega, h5⟩
        | none =>
          rw [h3] at h
          refine ⟨K, by omega, fun v hv => ?_, by simpa using h⟩
          rw [List.findSome?_eq_none_iff] at h3
          exact h3 v (List.mem_range.2 hv)
    exact key 13 h
  rw [fnd_nil, List.find?_eq_some_iff_getElem] at h2
  obtain ⟨h3, i, hi, rfl, h5⟩ := h2
  exact fewest_of (by omega) (fun m hm hs => fnd_none (h1 m.sum hs) hm rfl) hi (fun j hj he => by
    have := h5 j hj
    rw [enoughB_iff.2 he] at this
    cases this) (enoughB_iff.1 h3)
theorem fewV_none {x : Prk} (h : fewV x = none) {m : List Nat} (hm : m.length = x.n) (hs : m.sum ≤ 12) : ¬ Enough x (postF m) := by
  unfold fewV at h
  rw [List.findSome?_eq_none_iff] at h
  exact fnd_none (h m.sum (List.mem_range.2 (by omega))) hm rfl
/-- Below the need of all together nothing suffices. -/
theorem fnd_few {x : Prk} {N : Nat} (h : (N : Int) < needV x (2 ^ x.n - 1)) : fnd (enoughB x) [] x.n N = none := by
  rw [fnd_nil, List.find?_eq_none]
  intro m hm he
  obtain ⟨h1, h2⟩ := (mem_vecs _ _ _).1 hm
  exact few_not h1 (by rw [h2]; exact h) (enoughB_iff.1 he)
/-- Nothing lacks: the posts suffice. -/
theorem lack_zero {x : Prk} (hx : PrkOk x) (posts : Nat → Int) : (lackTo (needV x) (forX x posts) (2 ^ x.n)).1 = 0 ↔ Enough x posts := by
  rcases lackTo_spec (needV x) (forX x posts) (by rw [needV_zero (allNeed hx), forX_zero]) (2 ^ x.n) with ⟨h1, _, h2⟩ | ⟨h1, h2, h3, h4⟩
  · exact ⟨fun _ => h2, fun _ => h1⟩
  · refine ⟨fun h => by omega, fun h => ?_⟩
    have := h _ h2
    omega
end Go.Proofs.Ytfebhofihioaoaa
