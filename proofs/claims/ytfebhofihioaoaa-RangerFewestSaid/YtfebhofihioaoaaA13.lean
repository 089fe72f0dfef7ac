/- Ranger, plain: the fewest posts, and any others. -/
import Derived.Test.YtfebhofihioaoaaS24
namespace Go.Proofs.Ytfebhofihioaoaa
set_option linter.unusedVariables false
set_option linter.unusedSimpArgs false
open Go Go.RowKit

theorem crF_map (m : List Nat) (i : Nat) : crF (m.map fun k : Nat => (k : Int)) i = postF m i := by
  unfold crF postF
  rw [List.getD_eq_getElem?_getD, List.getD_eq_getElem?_getD, List.getElem?_map]
  cases m[i]? <;> rfl
theorem crF_toNat {o : List Int} (h : ∀ k (h : k < o.length), 0 ≤ o[k]) (i : Nat) : crF o i = postF (o.map Int.toNat) i := by
  unfold crF postF
  rw [List.getD_eq_getElem?_getD, List.getD_eq_getElem?_getD, List.getElem?_map]
  by_cases hi : i < o.length
  · have := h i hi
    simp [hi]
    omega
  · simp [hi]
theorem sum_toNat : ∀ o : List Int, (∀ k (h : k < o.length), 0 ≤ o[k]) → (((o.map Int.toNat).sum : Nat) : Int) = o.sum
  | [], _ => rfl
  | a :: o, h => by
    have h0 := h 0 (by simp)
    have ih := sum_toNat o fun k hk => by
      have := h (k + 1) (by simp; omega)
      simpa using this
    simp only [List.map_cons, List.sum_cons] at *
    simp at h0
    omega
theorem enough_congr {x : Prk} {p q : Nat → Int} (h : ∀ i, p i = q i) : Enough x p ↔ Enough x q := by
  have : p = q := funext h
  rw [this]
theorem le_sum_nat : ∀ (m : List Nat) (k : Nat) (h : k < m.length), m[k] ≤ m.sum
  | a :: m, 0, _ => by simp
  | a :: m, k + 1, h => by
    have := le_sum_nat m k (by simpa using h)
    simp only [List.getElem_cons_succ, List.sum_cons]
    omega
/-- Posts of the right length and size. -/
theorem lack_kind {x : Prk} (hx : PrkOk x) {o : List Int} (ho : o.length = x.n) (h0 : ∀ k (h : k < o.length), 0 ≤ o[k] ∧ o[k] ≤ 12) :
    (Enough x (crF o) ∧ (lackR x o).2.2 = 4) ∨ (¬ Enough x (crF o) ∧ (lackR x o).2.2 = 0) := by
  have h1 := lack_zero hx (crF o)
  unfold lackR lackOf
  rw [prkB_iff.2 hx, postsB_iff.2 ⟨ho, h0⟩, if_pos rfl, if_pos rfl]
  by_cases h : Enough x (crF o)
  · rw [if_pos (h1.2 h)]
    exact .inl ⟨h, rfl⟩
  · rw [if_neg fun e => h (h1.1 e)]
    exact .inr ⟨h, rfl⟩
theorem lex_first {m o : List Nat} (h : m ≤ o) {k : Nat} (hk : k < m.length) (hk' : k < o.length) (hp : ∀ j, j < k → postF m j = postF o j) (hne : postF m k ≠ postF o k) : postF m k < postF o k := by
  have e : ∀ (l : List Nat) (j : Nat) (h : j < l.length), postF l j = (l[j] : Int) := fun l j h => by simp [postF, List.getD, h]
  rcases Int.lt_trichotomy (postF m k) (postF o k) with h1 | h1 | h1
  · exact h1
  · exact absurd h1 hne
  · exfalso
    refine h (List.lt_iff_exists.2 (.inr ⟨k, hk', hk, fun j hj => ?_, ?_⟩))
    · have := hp j hj
      rw [e _ _ (by omega), e _ _ (by omega)] at this
      omega
    · rw [e _ _ hk, e _ _ hk'] at h1
      omega
/-- Any other posts. -/
structure OthI (x : Prk) (o : List Int) : Prop where
  len : o.length = x.n
  bd : ∀ k (h : k < o.length), 0 ≤ o[k] ∧ o[k] ≤ 12
/-- What 'Fewest' answers, set against any other posts. -/
structure LeastI (x : Prk) (l o : List Int) (f : Int) : Prop where
  kind : f = 0 ∨ f = 4
  few : f = 4 → sumN (crF l) l.length ≤ o.sum
  lex : f = 4 → sumN (crF l) l.length = o.sum → ∀ k, k < l.length → (∀ j, j < k → crF l j = crF o j) → crF l k ≠ crF o k → crF l k < crF o k
theorem few_law {x : Prk} (hx : PrkOk x) :
    (fewR x = ([], 12) ∧ ∀ o, OthI x o → o.sum ≤ 12 → (lackR x o).2.2 = 0) ∨
    ∃ l : List Int, fewR x = (l, 0) ∧ l.length = x.n ∧ (∀ k (h : k < l.length), 0 ≤ l[k] ∧ l[k] ≤ 12) ∧ (∀ k, k ≤ l.length → 0 ≤ sumN (crF l) k ∧ sumN (crF l) k ≤ 12) ∧ (lackR x l).2.2 = 4 ∧ ∀ o, OthI x o → LeastI x l o (lackR x o).2.2 := by
  cases hf : fewV x with
  | none =>
    refine .inl ⟨by unfold fewR; rw [prkB_iff.2 hx, if_pos rfl, hf], fun o ho hs => ?_⟩
    rcases lack_kind hx ho.len ho.bd with ⟨h1, _⟩ | ⟨_, h2⟩
    · exfalso
      have hb : ∀ k (h : k < o.length), 0 ≤ o[k] := fun k h => (ho.bd k h).1
      refine fewV_none hf (m := o.map Int.toNat) (by simpa using ho.len) ?_ ((enough_congr (crF_toNat hb)).1 h1)
      have := sum_toNat o hb
      omega
    · exact h2
  | some m =>
    have hm := fewV_some hf
    have hlen : (m.map fun k : Nat => (k : Int)).length = x.n := by simpa using hm.len
    have hb : ∀ k (h : k < (m.map fun k : Nat => (k : Int)).length), 0 ≤ (m.map fun k : Nat => (k : Int))[k] ∧ (m.map fun k : Nat => (k : Int))[k] ≤ 12 := fun k h => by
      have hk : k < m.length := by simpa using h
      have h1 : m[k] ≤ m.sum := le_sum_nat m k hk
      have h2 := hm.sum
      simp
      omega
    have hsm : ∀ k, k ≤ m.length → sumN (crF (m.map fun k : Nat => (k : Int))) k = ((m.take k).sum : Nat) := fun k hk => by
      rw [sumN_congr fun i _ => crF_map m i]
      exact sum_take m k hk
    have hen : Enough x (crF (m.map fun k : Nat => (k : Int))) := (enough_congr (crF_map m)).2 hm.ok
    refine .inr ⟨m.map fun k : Nat => (k : Int), by unfold fewR; rw [prkB_iff.2 hx, if_pos rfl, hf], hlen, hb, fun k hk => ?_, ?_, fun o ho => ?_⟩
    · rw [hsm k (by simpa using hk)]
      have h1 : (m.take k).sum + (m.drop k).sum = m.sum := by rw [← List.sum_append, List.take_append_drop]
      have := hm.sum
      omega
    · rcases lack_kind hx hlen hb with ⟨_, h⟩ | ⟨h, _⟩
      · exact h
      · exact absurd hen h
    · have hob : ∀ k (h : k < o.length), 0 ≤ o[k] := fun k h => (ho.bd k h).1
      have hs : sumN (crF (m.map fun k : Nat => (k : Int))) (m.map fun k : Nat => (k : Int)).length = (m.sum : Nat) := by
        rw [List.length_map, hsm _ (Nat.le_refl _), List.take_length]
      have hso := sum_toNat o hob
      rcases lack_kind hx ho.len ho.bd with ⟨h1, h2⟩ | ⟨_, h2⟩
      · have hl := hm.least (o.map Int.toNat) (by simpa using ho.len) ((enough_congr (crF_toNat hob)).1 h1)
        refine ⟨.inr h2, fun _ => ?_, fun _ he k hk hp hne => ?_⟩
        · rw [hs]
          rcases hl with h | ⟨h, _⟩ <;> omega
        · rw [hs] at he
          rcases hl with h | ⟨_, h⟩
          · omega
          · rw [crF_map, crF_toNat hob] at hne ⊢
            exact lex_first h (by simpa using hk) (by rw [List.length_map, ho.len, ← hlen]; exact hk) (fun j hj => by rw [← crF_map, ← crF_toNat hob]; exact hp j hj) hne
      · exact ⟨.inl h2, fun h => by omega, fun h => by omega⟩
end Go.Proofs.Ytfebhofihioaoaa
