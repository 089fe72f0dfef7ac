/- Four copies of a deck, in whatever order they are made. -/
import Derived.Test.YtilmlgngnbokfaaBx
import Derived.Test.YtilmlgngnbokfaaPj
namespace Go.Proofs.Ytilmlgngnbokfaa
set_option linter.unusedVariables false
set_option linter.unusedSimpArgs false
open Go Go.RowKit

theorem Box.frm {N : Nat} {S : Nat → Prop} {W W' : World} {b : Nat} {vs : List Value} (h : Box W b vs) (hF : Frm N S W W') (hb : b < N) (hS : ¬ S b) : Box W' b vs :=
  h.keep hF.size (fun _ => hF.cell hb hS) (fun _ => hF.frozen hb hS)

/-- The state of k copies: operations 0 .. k-1 load, k .. 2k-1 make the blocks, 2k .. 3k-1 store. -/
structure Js (k N : Nat) (w4 : World) (D Z : List Value) (l : Nat → Bool) (val : Nat → Value) (W : World) : Prop where
  low : Below N w4 W
  size : N ≤ W.heap.size
  loads : ∀ i, i < k → l i = true → val i = .agg D.toArray
  order : ∀ i, i < k → l (k + k + i) = true → l (k + i) = true
  boxes : ∀ i, i < k → l (k + i) = true → ∃ g, val (k + i) = .pointer (some ⟨g, 0, none⟩) ∧ N ≤ g ∧ Box W g (if l (k + k + i) = true then D else Z)
  apart : ∀ i j, i < k → j < k → i ≠ j → l (k + i) = true → l (k + j) = true → val (k + i) ≠ val (k + j)
section
variable {k N : Nat} {w4 : World} {D Z : List Value} {l : Nat → Bool} {val : Nat → Value} {W : World}
theorem Js.start (w4 : World) (k N : Nat) (hN : N ≤ w4.heap.size) (D Z : List Value) : Js k N w4 D Z (fun _ => false) (fun _ => undef) w4.drew :=
  ⟨(Below.refl _ _).drew, hN, fun _ _ h => (by cases h), fun _ _ h => (by cases h), fun _ _ h => (by cases h), fun _ _ _ _ _ h => (by cases h)⟩
theorem Js.load (h : Js k N w4 D Z l val W) (i : Nat) (hi : i < k) : Js k N w4 D Z (fun j => j == i || l j) (fun j => if j = i then .agg D.toArray else val j) W := by
  have a1 : ∀ j, (k + j == i) = false := fun j => by simp; omega
  have a2 : ∀ j, (k + k + j == i) = false := fun j => by simp; omega
  have a3 : ∀ j, ¬ (k + j = i) := fun j => by omega
  refine ⟨h.low, h.size, fun j hj hl => ?_, fun j hj hl => ?_, fun j hj hl => ?_, fun j j' hj hj' hne hl hl' => ?_⟩
  · by_cases e : j = i
    · simp [e]
    · simp only [e, if_false]
      exact h.loads j hj (by simpa [e] using hl)
  · simp only [a1, a2, Bool.false_or] at hl ⊢
    exact h.order j hj hl
  · simp only [a1, a2, a3, Bool.false_or, if_false] at hl ⊢
    exact h.boxes j hj hl
  · simp only [a1, a3, Bool.false_or, if_false] at hl hl' ⊢
    exact h.apart j j' hj hj' hne hl hl'
theorem Js.alloc (h : Js k N w4 D Z l val W) (i : Nat) (hi : i < k) (hli : l (k + i) = false) (t : TypeId) : Js k N w4 D Z (fun j => j == k + i || l j) (fun j => if j = k + i then .pointer (some ⟨W.heap.size, 0, none⟩) else val j) (W.alloc (.cells Z.toArray t)) := by
  have hs : l (k + k + i) = false := by
    cases e : l (k + k + i) with
    | false => rfl
    | true => have := h.order i hi e; rw [hli] at this; cases this
  have a2 : ∀ j, (k + k + j == k + i) = false := fun j => by simp; omega
  refine ⟨h.low.alloc h.size _, by have := h.size; simp; omega, fun j hj hl => ?_, fun j hj hl => ?_, fun j hj hl => ?_, fun j j' hj hj' hne hl hl' => ?_⟩
  · have e1 : (j == k + i) = false := by simp; omega
    have e2 : ¬ j = k + i := by omega
    simp only [e1, e2, Bool.false_or, if_false] at hl ⊢
    exact h.loads j hj hl
  · simp only [a2, Bool.false_or] at hl
    simp [h.order j hj hl]
  · by_cases e : j = i
    · subst e
      simp only [a2, hs, if_true, Bool.false_or, Bool.false_eq_true, if_false]
      exact ⟨_, rfl, h.size, Box.new W Z t⟩
    · have e1 : (k + j == k + i) = false := by simp; omega
      have e2 : ¬ k + j = k + i := by omega
      simp only [a2, e1, e2, Bool.false_or, if_false] at hl ⊢
      obtain ⟨g, h1, h2, h3⟩ := h.boxes j hj hl
      exact ⟨g, h1, h2, h3.alloc _⟩
  · have key : ∀ j, j < k → j ≠ i → (k + j == k + i || l (k + j)) = true → val (k + j) ≠ .pointer (some ⟨W.heap.size, 0, none⟩) := fun j hj hji hl => by
      have e1 : (k + j == k + i) = false := by simp; omega
      rw [e1, Bool.false_or] at hl
      obtain ⟨g, h1, h2, h3⟩ := h.boxes j hj hl
      rw [h1]
      intro he
      have := h3.1
      have he2 := Value.pointer.inj he
      simp at he2
      try omega
    have e2 : ∀ j, j ≠ i → ¬ k + j = k + i := fun j h => by omega
    by_cases ej : j = i
    · subst ej
      simp only [if_true, e2 j' (Ne.symm hne), if_false]
      exact (key j' hj' (Ne.symm hne) hl').symm
    · by_cases ej' : j' = i
      · subst ej'
        simp only [if_true, e2 j ej, if_false]
        exact key j hj ej hl
      · have f1 : (k + j == k + i) = false := by simp; omega
        have f2 : (k + j' == k + i) = false := by simp; omega
        simp only [e2 j ej, e2 j' ej', f1, f2, Bool.false_or, if_false] at hl hl' ⊢
        exact h.apart j j' hj hj' hne hl hl'
theorem Js.store (h : Js k N w4 D Z l val W) (i : Nat) (hi : i < k) (hli : l (k + i) = true) {g : Nat} (hg : val (k + i) = .pointer (some ⟨g, 0, none⟩)) (v : Value) {W' : World} (hF : Frm W.heap.size (· = g) W W') (hb : Box W' g D) :
    Js k N w4 D Z (fun j => j == k + k + i || l j) (fun j => if j = k + k + i then v else val j) W' := by
  obtain ⟨g', h1, h2, h3⟩ := h.boxes i hi hli
  obtain rfl : g = g' := by rw [hg] at h1; simpa using h1
  have a1 : ∀ j, j < k → (j == k + k + i) = false := fun j hj => by simp; omega
  have a2 : ∀ j, j < k → (k + j == k + k + i) = false := fun j hj => by simp; omega
  have a3 : ∀ j, j < k → ¬ (j = k + k + i) := fun j hj => by omega
  have a4 : ∀ j, j < k → ¬ (k + j = k + k + i) := fun j hj => by omega
  refine ⟨h.low.trans (hF.below h.size (by omega)), by have := hF.size; have := h.size; omega, fun j hj hl => ?_, fun j hj hl => ?_, fun j hj hl => ?_, fun j j' hj hj' hne hl hl' => ?_⟩
  · simp only [a1 j hj, a3 j hj, Bool.false_or, if_false] at hl ⊢
    exact h.loads j hj hl
  · simp only [a2 j hj, Bool.false_or]
    by_cases e : j = i
    · subst e; exact hli
    · have e1 : (k + k + j == k + k + i) = false := by simp; omega
      simp only [e1, Bool.false_or] at hl
      exact h.order j hj hl
  · simp only [a2 j hj, a4 j hj, Bool.false_or, if_false] at hl ⊢
    by_cases e : j = i
    · subst e
      exact ⟨g, hg, h2, by simpa using hb⟩
    · have e1 : (k + k + j == k + k + i) = false := by simp; omega
      obtain ⟨g2, h4, h5, h6⟩ := h.boxes j hj hl
      refine ⟨g2, h4, h5, ?_⟩
      simp only [e1, Bool.false_or]
      refine h6.frm hF h6.1 (fun hs => ?_)
      subst hs
      exact h.apart j i hj hi e hl hli (h4.trans hg.symm)
  · simp only [a2 j hj, a2 j' hj', a4 j hj, a4 j' hj', Bool.false_or, if_false] at hl hl' ⊢
    exact h.apart j j' hj hj' hne hl hl'
end
theorem frm_set (W V : World) (g : Nat) {N : Nat} (h : Frm N (fun j => j = g) W V) (o : Nat) (v : Value) : Frm N (fun j => j = g) W (V.setCell ⟨g, o, none⟩ v) := h.setCell (.inr rfl) v
theorem frm_set6 (W : World) (g : Nat) (a b c d e f : Value) : Frm W.heap.size (fun j => j = g) W ((((((W.setCell ⟨g, 0, none⟩ a).setCell ⟨g, 1, none⟩ b).setCell ⟨g, 2, none⟩ c).setCell ⟨g, 3, none⟩ d).setCell ⟨g, 4, none⟩ e).setCell ⟨g, 5, none⟩ f) :=
  frm_set _ _ _ (frm_set _ _ _ (frm_set _ _ _ (frm_set _ _ _ (frm_set _ _ _ (frm_set _ _ _ (Frm.refl _ _ _) _ _) _ _) _ _) _ _) _ _) _ _
theorem Box.six {W : World} {b : Nat} {a0 a1 a2 a3 a4 a5 : Value} (h : Box W b [a0, a1, a2, a3, a4, a5]) : W.cell? ⟨b, 0, none⟩ = some a0 ∧ W.cell? ⟨b, 1, none⟩ = some a1 ∧ W.cell? ⟨b, 2, none⟩ = some a2 ∧ W.cell? ⟨b, 3, none⟩ = some a3 ∧ W.cell? ⟨b, 4, none⟩ = some a4 ∧ W.cell? ⟨b, 5, none⟩ = some a5 :=
  ⟨(h.at_ 0 _ rfl).1, (h.at_ 1 _ rfl).1, (h.at_ 2 _ rfl).1, (h.at_ 3 _ rfl).1, (h.at_ 4 _ rfl).1, (h.at_ 5 _ rfl).1⟩
end Go.Proofs.Ytilmlgngnbokfaa
