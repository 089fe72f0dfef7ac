/- A matrix of ints of one's own, row by row. -/
import Derived.Test.YtilmlgngnbokfaaWo
import Derived.Test.YtilmlgngnbokfaaAn
import Derived.Test.YtilmlgngnbokfaaBx
import Derived.Deep.OwnRows
namespace Go.Proofs.Ytilmlgngnbokfaa
set_option linter.unusedVariables false
set_option linter.unusedSimpArgs false
open Go Go.RowKit

structure Mat (W : World) (N : Nat) (v : Value) (x P : Nat) (F : Nat → Nat → Int) (gs : Nat → Nat) : Prop where
  own : W.ownsRow N 22 1 v x ((List.range x).map fun j => Value.slice (some ⟨gs j, 0, none⟩) P P)
  rows : ∀ j, j < x → N ≤ gs j ∧ W.rowIs (gs j) 3 P (fun n => I (F j n))
section
variable {W W' : World} {N : Nat} {v : Value} {x P : Nat} {F : Nat → Nat → Int} {gs : Nat → Nat}
theorem Mat.nil (W : World) (N P : Nat) (F : Nat → Nat → Int) : Mat W N (.slice none 0 0) 0 P F (fun _ => 0) := ⟨⟨by simp, .inl ⟨rfl, rfl⟩⟩, fun j h => by omega⟩
theorem Mat.call (h : Mat W N v x P F gs) (hB : Below W.heap.size W W') : Mat W' N v x P F gs :=
  ⟨grown_own h.own hB, fun j hj => ⟨(h.rows j hj).1, (h.rows j hj).2.of_block (hB.block _ (h.rows j hj).2.lt)⟩⟩
theorem rowIs_call {g t n : Nat} {f : Nat → Value} (h : W.rowIs g t n f) (hB : Below W.heap.size W W') : W'.rowIs g t n f := h.of_block (hB.block _ h.lt)
theorem Mat.apart (h : Mat W N v x P F gs) (j : Nat) (hj : j < x) : v.ownBlock ≠ some (gs j) := by
  intro e
  rcases h.own.2 with ⟨h1, h2⟩ | ⟨g, cap, cur, h1, _, h3, _⟩
  · omega
  · rw [h1] at e
    simp [Value.ownBlock] at e
    obtain ⟨c, h4, _⟩ := (h.rows j hj).2
    rw [← e, h3] at h4
    simp at h4
theorem Mat.push (h : Mat W N v x P F gs) {g : Nat} (hg : N ≤ g) (hr : W.rowIs g 3 P (fun n => I (F x n))) (hne : v.ownBlock ≠ some g) {v' : Value}
    (hown : W'.ownsRow N 22 1 v' (x + 1) (((List.range x).map fun j => Value.slice (some ⟨gs j, 0, none⟩) P P) ++ [.slice (some ⟨g, 0, none⟩) P P])) (hgr : W.grownBy W' v.ownBlock) :
    Mat W' N v' (x + 1) P F (fun j => if j = x then g else gs j) := by
  refine ⟨?_, fun j hj => ?_⟩
  · have e : (List.range (x + 1)).map (fun j => Value.slice (some ⟨(if j = x then g else gs j), 0, none⟩) P P) = ((List.range x).map fun j => Value.slice (some ⟨gs j, 0, none⟩) P P) ++ [.slice (some ⟨g, 0, none⟩) P P] := by
      rw [List.range_succ, List.map_append]
      congr 1
      · refine List.map_congr_left fun j hj => ?_
        have := List.mem_range.1 hj
        rw [if_neg (by omega)]
      · simp
    rw [e]
    exact hown
  · by_cases e : j = x
    · subst e
      simp only [if_true]
      exact ⟨hg, hr.of_block (hgr.block _ hr.lt (fun e => hne e.symm))⟩
    · simp only [e, if_false]
      have hj' : j < x := by omega
      exact ⟨(h.rows j hj').1, (h.rows j hj').2.of_block (hgr.block _ (h.rows j hj').2.lt (fun e => h.apart j hj' e.symm))⟩
theorem Mat.row (h : Mat W N v x P F gs) : ∃ A c, v = .slice A x c ∧ (0 < x → ∃ b, A = some ⟨b, 0, none⟩ ∧ b < W.heap.size ∧ ∀ j, j < x → W.cell? ⟨b, j, none⟩ = some (.slice (some ⟨gs j, 0, none⟩) P P)) := by
  rcases h.own.2 with ⟨h1, h2⟩ | ⟨g, cap, cur, h1, _⟩
  · exact ⟨none, 0, by rw [h1, h2], fun h => by omega⟩
  · refine ⟨_, cap, h1, fun _ => ⟨g, rfl, (h.own.lt g (by rw [h1]; rfl)).2, fun j hj => ?_⟩⟩
    have hown := h.own
    rw [h1] at hown
    have := hown.cells (g := g) rfl j (.slice (some ⟨gs j, 0, none⟩) P P) (by simp [hj])
    rwa [Addr.add_lit, Nat.zero_add] at this
theorem Mat.row' {A : Option Addr} {c : Nat} (h : Mat W N (.slice A x c) x P F gs) (h0 : 0 < x) : ∃ b, A = some ⟨b, 0, none⟩ ∧ b < W.heap.size ∧ ∀ j, j < x → W.cell? ⟨b, j, none⟩ = some (.slice (some ⟨gs j, 0, none⟩) P P) := by
  obtain ⟨A', c', h1, h2⟩ := h.row
  injection h1 with e1 e2 e3
  subst e1
  exact h2 h0
theorem Mat.at_ (h : Mat W N v x P F gs) (j n : Nat) (hj : j < x) (hn : n < P) : gs j < W.heap.size ∧ W.cell? ⟨gs j, n, none⟩ = some (I (F j n)) := ⟨(h.rows j hj).2.lt, (h.rows j hj).2.cell hn⟩
end

/-- The beams to the left of a post, and all. -/
theorem left_le {d : Deck} {c : Int} (h : d.ok c) (i : Nat) (hi : i < d.posts.length) : leftOf d.lengths i ≤ (d.lengths.take i).sum ∧ (d.lengths.take i).sum + rightOf d.lengths i ≤ d.lengths.sum := by
  obtain ⟨o1, o2, o3, _, o5, _⟩ := h
  have nn : ∀ l : List Int, (∀ v ∈ l, 0 ≤ v) → 0 ≤ l.sum := by
    intro l
    induction l with
    | nil => intro _; simp
    | cons a l ih => intro h; have := h a (by simp); have := ih (fun v hv => h v (by simp [hv])); simp; omega
  have pos : ∀ v ∈ d.lengths, 0 ≤ v := fun v hv => by
    obtain ⟨k, hk, rfl⟩ := List.mem_iff_getElem.1 hv
    have := o5 k hk; omega
  constructor
  · unfold leftOf
    split
    · exact nn _ fun v hv => pos v (List.mem_of_mem_take hv)
    · obtain ⟨m, rfl⟩ : ∃ m, i = m + 1 := ⟨i - 1, by omega⟩
      have hm : m < d.lengths.length := by omega
      rw [List.take_succ_eq_append_getElem hm]
      have := nn (d.lengths.take m) fun v hv => pos v (List.mem_of_mem_take hv)
      have e : d.lengths.getD (m + 1 - 1) 0 = d.lengths[m] := by simp [List.getD, hm]
      rw [e]
      simp only [List.sum_append, List.sum_cons, List.sum_nil]
      omega
  · unfold rightOf
    by_cases hlt : i < d.lengths.length
    · have e := List.take_append_drop i d.lengths
      rw [List.drop_eq_getElem_cons hlt] at e
      have := nn (d.lengths.drop (i + 1)) fun v hv => pos v (List.mem_of_mem_drop hv)
      have e2 : d.lengths.getD i 0 = d.lengths[i] := by simp [List.getD, hlt]
      have e3 := congrArg List.sum e
      simp only [List.sum_append, List.sum_cons] at e3
      rw [e2]
      omega
    · rw [List.take_of_length_le (by omega)]
      simp [List.getD, List.getElem?_eq_none (Nat.le_of_not_lt hlt)]
theorem best8_bd {f : Nat → Int} {ap : Nat} {M : Int} (hf : ∀ x, 0 ≤ f x ∧ f x ≤ M) (hap : 1 ≤ ap) (n x : Nat) : 0 ≤ best8 f ap n x ∧ best8 f ap n x ≤ n * M := by
  refine ⟨best8_nonneg (fun x => (hf x).1) n x, ?_⟩
  obtain ⟨ys, _, h2, _, h4⟩ := best8_crowd (fun x => (hf x).1) hap n x
  rw [h4]
  have h := sum_le (M := M) (ys.map f) (fun v hv => by obtain ⟨y, _, rfl⟩ := List.mem_map.1 hv; exact hf y)
  have hM : 0 ≤ M := Int.le_trans (hf 0).1 (hf 0).2
  rw [List.length_map] at h
  exact Int.le_trans h.2 (Int.mul_le_mul_of_nonneg_right (by omega) hM)
end Go.Proofs.Ytilmlgngnbokfaa
