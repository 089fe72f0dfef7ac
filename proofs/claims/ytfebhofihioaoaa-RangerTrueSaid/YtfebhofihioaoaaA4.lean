/- Ranger, plain: rangers who are brought from posts to spots, and the sets of spots for which there are too few. -/
import Derived.Test.YtfebhofihioaoaaA1
namespace Go.Proofs.Ytfebhofihioaoaa
set_option linter.unusedVariables false
set_option linter.unusedSimpArgs false

theorem sumN_swap (g : Nat → Nat → Int) (m : Nat) : ∀ n : Nat, sumN (fun i => sumN (fun s => g i s) m) n = sumN (fun s => sumN (fun i => g i s) n) m
  | 0 => by simp only [sumN]; rw [sumN_zero]
  | n + 1 => by
    simp only [sumN]
    rw [sumN_swap g m n, ← sumN_add]
def bitsOf (p : Nat → Bool) : Nat → Nat
  | 0 => 0
  | k + 1 => bitsOf p k ||| (if p k then 2 ^ k else 0)
theorem bitsOf_bit (p : Nat → Bool) : ∀ (k i : Nat), (bitsOf p k).testBit i = (decide (i < k) && p i)
  | 0, i => by simp [bitsOf]
  | k + 1, i => by
    unfold bitsOf
    rw [Nat.testBit_or, bitsOf_bit p k i]
    by_cases h : p k = true
    · rw [if_pos h, Nat.testBit_two_pow]
      by_cases e : k = i
      · subst e; simp [h]
      · by_cases h1 : i < k
        · simp [h1, e, show i < k + 1 by omega]
        · simp [h1, e, show ¬ i < k + 1 by omega]
    · rw [if_neg h]
      by_cases e : k = i
      · subst e; simp [h]
      · by_cases h1 : i < k
        · simp [h1, show i < k + 1 by omega]
        · simp [h1, show ¬ i < k + 1 by omega]
theorem bitsOf_lt (p : Nat → Bool) : ∀ k : Nat, bitsOf p k < 2 ^ k
  | 0 => by simp [bitsOf]
  | k + 1 => by
    unfold bitsOf
    have h := bitsOf_lt p k
    have h2 : 2 ^ k < 2 ^ (k + 1) := Nat.pow_lt_pow_right (by decide) (by omega)
    refine Nat.or_lt_two_pow (by omega) ?_
    split
    · exact h2
    · exact Nat.two_pow_pos _

/-- Can a ranger come from a post to a spot of a set? -/
def canB (n : Nat) (fr : Nat → Nat → Bool) (S : Nat) (i : Nat) : Bool := (List.range n).any fun s => S.testBit s && fr i s
theorem canB_iff {n : Nat} {fr : Nat → Nat → Bool} {S i : Nat} : canB n fr S i = true ↔ ∃ s, s < n ∧ S.testBit s = true ∧ fr i s = true := by
  simp only [canB, List.any_eq_true, List.mem_range, Bool.and_eq_true]
/-- The rangers for a set, and what it needs. -/
def forN (n : Nat) (fr : Nat → Nat → Bool) (posts : Nat → Int) (S : Nat) : Int := sumN (fun i => if canB n fr S i then posts i else 0) n
def wantN (n : Nat) (need : Nat → Int) (S : Nat) : Int := sumN (fun s => if S.testBit s then need s else 0) n
def HallN (n : Nat) (fr : Nat → Nat → Bool) (posts need : Nat → Int) : Prop := ∀ S, S < 2 ^ n → wantN n need S ≤ forN n fr posts S

/-- Who is where: free ones at each post, and those who went from a post to a spot. -/
structure Went (n : Nat) (fr : Nat → Nat → Bool) (posts : Nat → Int) (at_ : Nat → Int) (went : Nat → Nat → Int) : Prop where
  free : ∀ i, i < n → 0 ≤ at_ i
  some_ : ∀ i s, i < n → s < n → 0 ≤ went i s
  can : ∀ i s, i < n → s < n → 0 < went i s → fr i s = true
  row : ∀ i, i < n → at_ i + sumN (went i) n = posts i
def colN (n : Nat) (went : Nat → Nat → Int) (s : Nat) : Int := sumN (fun i => went i s) n
section
variable {n : Nat} {fr : Nat → Nat → Bool} {posts at_ need : Nat → Int} {went : Nat → Nat → Int}
/-- Everybody has been brought. -/
theorem hall_yes (h : Went n fr posts at_ went) (hc : ∀ s, s < n → need s = colN n went s) : HallN n fr posts need := fun S _ => by
  unfold wantN forN
  have e1 : sumN (fun s => if S.testBit s then need s else 0) n = sumN (fun s => sumN (fun i => if S.testBit s then went i s else 0) n) n := sumN_congr fun s hs => by
    split
    · rw [hc s hs]; rfl
    · rw [sumN_zero]
  rw [e1, ← sumN_swap]
  refine sumN_le fun i hi => ?_
  split
  · have h1 := h.row i hi
    have h2 := h.free i hi
    have h3 : sumN (fun s => if S.testBit s then went i s else 0) n ≤ sumN (went i) n := sumN_le fun s hs => by
      have := h.some_ i s hi hs
      split <;> omega
    omega
  · rename_i hno
    have h3 : sumN (fun s => if S.testBit s then went i s else 0) n ≤ sumN (fun _ => 0) n := sumN_le fun s hs => by
      split
      · rename_i hb
        rcases Int.lt_or_le 0 (went i s) with h4 | h4
        · exact absurd (canB_iff.2 ⟨s, hs, hb, h.can i s hi hs h4⟩) hno
        · exact h4
      · exact Int.le_refl _
    rwa [sumN_zero] at h3
/-- Nobody more can be brought to a spot that wants one more. -/
theorem hall_no (h : Went n fr posts at_ went) (hc : ∀ s, s < n → colN n went s ≤ need s) {j : Nat} (hj : j < n) (hlt : colN n went j < need j) {V : Nat → Bool}
    (h1 : ∀ i, i < n → V i = true → at_ i = 0) (h2 : ∀ i, i < n → fr i j = true → V i = true) (h3 : ∀ i s, i < n → s < n → V i = true → 0 < went i s → ∀ k, k < n → fr k s = true → V k = true) : ¬ HallN n fr posts need := fun hall => by
  have hT := hall (bitsOf (fun s => s == j || (List.range n).any fun i => V i && decide (0 < went i s)) n) (bitsOf_lt _ n)
  have hbit : ∀ s, s < n → ((bitsOf (fun s => s == j || (List.range n).any fun i => V i && decide (0 < went i s)) n).testBit s = true ↔ (s = j ∨ ∃ i, i < n ∧ V i = true ∧ 0 < went i s)) := fun s hs => by
    rw [bitsOf_bit]
    simp [hs]
  generalize bitsOf (fun s => s == j || (List.range n).any fun i => V i && decide (0 < went i s)) n = T at *
  have hV : forN n fr posts T ≤ sumN (fun i => if V i then posts i else 0) n := sumN_le fun i hi => by
    split
    · rename_i hcan
      obtain ⟨s, hs, hb, hf⟩ := canB_iff.1 hcan
      have : V i = true := by
        rcases (hbit s hs).1 hb with rfl | ⟨k, hk, hv, hw⟩
        · exact h2 i hi hf
        · exact h3 k s hk hs hv hw i hi hf
      rw [if_pos this]; exact Int.le_refl _
    · have := h.row i hi
      have := h.free i hi
      have := sumN_nonneg (f := went i) (n := n) fun s hs => h.some_ i s hi hs
      split <;> omega
  have hW : sumN (fun i => if V i then posts i else 0) n ≤ sumN (fun s => if T.testBit s then colN n went s else 0) n := by
    have e1 : sumN (fun s => if T.testBit s then colN n went s else 0) n = sumN (fun s => sumN (fun i => if T.testBit s then went i s else 0) n) n := sumN_congr fun s hs => by
      split
      · rfl
      · rw [sumN_zero]
    rw [e1, ← sumN_swap]
    refine sumN_le fun i hi => ?_
    split
    · rename_i hv
      have h4 := h.row i hi
      rw [h1 i hi hv] at h4
      have h5 : sumN (went i) n = sumN (fun s => if T.testBit s then went i s else 0) n := sumN_congr fun s hs => by
        split
        · rfl
        · rename_i hb
          have := h.some_ i s hi hs
          rcases Int.lt_or_le 0 (went i s) with h6 | h6
          · exact absurd ((hbit s hs).2 (.inr ⟨i, hi, hv, h6⟩)) hb
          · omega
      omega
    · have := sumN_nonneg (f := fun s => if T.testBit s then went i s else 0) (n := n) fun s hs => by
        have := h.some_ i s hi hs
        split <;> omega
      exact this
  have hS : sumN (fun s => if T.testBit s then colN n went s else 0) n < wantN n need T := by
    unfold wantN
    have h4 : sumN (fun s => (if T.testBit s then colN n went s else 0) + if s = j then 1 else 0) n ≤ sumN (fun s => if T.testBit s then need s else 0) n := sumN_le fun s hs => by
      by_cases e : s = j
      · subst e
        rw [if_pos ((hbit s hs).2 (.inl rfl)), if_pos rfl, if_pos ((hbit s hs).2 (.inl rfl))]
        omega
      · rw [if_neg e]
        have := hc s hs
        split <;> omega
    rw [sumN_add] at h4
    have h5 : sumN (fun s => if s = j then (1 : Int) else 0) n = 1 := by
      rw [sumN_set (fun _ => 0) 1 hj, sumN_zero]
      omega
    omega
  omega
/-- A spot alone that wants more than all posts have. -/
theorem hall_one (hp : ∀ i, i < n → 0 ≤ posts i ∧ posts i ≤ 12) (hn : n ≤ 6) {j : Nat} (hj : j < n) (h : 72 < need j) : ¬ HallN n fr posts need := fun hall => by
  have hT := hall (2 ^ j) (Nat.pow_lt_pow_right (by decide) hj)
  have h1 : wantN n need (2 ^ j) = need j := by
    unfold wantN
    have e : sumN (fun s => if (2 ^ j).testBit s then need s else 0) n = sumN (fun s => if s = j then need j else (fun _ => 0) s) n := sumN_congr fun s hs => by
      rw [Nat.testBit_two_pow]
      by_cases e : j = s
      · subst e; simp
      · have e' : ¬ s = j := fun h => e h.symm
        simp [e, e']
    rw [e, sumN_set (fun _ => 0) (need j) hj, sumN_zero]
    omega
  have h2 : forN n fr posts (2 ^ j) ≤ sumN (fun _ => 12) n := sumN_le fun i hi => by
    have := hp i hi
    split <;> omega
  have h3 : ∀ m : Nat, sumN (fun _ => 12) m = 12 * (m : Int) := fun m => by
    induction m with
    | zero => rfl
    | succ m ih => simp only [sumN, ih]; omega
  rw [h3] at h2
  omega
/-- One ranger who is free sets out. -/
theorem Went.free_ (h : Went n fr posts at_ went) {i s : Nat} (hi : i < n) (hs : s < n) (hf : fr i s = true) (ha : 0 < at_ i) {at' : Nat → Int} {went' : Nat → Nat → Int}
    (e1 : ∀ k, k < n → at' k = if k = i then at_ i - 1 else at_ k) (e2 : ∀ k t, k < n → t < n → went' k t = if k = i ∧ t = s then went i s + 1 else went k t) :
    Went n fr posts at' went' ∧ ∀ t, t < n → colN n went' t = colN n went t + if t = s then 1 else 0 := by
  have hrow : ∀ k, k < n → sumN (went' k) n = sumN (went k) n + if k = i then 1 else 0 := fun k hk => by
    by_cases e : k = i
    · subst e
      rw [if_pos rfl, sumN_congr (g := fun t => if t = s then went k s + 1 else went k t) fun t ht => by rw [e2 k t hk ht]; simp, sumN_set (went k) _ hs]
      omega
    · rw [if_neg e, sumN_congr (g := went k) fun t ht => by rw [e2 k t hk ht, if_neg (fun h => e h.1)]]
      omega
  refine ⟨⟨fun k hk => ?_, fun k t hk ht => ?_, fun k t hk ht hw => ?_, fun k hk => ?_⟩, fun t ht => ?_⟩
  · rw [e1 k hk]
    have := h.free k hk
    split <;> omega
  · rw [e2 k t hk ht]
    have := h.some_ k t hk ht
    split
    · rename_i e; obtain ⟨rfl, rfl⟩ := e; omega
    · exact this
  · rw [e2 k t hk ht] at hw
    split at hw
    · rename_i e; obtain ⟨rfl, rfl⟩ := e; exact hf
    · exact h.can k t hk ht hw
  · rw [e1 k hk, hrow k hk]
    have := h.row k hk
    split
    · rename_i e; subst e; omega
    · omega
  · unfold colN
    by_cases e : t = s
    · subst e
      rw [if_pos rfl, sumN_congr (g := fun k => if k = i then went i t + 1 else went k t) fun k hk => by rw [e2 k t hk ht]; simp, sumN_set (fun k => went k t) _ hi]
      omega
    · rw [if_neg e, sumN_congr (g := fun k => went k t) fun k hk => by rw [e2 k t hk ht, if_neg (fun h => e h.2)]]
      omega
/-- One ranger who was at another spot, where one more has come, goes to this one. -/
theorem Went.turn (h : Went n fr posts at_ went) {i o s : Nat} (hi : i < n) (ho : o < n) (hs : s < n) (hos : o ≠ s) (hf : fr i s = true) (hw : 0 < went i o) {went' : Nat → Nat → Int}
    (e2 : ∀ k t, k < n → t < n → went' k t = if k = i ∧ t = s then went i s + 1 else if k = i ∧ t = o then went i o - 1 else went k t) :
    Went n fr posts at_ went' ∧ ∀ t, t < n → colN n went' t = colN n went t + (if t = s then 1 else 0) - if t = o then 1 else 0 := by
  have hrow : ∀ k, k < n → sumN (went' k) n = sumN (went k) n := fun k hk => by
    by_cases e : k = i
    · subst e
      have e3 : sumN (went' k) n = sumN (fun t => if t = s then went k s + 1 else (fun t => if t = o then went k o - 1 else went k t) t) n := sumN_congr fun t ht => by rw [e2 k t hk ht]; simp
      rw [e3, sumN_set _ _ hs, sumN_set _ _ ho, if_neg (fun e => hos e.symm)]
      omega
    · exact sumN_congr fun t ht => by rw [e2 k t hk ht, if_neg (fun h => e h.1), if_neg (fun h => e h.1)]
  refine ⟨⟨h.free, fun k t hk ht => ?_, fun k t hk ht hw' => ?_, fun k hk => ?_⟩, fun t ht => ?_⟩
  · rw [e2 k t hk ht]
    have := h.some_ k t hk ht
    split
    · rename_i e; obtain ⟨rfl, rfl⟩ := e; omega
    · split
      · omega
      · exact this
  · rw [e2 k t hk ht] at hw'
    split at hw'
    · rename_i e; obtain ⟨rfl, rfl⟩ := e; exact hf
    · split at hw'
      · rename_i e; obtain ⟨rfl, rfl⟩ := e; exact h.can k t hk ht hw
      · exact h.can k t hk ht hw'
  · rw [hrow k hk]; exact h.row k hk
  · unfold colN
    by_cases e : t = s
    · subst e
      rw [if_pos rfl, if_neg (fun e => hos e.symm), sumN_congr (g := fun k => if k = i then went i t + 1 else went k t) fun k hk => by
        rw [e2 k t hk ht]
        by_cases ek : k = i
        · subst ek; simp
        · simp [ek], sumN_set (fun k => went k t) _ hi]
      omega
    · rw [if_neg e]
      by_cases eo : t = o
      · subst eo
        rw [if_pos rfl, sumN_congr (g := fun k => if k = i then went i t - 1 else went k t) fun k hk => by
          rw [e2 k t hk ht]
          by_cases ek : k = i
          · subst ek; simp [e]
          · simp [ek], sumN_set (fun k => went k t) _ hi]
        omega
      · rw [if_neg eo, sumN_congr (g := fun k => went k t) fun k hk => by rw [e2 k t hk ht, if_neg (fun h => e h.2), if_neg (fun h => eo h.2)]]
        omega
end
end Go.Proofs.Ytfebhofihioaoaa
