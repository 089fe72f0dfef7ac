/- WellsMore, plain: one reading more, and a greater limit. -/
import Derived.Test.YtgdilbilhajgaaaDoorD1
namespace Go.Proofs.YtgdilbilhajgaaaDoor
set_option linter.unusedVariables false
set_option linter.unusedSimpArgs false
open Go Go.RowKit

section
variable {m : List (Int × Int)} {l : List (Int × Int × Int)} {r : Int × Int × Int} {d d' : Nat → Int × Int}
theorem feas_more {x : Nat → Int} (h : Feas m (l ++ [r]) x) : Feas m l x :=
  feas_iff.2 fun i hi => ⟨⟨(feas_iff.1 h i hi).1.1, fun r' hr => (feas_iff.1 h i hi).1.2 r' (by simp [hr])⟩, (feas_iff.1 h i hi).2⟩
theorem excess_more {a b : Int} (h : IsExcess m l a) (h' : IsExcess m (l ++ [r]) b) : a ≤ b := by
  obtain ⟨⟨x, hx, e⟩, _⟩ := h'
  have := h.2 x (feas_more hx)
  omega
theorem spans_more (h : IsSpans m l d) (h' : IsSpans m (l ++ [r]) d') {i : Nat} (hi : i < m.length) : (d i).1 ≤ (d' i).1 ∧ (d' i).2 ≤ (d i).2 := by
  have hle := h'.le hi
  obtain ⟨x, hx, e⟩ := h'.full i hi _ (Int.le_refl _) hle
  obtain ⟨y, hy, e'⟩ := h'.full i hi _ hle (Int.le_refl _)
  have a := h.sound x (feas_more hx) i hi
  have b := h.sound y (feas_more hy) i hi
  omega
theorem surely_imp (h : IsSpans m l d) (h' : IsSpans m (l ++ [r]) d') {i : Nat} (hi : i < m.length) (hs : limW m i < (d i).1) : limW m i < (d' i).1 := by
  have := spans_more h h' hi
  omega
theorem mem_ovL {f : Nat → Bool} {n : Nat} {a : Int} : a ∈ ovL f n ↔ ∃ i : Nat, i < n ∧ f i = true ∧ (i : Int) = a := by
  unfold ovL
  simp only [List.mem_map, List.mem_filter, List.mem_range]
  constructor
  · rintro ⟨i, ⟨h1, h2⟩, h3⟩; exact ⟨i, h1, h2, h3⟩
  · rintro ⟨i, h1, h2, h3⟩; exact ⟨i, ⟨h1, h2⟩, h3⟩
theorem surely_sub (h : IsSpans m l d) (h' : IsSpans m (l ++ [r]) d') : ∀ a ∈ surelyL m d, a ∈ surelyL m d' := fun a ha => by
  obtain ⟨i, hi, hf, e⟩ := mem_ovL.1 ha
  exact mem_ovL.2 ⟨i, hi, decide_eq_true (surely_imp h h' hi (of_decide_eq_true hf)), e⟩
theorem surely_len (h : IsSpans m l d) (h' : IsSpans m (l ++ [r]) d') : (surelyL m d).length ≤ (surelyL m d').length := by
  unfold surelyL ovL
  rw [List.length_map, List.length_map, ← List.countP_eq_length_filter, ← List.countP_eq_length_filter]
  exact List.countP_mono_left fun i hi hf => decide_eq_true (surely_imp h h' (List.mem_range.1 hi) (of_decide_eq_true hf))
theorem surely_sorted (m : List (Int × Int)) (d : Nat → Int × Int) : (surelyL m d).Pairwise (· < ·) := by
  unfold surelyL ovL
  exact List.Pairwise.map _ (fun a b h => by omega) ((List.pairwise_lt_range (n := m.length)).filter _)
end

/-! A greater limit. -/
def raiseW (m : List (Int × Int)) (z : Nat) (u : Int) : List (Int × Int) := m.set z (parW m z, u)
section
variable {m : List (Int × Int)} {l : List (Int × Int × Int)} {z : Nat} {u : Int}
theorem raise_len : (raiseW m z u).length = m.length := by simp [raiseW]
theorem raise_par (hz : z < m.length) (i : Nat) : parW (raiseW m z u) i = parW m i := by
  unfold parW raiseW
  by_cases e : i = z
  · subst e; simp [List.getD, hz, parW]
  · simp [List.getD, List.getElem?_set, Ne.symm e]
theorem raise_lim (hz : z < m.length) (i : Nat) : limW (raiseW m z u) i = if i = z then u else limW m i := by
  unfold limW raiseW
  by_cases e : i = z
  · subst e; simp [List.getD, hz]
  · simp [List.getD, List.getElem?_set, Ne.symm e, e]
theorem raise_kids (hz : z < m.length) (i : Nat) : kids (raiseW m z u) i = kids m i := by
  unfold kids
  rw [raise_len]
  exact List.filter_congr fun k _ => by rw [raise_par hz]
theorem raise_feas (hz : z < m.length) {x : Nat → Int} : Feas (raiseW m z u) l x ↔ Feas m l x := by
  unfold Feas
  simp only [raise_len, raise_kids hz]
theorem raise_ok (hz : z < m.length) (hm : MOk m) (hu : 0 ≤ u ∧ u ≤ 1600) : MOk (raiseW m z u) := by
  refine ⟨by rw [raise_len]; exact hm.pos, by rw [raise_len]; exact hm.le, by rw [raise_par hz]; exact hm.root, fun i h0 hi => ?_, fun i hi => ?_⟩
  · rw [raise_len] at hi
    rw [raise_par hz]
    exact hm.par i h0 hi
  · rw [raise_len] at hi
    rw [raise_lim hz]
    split
    · exact hu
    · exact hm.lim i hi
theorem raise_in (hz : z < m.length) (hok : InOk m l) (hu : 0 ≤ u ∧ u ≤ 1600) : InOk (raiseW m z u) l := ⟨raise_ok hz hok.1 hu, by rw [raise_len]; exact hok.2⟩
theorem raise_total (hz : z < m.length) (hu : limW m z ≤ u) (x : Nat → Int) : totalW (raiseW m z u) x ≤ totalW m x := by
  unfold totalW
  rw [raise_len]
  refine sumL_le fun i _ => ?_
  unfold wellOver
  rw [raise_kids hz, raise_lim hz]
  by_cases e : i = z
  · subst e
    simp only [if_true]
    split <;> omega
  · simp only [e, if_false]
    exact Int.le_refl _
theorem raise_excess (hz : z < m.length) (hu : limW m z ≤ u) {a b : Int} (h : IsExcess m l a) (h' : IsExcess (raiseW m z u) l b) : b ≤ a := by
  obtain ⟨⟨x, hx, e⟩, _⟩ := h
  have h1 := h'.2 x ((raise_feas hz).2 hx)
  have h2 := raise_total hz hu x
  omega
theorem raise_sure (hz : z < m.length) (hu : limW m z ≤ u) {mn : Nat} {q : List Nat} (h : SureP (raiseW m z u) l mn q) : SureP m l mn q := fun x hx => by
  have := h x ((raise_feas hz).2 hx)
  rw [raise_lim hz] at this
  split at this
  · rename_i e; subst e; omega
  · exact this
theorem raise_proof (hz : z < m.length) (hu : limW m z ≤ u) {mn : Nat} {p q : List Nat} (hp : IsProof m l mn p) (hq : IsProof (raiseW m z u) l mn q) : p.length ≤ q.length := by
  have := hp.least q hq.sorted hq.lt (raise_sure hz hu hq.sure)
  unfold aheadL at this
  omega
end

/-! One rising list within another one, step by step. -/
/-- The first a of S are among the first k of O, and no others. -/
def Within (S O : List Int) (k a : Nat) : Prop := a ≤ S.length ∧ (∀ i (h : i < S.length), i < a → S[i] ∈ O.take k) ∧ ∀ i (h : i < S.length), a ≤ i → S[i] ∉ O.take k
theorem Within.start (S O : List Int) : Within S O 0 0 := ⟨Nat.zero_le _, fun i _ h => by omega, fun i _ _ => by simp⟩
theorem take_mem' {O : List Int} {k : Nat} (h : k < O.length) {a : Int} : a ∈ O.take (k + 1) ↔ a ∈ O.take k ∨ a = O[k] := by
  rw [List.take_succ_eq_append_getElem h, List.mem_append, List.mem_singleton]
theorem Within.hit {S O : List Int} {k a : Nat} (hS : S.Pairwise (· < ·)) (h : Within S O k a) (hk : k < O.length) (ha : a < S.length) (he : S[a] = O[k]) : Within S O (k + 1) (a + 1) := by
  refine ⟨ha, fun i hi hia => ?_, fun i hi hia => ?_⟩
  · rw [take_mem' hk]
    rcases Nat.lt_succ_iff_lt_or_eq.1 hia with h1 | rfl
    · exact .inl (h.2.1 i hi h1)
    · exact .inr he
  · rw [take_mem' hk]
    rintro (h1 | h1)
    · exact h.2.2 i hi (by omega) h1
    · have := List.pairwise_iff_getElem.1 hS a i ha hi (by omega)
      omega
theorem Within.miss {S O : List Int} {k a : Nat} (hS : S.Pairwise (· < ·)) (hO : O.Pairwise (· < ·)) (hsub : ∀ x ∈ S, x ∈ O) (h : Within S O k a) (hk : k < O.length) (hne : ∀ ha : a < S.length, S[a] ≠ O[k]) : Within S O (k + 1) a := by
  refine ⟨h.1, fun i hi hia => (take_mem' hk).2 (.inl (h.2.1 i hi hia)), fun i hi hia => ?_⟩
  rw [take_mem' hk]
  rintro (h1 | h1)
  · exact h.2.2 i hi hia h1
  · rcases Nat.lt_or_eq_of_le hia with h2 | rfl
    · have ha : a < S.length := by omega
      have hlt := List.pairwise_iff_getElem.1 hS a i ha hi h2
      obtain ⟨j, hj, e⟩ := List.mem_iff_getElem.1 (hsub _ (List.getElem_mem ha))
      rcases Nat.lt_or_ge j k with h3 | h3
      · refine h.2.2 a ha (Nat.le_refl _) ?_
        rw [← e]
        exact List.mem_take_iff_getElem.2 ⟨j, by omega, rfl⟩
      · rcases Nat.lt_or_eq_of_le h3 with h4 | rfl
        · have := List.pairwise_iff_getElem.1 hO k j hk hj h4
          omega
        · omega
    · exact hne hi h1
theorem Within.done {S O : List Int} {a : Nat} (hsub : ∀ x ∈ S, x ∈ O) (h : Within S O O.length a) : a = S.length := by
  rcases Nat.lt_or_eq_of_le h.1 with h1 | h1
  · have := h.2.2 a h1 (Nat.le_refl _)
    rw [List.take_length] at this
    exact absurd (hsub _ (List.getElem_mem h1)) this
  · exact h1
end Go.Proofs.YtgdilbilhajgaaaDoor
