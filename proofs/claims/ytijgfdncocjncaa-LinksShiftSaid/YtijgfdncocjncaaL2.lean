/- Links, plain: how the program finds the fewest, and what is needed and lacking as sets. -/
import Derived.Test.YtijgfdncocjncaaL1
namespace Go.Proofs.Ytijgfdncocjncaa
set_option linter.unusedVariables false
set_option linter.unusedSimpArgs false
open Go Go.RowKit

/-- Those of a spring that need a link. -/
def needP (x : Wat) (t i : Nat) : Bool := decide (i < x.m) && ((x.sp i == (t : Int)) && needB x i)
def expP (x : Wat) (f t i : Nat) : Bool := decide (i < x.m) && expB x f t i
def noneB (left : Nat → Bool) : Bool := (List.range 64).all fun i => !left i
theorem noneB_iff {left : Nat → Bool} : noneB left = true ↔ setN left = 0 := by
  rw [setN_zero]
  unfold noneB
  rw [List.all_eq_true]
  constructor
  · intro h i hi
    have := h i (List.mem_range.2 hi)
    simpa using this
  · intro h i hi
    rw [h i (List.mem_range.1 hi)]
    rfl
/-- The first list of some sets that leaves nothing, with c at most. -/
def tryF (E : Nat → Nat → Bool) : List Nat → (Nat → Bool) → Nat → Option (List Nat)
  | [], left, _ => if noneB left then some [] else none
  | _ :: _, left, 0 => if noneB left then some [] else none
  | f :: rest, left, c + 1 => if noneB left then some [] else match tryF E rest (fun i => left i && !E f i) c with
    | some l => some (f :: l)
    | none => tryF E rest left (c + 1)
def covB (E : Nat → Nat → Bool) (left : Nat → Bool) (l : List Nat) : Bool := (List.range 64).all fun i => !left i || l.any fun f => E f i
theorem covB_nil (E : Nat → Nat → Bool) (left : Nat → Bool) : covB E left [] = noneB left := by simp [covB, noneB]
theorem covB_cons (E : Nat → Nat → Bool) (left : Nat → Bool) (f : Nat) (l : List Nat) : covB E left (f :: l) = covB E (fun i => left i && !E f i) l := by
  unfold covB
  congr 1
  funext i
  simp only [List.any_cons]
  cases left i <;> cases E f i <;> simp
theorem tryF_min (E : Nat → Nat → Bool) : ∀ (rest : List Nat) (left : Nat → Bool) (c : Nat), (∀ c', c' < c → (chs rest c').find? (covB E left) = none) → tryF E rest left c = (chs rest c).find? (covB E left)
  | [], left, 0, _ => by
    unfold tryF chs
    by_cases h : noneB left = true <;> simp [h, covB_nil]
  | [], left, c + 1, h => by
    have h0 := h 0 (by omega)
    unfold tryF chs
    simp only [chs, List.find?_cons, covB_nil] at h0
    cases hn : noneB left
    · simp
    · rw [hn] at h0; simp at h0
  | f :: rest, left, 0, _ => by
    unfold tryF chs
    by_cases h : noneB left = true <;> simp [h, covB_nil]
  | f :: rest, left, c + 1, h => by
    have h0 := h 0 (by omega)
    simp only [chs, List.find?_cons, covB_nil] at h0
    have hn : noneB left = false := by
      cases hn : noneB left
      · rfl
      · rw [hn] at h0; simp at h0
    have hs : ∀ c', c' < c → (chs rest c').find? (covB E fun i => left i && !E f i) = none := fun c' hc => by
      have h1 := h (c' + 1) (by omega)
      simp only [chs, List.find?_append, Option.or_eq_none_iff, List.find?_map] at h1
      have h2 := h1.1
      rw [Option.map_eq_none_iff] at h2
      rw [← h2]
      congr 1
      funext r
      exact (covB_cons E left f r).symm
    have hr : ∀ c', c' < c + 1 → (chs rest c').find? (covB E left) = none := fun c' hc => by
      cases c' with
      | zero =>
        have : chs rest 0 = [[]] := by cases rest <;> rfl
        rw [this]
        simp [covB_nil, hn]
      | succ c' =>
        have h1 := h (c' + 1) hc
        simp only [chs, List.find?_append, Option.or_eq_none_iff] at h1
        exact h1.2
    have i1 := tryF_min E rest (fun i => left i && !E f i) c hs
    have i2 := tryF_min E rest left (c + 1) hr
    have e1 : ((chs rest c).map (f :: ·)).find? (covB E left) = ((chs rest c).find? (covB E fun i => left i && !E f i)).map (f :: ·) := by
      rw [List.find?_map]
      congr 2
      funext r
      exact covB_cons E left f r
    unfold tryF
    rw [hn]
    simp only [Bool.false_eq_true, if_false, chs, List.find?_append]
    rw [e1, i1, i2]
    cases (chs rest c).find? (covB E fun i => left i && !E f i) <;> rfl
theorem any_expP {x : Wat} {t i : Nat} (hi : i < x.m) (l : List Nat) : (l.any fun f => expP x f t i) = l.any fun f => expB x f t i := by
  congr 1
  funext f
  simp [expP, hi]
theorem covB_en {x : Wat} (hm : x.m ≤ 64) (t : Nat) (l : List Nat) : covB (fun f i => expP x f t i) (needP x t) l = enB x t l := by
  rw [Bool.eq_iff_iff]
  unfold covB enB
  rw [List.all_eq_true, List.all_eq_true]
  constructor
  · intro h i hi
    have hi' := List.mem_range.1 hi
    have := h i (List.mem_range.2 (by omega))
    rw [any_expP hi'] at this
    simpa [needP, hi'] using this
  · intro h i hi
    by_cases hi' : i < x.m
    · have := h i (List.mem_range.2 hi')
      rw [any_expP hi']
      simpa [needP, hi'] using this
    · simp [needP, hi']
theorem findSome_first {α : Type} {f : Nat → Option α} {m : α} : ∀ {N J : Nat}, J < N → (∀ v, v < J → f v = none) → f J = some m → (List.range N).findSome? f = some m
  | 0, _, hJ, _, _ => by omega
  | N + 1, J, hJ, h1, h2 => by
    rw [List.range_succ, List.findSome?_append]
    rcases Nat.lt_succ_iff_lt_or_eq.1 hJ with h | rfl
    · rw [findSome_first h h1 h2]; rfl
    · have : (List.range J).findSome? f = none := by
        rw [List.findSome?_eq_none_iff]
        intro v hv
        exact h1 v (List.mem_range.1 hv)
      rw [this]
      simp [h2]
theorem findSome_never {α : Type} {f : Nat → Option α} {N : Nat} (h : ∀ v, v < N → f v = none) : (List.range N).findSome? f = none := by
  rw [List.findSome?_eq_none_iff]
  intro v hv
  exact h v (List.mem_range.1 hv)
/-- What the program tries, count by count, is what the document finds. -/
theorem try_step {x : Wat} (hm : x.m ≤ 64) (t c : Nat) (h : ∀ c', c' < c → tryF (fun f i => expP x f t i) (srcs x t) (needP x t) c' = none) :
    tryF (fun f i => expP x f t i) (srcs x t) (needP x t) c = (chs (srcs x t) c).find? (enB x t) := by
  have key : ∀ c, (∀ c', c' < c → tryF (fun f i => expP x f t i) (srcs x t) (needP x t) c' = none) → ∀ c', c' < c → (chs (srcs x t) c').find? (covB (fun f i => expP x f t i) (needP x t)) = none := by
    intro c
    induction c with
    | zero => intro _ c' hc; omega
    | succ c ih =>
      intro h c' hc
      have h1 := ih fun c' hc' => h c' (by omega)
      rcases Nat.lt_succ_iff_lt_or_eq.1 hc with h2 | rfl
      · exact h1 c' h2
      · rw [← tryF_min _ _ _ _ h1]
        exact h c' (by omega)
  rw [tryF_min _ _ _ _ (key c h)]
  congr 1
  funext l
  exact covB_en hm t l
theorem fewT_try {x : Wat} (hm : x.m ≤ 64) (t : Nat) : fewT x t = (List.range ((srcs x t).length + 1)).findSome? fun c => tryF (fun f i => expP x f t i) (srcs x t) (needP x t) c := by
  by_cases h : ∃ c, c < (srcs x t).length + 1 ∧ tryF (fun f i => expP x f t i) (srcs x t) (needP x t) c ≠ none
  · obtain ⟨c, ⟨hc, hs⟩, hmin⟩ : ∃ c, (c < (srcs x t).length + 1 ∧ tryF (fun f i => expP x f t i) (srcs x t) (needP x t) c ≠ none) ∧ ∀ c', c' < c → tryF (fun f i => expP x f t i) (srcs x t) (needP x t) c' = none := by
      obtain ⟨c, hc⟩ := h
      induction c using Nat.strongRecOn with
      | _ c ih =>
        by_cases h2 : ∃ c', c' < c ∧ tryF (fun f i => expP x f t i) (srcs x t) (needP x t) c' ≠ none
        · obtain ⟨c', h3, h4⟩ := h2
          exact ih c' h3 ⟨by omega, h4⟩
        · refine ⟨c, hc, fun c' h3 => ?_⟩
          cases h4 : tryF (fun f i => expP x f t i) (srcs x t) (needP x t) c' with
          | none => rfl
          | some l => exact absurd ⟨c', h3, by rw [h4]; simp⟩ h2
    obtain ⟨l, hl⟩ := Option.ne_none_iff_exists'.1 hs
    have h2 : ∀ c', c' < c → (chs (srcs x t) c').find? (enB x t) = none := fun c' h3 => by
      rw [← try_step hm t c' fun c2 h4 => hmin c2 (by omega)]
      exact hmin c' h3
    unfold fewT
    rw [findSome_first hc hmin hl, findSome_first hc h2 (by rw [← try_step hm t c hmin]; exact hl)]
  · have h0 : ∀ c, c < (srcs x t).length + 1 → tryF (fun f i => expP x f t i) (srcs x t) (needP x t) c = none := fun c hc => by
      cases h4 : tryF (fun f i => expP x f t i) (srcs x t) (needP x t) c with
      | none => rfl
      | some l => exact absurd ⟨c, hc, by rw [h4]; simp⟩ h
    have h2 : ∀ c, c < (srcs x t).length + 1 → (chs (srcs x t) c).find? (enB x t) = none := fun c hc => by
      rw [← try_step hm t c fun c2 h4 => h0 c2 (by omega)]
      exact h0 c hc
    unfold fewT
    rw [findSome_never h0, findSome_never h2]
/-- What is lacking at a spring. -/
def lackP (x : Wat) (t i : Nat) : Bool := needP x t i && !(srcs x t).any fun f => expP x f t i
theorem lackP_en {x : Wat} (hm : x.m ≤ 64) (t : Nat) : setN (lackP x t) = 0 ↔ enB x t (srcs x t) = true := by
  rw [← covB_en hm, setN_zero]
  unfold covB
  rw [List.all_eq_true]
  constructor
  · intro h i hi
    have := h i (List.mem_range.1 hi)
    unfold lackP at this
    cases h1 : needP x t i
    · rfl
    · rw [h1] at this
      simp only [Bool.true_and, Bool.not_eq_false'] at this
      rw [this]
      rfl
  · intro h i hi
    have := h i (List.mem_range.2 hi)
    unfold lackP
    cases h1 : needP x t i
    · rfl
    · rw [h1] at this
      simp only [Bool.not_true, Bool.false_or] at this
      rw [this]
      rfl
/-- Which only one source explains. -/
def onlyP (x : Wat) (t f i : Nat) : Bool := (needP x t i && expP x f t i) && !((srcs x t).filter (· != f)).any fun g => expP x g t i
theorem onlyP_en {x : Wat} (hm : x.m ≤ 64) (t f : Nat) (hf : f ∈ srcs x t) (he : enB x t (srcs x t) = true) : setN (onlyP x t f) = 0 ↔ enB x t ((srcs x t).filter (· != f)) = true := by
  rw [← covB_en hm] at he ⊢
  rw [setN_zero]
  unfold covB at he ⊢
  rw [List.all_eq_true] at he ⊢
  constructor
  · intro h i hi
    have h1 := h i (List.mem_range.1 hi)
    have h2 := he i hi
    unfold onlyP at h1
    cases h3 : needP x t i
    · rfl
    · rw [h3] at h1 h2
      simp only [Bool.not_true, Bool.false_or, Bool.true_and] at h1 h2 ⊢
      rw [List.any_eq_true] at h2
      obtain ⟨g, hg, h4⟩ := h2
      by_cases e : g = f
      · subst e
        rw [h4] at h1
        simpa using h1
      · rw [List.any_eq_true]
        exact ⟨g, List.mem_filter.2 ⟨hg, by simpa using e⟩, h4⟩
  · intro h i hi
    have h1 := h i (List.mem_range.2 hi)
    unfold onlyP
    cases h3 : needP x t i
    · rfl
    · rw [h3] at h1
      simp only [Bool.not_true, Bool.false_or] at h1
      rw [h1]
      simp
theorem mem_nedT {x : Wat} (hm : x.m ≤ 64) {t f : Nat} (he : enB x t (srcs x t) = true) (hf : f ∈ srcs x t) : (!enB x t ((srcs x t).filter (· != f))) = decide (setN (onlyP x t f) ≠ 0) := by
  have h := onlyP_en hm t f hf he
  cases h1 : enB x t ((srcs x t).filter (· != f))
  · rw [h1] at h
    simp only [Bool.not_false]
    rw [eq_comm, decide_eq_true_iff]
    intro h2
    exact absurd (h.1 h2) (by simp)
  · rw [h1] at h
    simp [h.2 rfl]
/-- What is lacking, spring by spring. -/
def lackA (x : Wat) (k i : Nat) : Bool := (List.range k).any fun t => lackP x t i
theorem lackA_succ (x : Wat) (k i : Nat) : lackA x (k + 1) i = (lackA x k i || lackP x k i) := by
  unfold lackA
  rw [List.range_succ, List.any_append]
  simp
theorem lackA_all {x : Wat} (hx : WatOk x) {i : Nat} : lackA x x.n i = (decide (i < x.m) && lckB x i) := by
  rw [Bool.eq_iff_iff]
  unfold lackA
  rw [List.any_eq_true, Bool.and_eq_true, decide_eq_true_iff]
  constructor
  · rintro ⟨t, ht, h⟩
    unfold lackP needP at h
    simp only [Bool.and_eq_true, decide_eq_true_iff, beq_iff_eq, Bool.not_eq_true'] at h
    obtain ⟨⟨h1, h2, h3⟩, h4⟩ := h
    refine ⟨h1, ?_⟩
    unfold lckB
    rw [h2, Int.toNat_natCast, ← any_expP h1, h4, h3]
    rfl
  · rintro ⟨h1, h2⟩
    unfold lckB at h2
    have hs := (hx.eru i h1).sp
    refine ⟨(x.sp i).toNat, List.mem_range.2 (by omega), ?_⟩
    unfold lackP needP
    rw [any_expP h1]
    rw [Bool.and_eq_true] at h2
    simp only [Bool.and_eq_true, decide_eq_true_iff, beq_iff_eq]
    exact ⟨⟨h1, by omega, h2.1⟩, h2.2⟩
end Go.Proofs.Ytijgfdncocjncaa
