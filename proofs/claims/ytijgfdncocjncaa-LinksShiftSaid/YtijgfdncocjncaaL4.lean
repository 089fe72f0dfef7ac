/- Links, plain: no set of fewer links explains a watch, and each has those that are needed. -/
import Derived.Test.YtijgfdncocjncaaL1
namespace Go.Proofs.Ytijgfdncocjncaa
set_option linter.unusedVariables false
set_option linter.unusedSimpArgs false
open Go Go.RowKit

theorem enB_iff {x : Wat} {t : Nat} {l : List Nat} : enB x t l = true ↔ ∀ i, i < x.m → x.sp i = (t : Int) → needB x i = true → ∃ f, f ∈ l ∧ expB x f t i = true := by
  unfold enB
  rw [List.all_eq_true]
  constructor
  · intro h i hi hs hn
    have h1 := h i (List.mem_range.2 hi)
    rw [hs, hn] at h1
    simpa using h1
  · intro h i hi
    have hi := List.mem_range.1 hi
    by_cases hs : x.sp i = (t : Int)
    · cases hn : needB x i
      · simp
      · obtain ⟨f, hf, he⟩ := h i hi hs hn
        rw [Bool.or_eq_true]
        exact .inr (List.any_eq_true.2 ⟨f, hf, he⟩)
    · simp [hs]
theorem enB_mono {x : Wat} {t : Nat} {l r : List Nat} (h : ∀ f, f ∈ l → f ∈ r) (he : enB x t l = true) : enB x t r = true := enB_iff.2 fun i hi hs hn => by
  obtain ⟨f, hf, h2⟩ := enB_iff.1 he i hi hs hn
  exact ⟨f, h f hf, h2⟩
theorem fewT_some {x : Wat} {t : Nat} {l : List Nat} (h : fewT x t = some l) : l.Sublist (srcs x t) ∧ enB x t l = true := by
  unfold fewT at h
  obtain ⟨c, _, hc⟩ := List.exists_of_findSome?_eq_some h
  exact ⟨((mem_chs _ _ _).1 (List.mem_of_find?_eq_some hc)).1, List.find?_some hc⟩
theorem findSome_range_least {β : Type} {g : Nat → Option β} : ∀ {k : Nat} {b : β}, (List.range k).findSome? g = some b → ∃ c, c < k ∧ g c = some b ∧ ∀ j, j < c → g j = none
  | 0, b, h => by simp at h
  | k + 1, b, h => by
    rw [List.range_succ, List.findSome?_append] at h
    cases h1 : (List.range k).findSome? g with
    | none =>
      rw [h1] at h
      simp only [Option.none_or, List.findSome?_cons, List.findSome?_nil] at h
      refine ⟨k, by omega, ?_, fun j hj => List.findSome?_eq_none_iff.1 h1 j (List.mem_range.2 hj)⟩
      cases hg : g k with
      | none => rw [hg] at h; simp at h
      | some b2 => rw [hg] at h; simpa using h
    | some b2 =>
      rw [h1] at h
      simp only [Option.some_or, Option.some.injEq] at h
      subst h
      obtain ⟨c, h2, h3, h4⟩ := findSome_range_least h1
      exact ⟨c, by omega, h3, h4⟩
theorem fewT_least {x : Wat} {t : Nat} {l r : List Nat} (h : fewT x t = some l) (hr : r.Sublist (srcs x t)) (he : enB x t r = true) : l.length ≤ r.length := by
  unfold fewT at h
  obtain ⟨c, _, hc, hl⟩ := findSome_range_least h
  have h1 := ((mem_chs _ _ _).1 (List.mem_of_find?_eq_some hc)).2
  rw [h1]
  refine Nat.le_of_not_lt fun h2 => ?_
  have h3 := List.find?_eq_none.1 (hl _ h2) r ((mem_chs _ _ _).2 ⟨hr, rfl⟩)
  exact h3 he
theorem fewT_is {x : Wat} {t : Nat} : (∃ l, fewT x t = some l) ↔ enB x t (srcs x t) = true := by
  have h := @fewT_none x t
  cases h1 : fewT x t with
  | none => rw [h.1 h1]; simp
  | some l =>
    simp only [Option.some.injEq, exists_eq', true_iff]
    cases h2 : enB x t (srcs x t) with
    | true => rfl
    | false => rw [h.2 h2] at h1; cases h1
/-- All links of lists, spring by spring. -/
def lnkTo (P : Nat → List Nat) (k : Nat) : List (Int × Int) := (List.range k).flatMap fun t => lnk t (P t)
theorem lnkTo_succ (P : Nat → List Nat) (k : Nat) : lnkTo P (k + 1) = lnkTo P k ++ lnk k (P k) := by
  unfold lnkTo
  rw [List.range_succ, List.flatMap_append]
  simp
theorem mem_lnkI {t : Nat} {l : List Nat} {p : Int × Int} : p ∈ lnk t l ↔ ∃ f : Nat, f ∈ l ∧ p = ((f : Int), (t : Int)) := by
  unfold lnk
  rw [List.mem_map]
  exact ⟨fun ⟨f, h, e⟩ => ⟨f, h, e.symm⟩, fun ⟨f, h, e⟩ => ⟨f, h, e.symm⟩⟩
theorem mem_lnkTo {P : Nat → List Nat} {k : Nat} {p : Int × Int} : p ∈ lnkTo P k ↔ ∃ f t : Nat, t < k ∧ f ∈ P t ∧ p = ((f : Int), (t : Int)) := by
  unfold lnkTo
  rw [List.mem_flatMap]
  constructor
  · rintro ⟨t, ht, h⟩
    obtain ⟨f, hf, e⟩ := mem_lnkI.1 h
    exact ⟨f, t, List.mem_range.1 ht, hf, e⟩
  · rintro ⟨f, t, ht, hf, e⟩
    exact ⟨t, List.mem_range.2 ht, mem_lnkI.2 ⟨f, hf, e⟩⟩
theorem lnkI_len (t : Nat) (l : List Nat) : (lnk t l).length = l.length := by unfold lnk; simp
theorem lnkTo_len_le {P R : Nat → List Nat} : ∀ {k : Nat}, (∀ t, t < k → (P t).length ≤ (R t).length) → (lnkTo P k).length ≤ (lnkTo R k).length
  | 0, _ => by simp [lnkTo]
  | k + 1, h => by
    rw [lnkTo_succ, lnkTo_succ, List.length_append, List.length_append, lnkI_len, lnkI_len]
    have h1 := lnkTo_len_le (k := k) (fun t ht => h t (by omega))
    have h2 := h k (by omega)
    omega
theorem lnkTo_congr {P R : Nat → List Nat} : ∀ {k : Nat}, (∀ t, t < k → P t = R t) → lnkTo P k = lnkTo R k
  | 0, _ => rfl
  | k + 1, h => by rw [lnkTo_succ, lnkTo_succ, h k (by omega), lnkTo_congr fun t ht => h t (by omega)]
/-- In order, each once. -/
def lnkLt (p q : Int × Int) : Prop := p.2 < q.2 ∨ p.2 = q.2 ∧ p.1 < q.1
theorem lnk_sorted {t : Nat} {l : List Nat} (h : l.Pairwise (· < ·)) : (lnk t l).Pairwise lnkLt := by
  unfold lnk
  rw [List.pairwise_map]
  exact h.imp fun {a b} hab => .inr ⟨rfl, by show (a : Int) < (b : Int); omega⟩
theorem lnkTo_sorted {P : Nat → List Nat} : ∀ {k : Nat}, (∀ t, t < k → (P t).Pairwise (· < ·)) → (lnkTo P k).Pairwise lnkLt
  | 0, _ => by simp [lnkTo]
  | k + 1, h => by
    rw [lnkTo_succ, List.pairwise_append]
    refine ⟨lnkTo_sorted fun t ht => h t (by omega), lnk_sorted (h k (by omega)), ?_⟩
    intro p hp q hq
    obtain ⟨f, t, ht, _, rfl⟩ := mem_lnkTo.1 hp
    obtain ⟨g, _, rfl⟩ := mem_lnkI.1 hq
    exact .inl (by show (t : Int) < (k : Int); omega)
theorem lnkLt_ne {p q : Int × Int} (h : lnkLt p q) : p ≠ q := by
  rintro rfl
  rcases h with h | ⟨_, h⟩ <;> omega
theorem sorted_nodup {l : List (Int × Int)} (h : l.Pairwise lnkLt) : l.Pairwise (· ≠ ·) := h.imp lnkLt_ne
theorem len_of_sub : ∀ {l r : List (Int × Int)}, l.Pairwise (· ≠ ·) → (∀ p, p ∈ l → p ∈ r) → l.length ≤ r.length
  | [], _, _, _ => by simp
  | a :: l, r, h, hs => by
    rw [List.pairwise_cons] at h
    have ha : a ∈ r := hs a (by simp)
    have h1 := len_of_sub (l := l) (r := r.erase a) h.2 fun p hp => (List.mem_erase_of_ne (fun e => h.1 p hp e.symm)).2 (hs p (List.mem_cons_of_mem _ hp))
    rw [List.length_erase_of_mem ha] at h1
    have h2 := List.length_pos_of_mem ha
    simp only [List.length_cons]
    omega
/-- Does what 'Fewest' makes be, and what is it? -/
theorem fewTo_some {x : Wat} : ∀ {k : Nat} {o : List (Int × Int)}, fewTo x k = some o → ∃ P : Nat → List Nat, o = lnkTo P k ∧ ∀ t, t < k → fewT x t = some (P t)
  | 0, o, h => by
    simp only [fewTo, Option.some.injEq] at h
    subst h
    exact ⟨fun _ => [], by simp [lnkTo], fun t ht => by omega⟩
  | k + 1, o, h => by
    unfold fewTo at h
    cases h1 : fewTo x k with
    | none => rw [h1] at h; cases h2 : fewT x k <;> rw [h2] at h <;> simp at h
    | some o1 =>
      cases h2 : fewT x k with
      | none => rw [h1, h2] at h; simp at h
      | some l =>
        rw [h1, h2] at h
        simp only [Option.some.injEq] at h
        obtain ⟨P, hP, hT⟩ := fewTo_some h1
        refine ⟨fun t => if t = k then l else P t, ?_, ?_⟩
        · rw [lnkTo_succ, ← h, hP, lnkTo_congr (R := P) (fun t ht => if_neg (by omega))]
          simp
        · intro t ht
          by_cases e : t = k
          · subst e; simpa using h2
          · simpa [e] using hT t (by omega)
theorem fewTo_noneI {x : Wat} : ∀ {k : Nat}, fewTo x k = none ↔ ∃ t, t < k ∧ enB x t (srcs x t) = false
  | 0 => by simp [fewTo]
  | k + 1 => by
    have ih := @fewTo_noneI x k
    unfold fewTo
    constructor
    · intro h
      cases h1 : fewTo x k with
      | none =>
        obtain ⟨t, ht, h2⟩ := ih.1 h1
        exact ⟨t, by omega, h2⟩
      | some o =>
        cases h2 : fewT x k with
        | none => exact ⟨k, by omega, fewT_none.1 h2⟩
        | some l => rw [h1, h2] at h; cases h
    · rintro ⟨t, ht, h⟩
      by_cases e : t = k
      · subst e
        rw [fewT_none.2 h]
        cases fewTo x t <;> rfl
      · rw [ih.2 ⟨t, by omega, h⟩]
theorem nedTo_some {x : Wat} : ∀ {k : Nat} {o : List (Int × Int)}, nedTo x k = some o → o = lnkTo (nedT x) k
  | 0, o, h => by
    simp only [nedTo, Option.some.injEq] at h
    subst h
    simp [lnkTo]
  | k + 1, o, h => by
    unfold nedTo at h
    cases h1 : nedTo x k with
    | none => rw [h1] at h; cases h
    | some o1 =>
      rw [h1] at h
      dsimp only at h
      split at h
      · simp only [Option.some.injEq] at h
        rw [lnkTo_succ, ← h, nedTo_some h1]
      · cases h
theorem nedTo_noneI {x : Wat} : ∀ {k : Nat}, nedTo x k = none ↔ ∃ t, t < k ∧ enB x t (srcs x t) = false
  | 0 => by simp [nedTo]
  | k + 1 => by
    have ih := @nedTo_noneI x k
    unfold nedTo
    constructor
    · intro h
      cases h1 : nedTo x k with
      | none =>
        obtain ⟨t, ht, h2⟩ := ih.1 h1
        exact ⟨t, by omega, h2⟩
      | some o =>
        rw [h1] at h
        dsimp only at h
        split at h
        · cases h
        · rename_i h2
          exact ⟨k, by omega, bool_false h2⟩
    · rintro ⟨t, ht, h⟩
      by_cases e : t = k
      · subst e
        rw [h]
        cases nedTo x t <;> simp
      · rw [ih.2 ⟨t, by omega, h⟩]
theorem few_ned_none {x : Wat} {k : Nat} : fewTo x k = none ↔ nedTo x k = none := fewTo_noneI.trans nedTo_noneI.symm
/-- Links of a watch. -/
def LnkOk (x : Wat) (S : List (Int × Int)) : Prop := ∀ p, p ∈ S → ∃ f t : Nat, p = ((f : Int), (t : Int)) ∧ f < x.n ∧ t < x.n ∧ f ≠ t
/-- Do links explain a watch? -/
def explL (x : Wat) (S : List (Int × Int)) : Bool := (S.all fun p => (ref x p.1.toNat p.2.toNat).isNone) && ((List.range x.m).all fun i => !needB x i || S.any fun p => expB x p.1.toNat p.2.toNat i)
theorem explL_iff {x : Wat} {S : List (Int × Int)} : explL x S = true ↔ (∀ p, p ∈ S → ref x p.1.toNat p.2.toNat = none) ∧ ∀ i, i < x.m → needB x i = true → ∃ p, p ∈ S ∧ expB x p.1.toNat p.2.toNat i = true := by
  unfold explL
  rw [Bool.and_eq_true, List.all_eq_true, List.all_eq_true]
  refine and_congr ?_ ?_
  · refine forall_congr' fun p => forall_congr' fun _ => ?_
    exact Option.isNone_iff_eq_none
  · constructor
    · intro h i hi hn
      have := h i (List.mem_range.2 hi)
      rw [hn] at this
      simp only [Bool.not_true, Bool.false_or] at this
      exact List.any_eq_true.1 this
    · intro h i hi
      cases hn : needB x i
      · simp
      · simp only [Bool.not_true, Bool.false_or]
        exact List.any_eq_true.2 (h i (List.mem_range.1 hi) hn)
theorem folB_sp {x : Wat} {f t b a : Nat} (h : folB x f t b a = true) : x.sp a = (f : Int) ∧ x.sp b = (t : Int) := by
  unfold folB at h
  simp only [Bool.and_eq_true, beq_iff_eq] at h
  exact ⟨h.1, h.2.1⟩
theorem expB_sp {x : Wat} {f t b : Nat} (h : expB x f t b = true) : x.sp b = (t : Int) := by
  unfold expB at h
  obtain ⟨a, _, h⟩ := List.any_eq_true.1 h
  exact (folB_sp h).2
/-- Those of a set from which a link to a spring is. -/
def setT (x : Wat) (S : List (Int × Int)) (t : Nat) : List Nat := (srcs x t).filter fun f => S.contains ((f : Int), (t : Int))
theorem mem_setT {x : Wat} {S : List (Int × Int)} {t f : Nat} : f ∈ setT x S t ↔ f ∈ srcs x t ∧ ((f : Int), (t : Int)) ∈ S := by
  unfold setT
  rw [List.mem_filter, List.contains_iff_mem]
theorem setT_en {x : Wat} {S : List (Int × Int)} (hS : LnkOk x S) (h : explL x S = true) (t : Nat) : enB x t (setT x S t) = true := by
  obtain ⟨h1, h2⟩ := explL_iff.1 h
  refine enB_iff.2 fun i hi hs hn => ?_
  obtain ⟨p, hp, he⟩ := h2 i hi hn
  obtain ⟨f, u, rfl, hf, hu, hne⟩ := hS p hp
  have h3 := h1 _ hp
  simp only [Int.toNat_natCast] at h3 he
  have h4 := expB_sp he
  rw [hs] at h4
  obtain rfl : t = u := by omega
  exact ⟨f, mem_setT.2 ⟨mem_srcs.2 ⟨hf, hne, h3⟩, hp⟩, he⟩
theorem setT_sorted (x : Wat) (S : List (Int × Int)) (t : Nat) : (setT x S t).Pairwise (· < ·) := by
  unfold setT
  exact (srcs_sorted x t).filter _
theorem setT_sub (x : Wat) (S : List (Int × Int)) (t : Nat) : (setT x S t).Sublist (srcs x t) := by
  unfold setT
  exact List.filter_sublist
theorem setT_len (x : Wat) (S : List (Int × Int)) (k : Nat) : (lnkTo (setT x S) k).length ≤ S.length := len_of_sub (sorted_nodup (lnkTo_sorted fun t _ => setT_sorted x S t)) fun p hp => by
  obtain ⟨f, t, _, hf, rfl⟩ := mem_lnkTo.1 hp
  exact (mem_setT.1 hf).2
theorem few_not {x : Wat} {S : List (Int × Int)} (hS : LnkOk x S) (h : fewTo x x.n = none) : explL x S = false := by
  obtain ⟨t, _, ht⟩ := fewTo_noneI.1 h
  cases h1 : explL x S with
  | false => rfl
  | true =>
    have h2 := enB_mono (fun f hf => (mem_setT.1 hf).1) (setT_en hS h1 t)
    rw [ht] at h2
    cases h2
theorem few_le {x : Wat} {S o : List (Int × Int)} (hS : LnkOk x S) (h : explL x S = true) (ho : fewTo x x.n = some o) : o.length ≤ S.length := by
  obtain ⟨P, rfl, hP⟩ := fewTo_some ho
  exact Nat.le_trans (lnkTo_len_le fun t ht => fewT_least (hP t ht) (setT_sub x S t) (setT_en hS h t)) (setT_len x S x.n)
theorem srcs_lnk {x : Wat} {P : Nat → List Nat} (h : ∀ t, t < x.n → ∀ f, f ∈ P t → f ∈ srcs x t) : LnkOk x (lnkTo P x.n) := fun p hp => by
  obtain ⟨f, t, ht, hf, rfl⟩ := mem_lnkTo.1 hp
  obtain ⟨h1, h2, _⟩ := mem_srcs.1 (h t ht f hf)
  exact ⟨f, t, rfl, h1, ht, h2⟩
theorem few_ok {x : Wat} {o : List (Int × Int)} (ho : fewTo x x.n = some o) : LnkOk x o := by
  obtain ⟨P, rfl, hP⟩ := fewTo_some ho
  exact srcs_lnk fun t ht f hf => (fewT_some (hP t ht)).1.subset hf
theorem ned_ok {x : Wat} {o : List (Int × Int)} (ho : nedTo x x.n = some o) : LnkOk x o := by
  rw [nedTo_some ho]
  exact srcs_lnk fun t ht f hf => by
    unfold nedT at hf
    exact (List.mem_filter.1 hf).1
theorem sp_nat {x : Wat} (hx : WatOk x) {i : Nat} (hi : i < x.m) : ∃ q : Nat, x.sp i = (q : Int) ∧ q < x.n := by
  have h := (hx.eru i hi).sp
  exact ⟨(x.sp i).toNat, by omega, by omega⟩
theorem few_expl {x : Wat} (hx : WatOk x) {o : List (Int × Int)} (ho : fewTo x x.n = some o) : explL x o = true := by
  obtain ⟨P, rfl, hP⟩ := fewTo_some ho
  refine explL_iff.2 ⟨fun p hp => ?_, fun i hi hn => ?_⟩
  · obtain ⟨f, t, ht, hf, rfl⟩ := mem_lnkTo.1 hp
    exact (mem_srcs.1 ((fewT_some (hP t ht)).1.subset hf)).2.2
  · obtain ⟨q, hq, hqn⟩ := sp_nat hx hi
    obtain ⟨f, hf, he⟩ := enB_iff.1 (fewT_some (hP q hqn)).2 i hi hq hn
    exact ⟨((f : Int), (q : Int)), mem_lnkTo.2 ⟨f, q, hqn, hf, rfl⟩, by simpa using he⟩
theorem few_sorted {x : Wat} {o : List (Int × Int)} (ho : fewTo x x.n = some o) : o.Pairwise lnkLt := by
  obtain ⟨P, rfl, hP⟩ := fewTo_some ho
  exact lnkTo_sorted fun t ht => (srcs_sorted x t).sublist (fewT_some (hP t ht)).1
theorem ned_sorted {x : Wat} {o : List (Int × Int)} (ho : nedTo x x.n = some o) : o.Pairwise lnkLt := by
  rw [nedTo_some ho]
  exact lnkTo_sorted fun t ht => by
    unfold nedT
    exact (srcs_sorted x t).filter _
theorem ned_in {x : Wat} {S o : List (Int × Int)} (hS : LnkOk x S) (h : explL x S = true) (ho : nedTo x x.n = some o) : ∀ p, p ∈ o → p ∈ S := fun p hp => by
  rw [nedTo_some ho] at hp
  obtain ⟨f, t, ht, hf, rfl⟩ := mem_lnkTo.1 hp
  unfold nedT at hf
  obtain ⟨hf1, hf2⟩ := List.mem_filter.1 hf
  refine Classical.byContradiction fun hno => ?_
  have h1 := enB_mono (r := (srcs x t).filter (· != f)) (fun g hg => by
    obtain ⟨hg1, hg2⟩ := mem_setT.1 hg
    refine List.mem_filter.2 ⟨hg1, ?_⟩
    have : g ≠ f := by rintro rfl; exact hno hg2
    simpa using this) (setT_en hS h t)
  rw [h1] at hf2
  cases hf2
theorem drop_mem {l : List (Int × Int)} {i : Nat} {p : Int × Int} (h : p ∈ l.take i ++ l.drop (i + 1)) : p ∈ l := by
  rcases List.mem_append.1 h with h | h
  · exact List.mem_of_mem_take h
  · exact List.mem_of_mem_drop h
/-- Each link of the fewest is there for something. -/
theorem few_each {x : Wat} {o : List (Int × Int)} (ho : fewTo x x.n = some o) {i : Nat} (hi : i < o.length) : explL x (o.take i ++ o.drop (i + 1)) = false := by
  cases h : explL x (o.take i ++ o.drop (i + 1)) with
  | false => rfl
  | true =>
    have h1 := few_le (fun p hp => few_ok ho p (drop_mem hp)) h ho
    rw [List.length_append, List.length_take, List.length_drop] at h1
    omega
theorem lck_none {x : Wat} (hx : WatOk x) : fewTo x x.n = none ↔ lckTo x x.m ≠ [] := by
  constructor
  · intro h e
    obtain ⟨t, ht, h1⟩ := fewTo_noneI.1 h
    have : enB x t (srcs x t) = true := enB_iff.2 fun i hi hs hn => by
      have h2 : i ∉ lckTo x x.m := by rw [e]; simp
      unfold lckTo at h2
      have h3 : lckB x i = false := by
        cases h4 : lckB x i with
        | false => rfl
        | true => exact absurd (List.mem_filter.2 ⟨List.mem_range.2 hi, h4⟩) h2
      unfold lckB at h3
      rw [hn, hs, Int.toNat_natCast] at h3
      simp only [Bool.true_and, Bool.not_eq_false'] at h3
      obtain ⟨f, hf, he⟩ := List.any_eq_true.1 h3
      exact ⟨f, hf, he⟩
    rw [h1] at this
    cases this
  · intro h
    obtain ⟨i, hi⟩ := List.exists_mem_of_ne_nil _ h
    unfold lckTo at hi
    obtain ⟨h1, h2⟩ := List.mem_filter.1 hi
    have hi := List.mem_range.1 h1
    unfold lckB at h2
    rw [Bool.and_eq_true] at h2
    obtain ⟨q, hq, hqn⟩ := sp_nat hx hi
    refine fewTo_noneI.2 ⟨q, hqn, ?_⟩
    cases h3 : enB x q (srcs x q) with
    | false => rfl
    | true =>
      obtain ⟨f, hf, he⟩ := enB_iff.1 h3 i hi hq h2.1
      have h4 := h2.2
      rw [hq, Int.toNat_natCast] at h4
      simp only [Bool.not_eq_true'] at h4
      have h5 : ((srcs x q).any fun f => expB x f q i) = true := List.any_eq_true.2 ⟨f, hf, he⟩
      rw [h5] at h4
      cases h4
end Go.Proofs.Ytijgfdncocjncaa
