/- Links, plain: a watch, what refutes a link, what links explain, and the fewest. -/
import Derived.Test.YtijgfdncocjncaaU
namespace Go.Proofs.Ytijgfdncocjncaa
set_option linter.unusedVariables false
set_option linter.unusedSimpArgs false
open Go Go.RowKit

/-! Sets of eruptions as numbers of 64 bits. -/
def bitsOf (p : Nat → Bool) : Nat → Nat
  | 0 => 0
  | k + 1 => bitsOf p k ||| (if p k then 2 ^ k else 0)
theorem bitsOf_bit (p : Nat → Bool) : ∀ (k i : Nat), (bitsOf p k).testBit i = (decide (i < k) && p i)
  | 0, i => by simp [bitsOf]
  | k + 1, i => by
    unfold bitsOf
    rw [Nat.testBit_or, bitsOf_bit p k i]
    by_cases h : p k = true
    · rw [if_pos h, Nat.testBit_two_pow]
      by_cases e : k = i
      · subst e; simp [h]
      · by_cases h1 : i < k
        · simp [h1, e, show i < k + 1 by omega]
        · simp [h1, e, show ¬ i < k + 1 by omega]
    · rw [if_neg h]
      by_cases e : k = i
      · subst e; simp [h]
      · by_cases h1 : i < k
        · simp [h1, show i < k + 1 by omega]
        · simp [h1, show ¬ i < k + 1 by omega]
theorem bitsOf_lt (p : Nat → Bool) : ∀ k : Nat, bitsOf p k < 2 ^ k
  | 0 => by simp [bitsOf]
  | k + 1 => by
    unfold bitsOf
    have h := bitsOf_lt p k
    have h2 : 2 ^ k < 2 ^ (k + 1) := Nat.pow_lt_pow_right (by decide) (by omega)
    refine Nat.or_lt_two_pow (by omega) ?_
    split
    · exact h2
    · exact Nat.two_pow_pos _
/-- The set of those that p tells, of 64. -/
def setN (p : Nat → Bool) : Nat := bitsOf p 64
theorem setN_bit (p : Nat → Bool) (i : Nat) : (setN p).testBit i = (decide (i < 64) && p i) := bitsOf_bit p 64 i
theorem setN_lt (p : Nat → Bool) : setN p < 18446744073709551616 := by
  have := bitsOf_lt p 64
  rwa [show (2 : Nat) ^ 64 = 18446744073709551616 by decide] at this
theorem setN_congr {p q : Nat → Bool} (h : ∀ i, i < 64 → p i = q i) : setN p = setN q := Nat.eq_of_testBit_eq fun i => by
  rw [setN_bit, setN_bit]
  by_cases hi : i < 64
  · rw [h i hi]
  · simp [hi]
theorem setN_eq {p q : Nat → Bool} (h : setN p = setN q) : ∀ i, i < 64 → p i = q i := fun i hi => by
  have := congrArg (fun n => n.testBit i) h
  simpa [setN_bit, hi] using this
theorem setN_zero {p : Nat → Bool} : setN p = 0 ↔ ∀ i, i < 64 → p i = false := by
  have e : (0 : Nat) = setN fun _ => false := by
    refine Nat.eq_of_testBit_eq fun i => ?_
    rw [setN_bit]
    simp
  rw [e]
  exact ⟨fun h i hi => setN_eq h i hi, fun h => setN_congr fun i hi => h i hi⟩
theorem setN_or (p q : Nat → Bool) : setN p ||| setN q = setN fun i => p i || q i := Nat.eq_of_testBit_eq fun i => by
  rw [Nat.testBit_or, setN_bit, setN_bit, setN_bit]
  cases decide (i < 64) <;> simp
theorem setN_and (p q : Nat → Bool) : setN p &&& setN q = setN fun i => p i && q i := Nat.eq_of_testBit_eq fun i => by
  rw [Nat.testBit_and, setN_bit, setN_bit, setN_bit]
  cases decide (i < 64) <;> simp
theorem setN_one {k : Nat} (h : k < 64) : 2 ^ k = setN fun i => i == k := Nat.eq_of_testBit_eq fun i => by
  rw [setN_bit, Nat.testBit_two_pow]
  by_cases e : k = i
  · subst e; simp [h]
  · simp [e, Ne.symm e]
theorem setN_not (p q : Nat → Bool) : setN p &&& (18446744073709551615 - setN q) = setN fun i => p i && !q i := Nat.eq_of_testBit_eq fun i => by
  have h := setN_lt q
  have e : 18446744073709551615 - setN q = 2 ^ 64 - (setN q + 1) := by
    rw [show (2 : Nat) ^ 64 = 18446744073709551616 by decide]
    omega
  rw [Nat.testBit_and, e, Nat.testBit_two_pow_sub_succ (by rw [show (2 : Nat) ^ 64 = 18446744073709551616 by decide]; exact h), setN_bit, setN_bit, setN_bit]
  cases decide (i < 64) <;> simp

/-! A watch. -/
structure Wat where
  hb : List (Int × Int × Int × Int)
  er : List (Int × Int)
  en : Int
namespace Wat
def n (x : Wat) : Nat := x.hb.length
def m (x : Wat) : Nat := x.er.length
def ol (x : Wat) (k : Nat) : Int := (x.hb.getD k (0, 0, 0, 0)).1
def oh (x : Wat) (k : Nat) : Int := (x.hb.getD k (0, 0, 0, 0)).2.1
def dl (x : Wat) (k : Nat) : Int := (x.hb.getD k (0, 0, 0, 0)).2.2.1
def dh (x : Wat) (k : Nat) : Int := (x.hb.getD k (0, 0, 0, 0)).2.2.2
def sp (x : Wat) (i : Nat) : Int := (x.er.getD i (0, 0)).1
def tm (x : Wat) (i : Nat) : Int := (x.er.getD i (0, 0)).2
end Wat
structure HabOk (x : Wat) (k : Nat) : Prop where
  own : x.ol k ≤ x.oh k → 0 ≤ x.ol k ∧ x.oh k ≤ 1048576
  del : 0 ≤ x.dl k ∧ x.dl k ≤ x.dh k ∧ x.dh k ≤ 1048576
structure EruOk (x : Wat) (i : Nat) : Prop where
  sp : 0 ≤ x.sp i ∧ x.sp i ≤ (x.n : Int) - 1
  tm : 0 ≤ x.tm i ∧ x.tm i ≤ x.en
  mono : 0 < i → x.tm (i - 1) ≤ x.tm i
  dist : ∀ k, k < i → ¬ (x.sp k = x.sp i ∧ x.tm k = x.tm i)
structure WatOk (x : Wat) : Prop where
  n6 : x.n ≤ 6
  m64 : x.m ≤ 64
  en : 0 ≤ x.en ∧ x.en ≤ 1048576
  hab : ∀ k, k < x.n → HabOk x k
  eru : ∀ i, i < x.m → EruOk x i
open Classical in
noncomputable def watB (x : Wat) : Bool := decide (WatOk x)
open Classical in
theorem watB_iff {x : Wat} : watB x = true ↔ WatOk x := by unfold watB; exact decide_eq_true_iff
theorem bool_false {b : Bool} (h : ¬ b = true) : b = false := by cases b <;> simp_all
theorem WatOk.sorted {x : Wat} (h : WatOk x) : ∀ i k, k ≤ i → i < x.m → x.tm k ≤ x.tm i := fun i k hk hi => by
  induction i with
  | zero => obtain rfl : k = 0 := by omega
            exact Int.le_refl _
  | succ i ih =>
    rcases Nat.lt_or_ge k (i + 1) with h1 | h1
    · have h2 := ih (by omega) (by omega)
      have h3 := (h.eru (i + 1) hi).mono (by omega)
      rw [Nat.add_sub_cancel] at h3
      omega
    · obtain rfl : k = i + 1 := by omega
      exact Int.le_refl _
/-- Does b follow a over a link from f to t? -/
def folB (x : Wat) (f t b a : Nat) : Bool := (x.sp a == (f : Int)) && ((x.sp b == (t : Int)) && inB (x.tm b - x.tm a) (x.dl t) (x.dh t))
/-- Does a refute it? -/
def refB (x : Wat) (f t a : Nat) : Bool := (x.sp a == (f : Int)) && (decide (x.tm a + x.dh t ≤ x.en) && !((List.range x.m).any fun k => folB x f t k a))
def ref (x : Wat) (f t : Nat) : Option Nat := (List.range x.m).find? (refB x f t)
def optI : Option Nat → Int
  | some a => a
  | none => -1
theorem optI_neg {o : Option Nat} : optI o < 0 ↔ o = none := by
  cases o with
  | none => simp [optI]
  | some a => simp [optI]
/-- Does a link explain b? -/
def expB (x : Wat) (f t b : Nat) : Bool := (List.range x.m).any fun a => folB x f t b a
/-- The eruptions of a spring, ahead of k. -/
def ownTo (x : Wat) (t k : Nat) : List Nat := (List.range k).filter fun i => x.sp i == (t : Int)
def own (x : Wat) (t : Nat) : List Nat := ownTo x t x.m
theorem ownTo_succ (x : Wat) (t k : Nat) : ownTo x t (k + 1) = ownTo x t k ++ if x.sp k == (t : Int) then [k] else [] := by
  unfold ownTo
  rw [List.range_succ, List.filter_append]
  by_cases h : x.sp k == (t : Int) <;> simp [h]
theorem mem_own {x : Wat} {t i : Nat} : i ∈ own x t ↔ i < x.m ∧ x.sp i = (t : Int) := by
  unfold own ownTo
  simp
theorem own_len (x : Wat) (t k : Nat) : (ownTo x t k).length ≤ k := by
  unfold ownTo
  have := List.length_filter_le (fun i => x.sp i == (t : Int)) (List.range k)
  simpa using this
theorem own_sorted (x : Wat) (t k : Nat) : (ownTo x t k).Pairwise (· < ·) := by
  unfold ownTo
  exact List.Pairwise.filter _ List.pairwise_lt_range
/-- The one ahead of k of a spring; -1: there is none. -/
def prevTo (x : Wat) (s : Int) : Nat → Int
  | 0 => -1
  | k + 1 => if x.sp k = s then (k : Int) else prevTo x s k
theorem prevTo_lt (x : Wat) (s : Int) : ∀ k : Nat, -1 ≤ prevTo x s k ∧ prevTo x s k < k
  | 0 => by simp [prevTo]
  | k + 1 => by
    have := prevTo_lt x s k
    unfold prevTo
    split <;> omega
theorem prevTo_last (x : Wat) (t : Nat) : ∀ k : Nat, prevTo x t k = optI (ownTo x t k).getLast?
  | 0 => rfl
  | k + 1 => by
    have ih := prevTo_last x t k
    rw [ownTo_succ]
    unfold prevTo
    by_cases h : x.sp k = (t : Int)
    · rw [if_pos h]
      simp [h, optI]
    · rw [if_neg h, ih]
      have : (x.sp k == (t : Int)) = false := by simpa using h
      simp [this]
/-- Does i need a link? -/
def needB (x : Wat) (i : Nat) : Bool := decide (0 ≤ prevTo x (x.sp i) i) && !inB (x.tm i - x.tm (prevTo x (x.sp i) i).toNat) (x.ol (x.sp i).toNat) (x.oh (x.sp i).toNat)
/-- The springs from which a link to t holds. -/
def srcTo (x : Wat) (t k : Nat) : List Nat := (List.range k).filter fun f => f != t && (ref x f t).isNone
def srcs (x : Wat) (t : Nat) : List Nat := srcTo x t x.n
theorem srcTo_succ (x : Wat) (t k : Nat) : srcTo x t (k + 1) = srcTo x t k ++ if k != t && (ref x k t).isNone then [k] else [] := by
  unfold srcTo
  rw [List.range_succ, List.filter_append]
  by_cases h : (k != t && (ref x k t).isNone) = true
  · simp only [List.filter_cons, h, if_true, List.filter_nil]
  · simp only [List.filter_cons, h, if_false, List.filter_nil]
theorem srcs_sorted (x : Wat) (t : Nat) : (srcs x t).Pairwise (· < ·) := by
  unfold srcs srcTo
  exact List.Pairwise.filter _ List.pairwise_lt_range
theorem mem_srcs {x : Wat} {t f : Nat} : f ∈ srcs x t ↔ f < x.n ∧ f ≠ t ∧ ref x f t = none := by
  unfold srcs srcTo
  simp
theorem srcs_len (x : Wat) (t : Nat) : (srcs x t).length ≤ x.n := by
  unfold srcs srcTo
  have := List.length_filter_le (fun f => f != t && (ref x f t).isNone) (List.range x.n)
  simpa using this
/-- Do links from some springs explain all that need one? -/
def enB (x : Wat) (t : Nat) (l : List Nat) : Bool := (List.range x.m).all fun i => !((x.sp i == (t : Int)) && needB x i) || l.any fun f => expB x f t i
/-- All lists of c of some, in order. -/
def chs : List Nat → Nat → List (List Nat)
  | _, 0 => [[]]
  | [], _ + 1 => []
  | a :: l, c + 1 => (chs l c).map (a :: ·) ++ chs l (c + 1)
theorem mem_chs : ∀ (l : List Nat) (c : Nat) (r : List Nat), r ∈ chs l c ↔ r.Sublist l ∧ r.length = c
  | l, 0, r => by
    cases l <;> simp only [chs, List.mem_singleton]
    all_goals
      constructor
      · rintro rfl; simp
      · rintro ⟨_, h⟩; exact List.eq_nil_of_length_eq_zero h
  | [], c + 1, r => by
    simp only [chs, List.not_mem_nil, List.sublist_nil, false_iff]
    rintro ⟨rfl, h⟩
    simp at h
  | a :: l, c + 1, r => by
    simp only [chs, List.mem_append, List.mem_map, mem_chs l (c + 1) r]
    constructor
    · rintro (⟨s, hs, rfl⟩ | ⟨h1, h2⟩)
      · obtain ⟨h1, h2⟩ := (mem_chs l c s).1 hs
        exact ⟨h1.cons_cons a, by simp [h2]⟩
      · exact ⟨h1.cons a, h2⟩
    · rintro ⟨h1, h2⟩
      cases h1 with
      | cons _ h => exact .inr ⟨h, h2⟩
      | cons_cons _ h => exact .inl ⟨_, (mem_chs l c _).2 ⟨h, by simpa using h2⟩, rfl⟩
/-- The first of the shortest lists that are enough. -/
def fewT (x : Wat) (t : Nat) : Option (List Nat) := (List.range ((srcs x t).length + 1)).findSome? fun c => (chs (srcs x t) c).find? (enB x t)
theorem fewT_none {x : Wat} {t : Nat} : fewT x t = none ↔ enB x t (srcs x t) = false := by
  unfold fewT
  rw [List.findSome?_eq_none_iff]
  constructor
  · intro h
    have h1 := h (srcs x t).length (by simp)
    rw [List.find?_eq_none] at h1
    exact bool_false (h1 _ ((mem_chs _ _ _).2 ⟨List.Sublist.refl _, rfl⟩))
  · intro h c _
    rw [List.find?_eq_none]
    intro r hr he
    obtain ⟨h1, _⟩ := (mem_chs _ _ _).1 hr
    have : enB x t (srcs x t) = true := by
      unfold enB at he ⊢
      rw [List.all_eq_true] at he ⊢
      intro i hi
      have h2 := he i hi
      rw [Bool.or_eq_true] at h2 ⊢
      rcases h2 with h2 | h2
      · exact .inl h2
      · refine .inr ?_
        rw [List.any_eq_true] at h2 ⊢
        obtain ⟨f, hf, h3⟩ := h2
        exact ⟨f, h1.subset hf, h3⟩
    rw [h] at this
    cases this
/-- What a link is, as it is told: from and to. -/
def lnk (t : Nat) (l : List Nat) : List (Int × Int) := l.map fun f : Nat => ((f : Int), (t : Int))
def fewTo (x : Wat) : Nat → Option (List (Int × Int))
  | 0 => some []
  | k + 1 => match fewTo x k, fewT x k with
    | some o, some l => some (o ++ lnk k l)
    | _, _ => none
/-- What 'Fewest' answers. -/
noncomputable def fewR (x : Wat) : List (Int × Int) × Int := if watB x then (match fewTo x x.n with | some o => (o, 0) | none => ([], 4)) else ([], 1)
def nedT (x : Wat) (t : Nat) : List Nat := (srcs x t).filter fun f => !enB x t ((srcs x t).filter (· != f))
def nedTo (x : Wat) : Nat → Option (List (Int × Int))
  | 0 => some []
  | k + 1 => match nedTo x k with
    | some o => if enB x k (srcs x k) then some (o ++ lnk k (nedT x k)) else none
    | none => none
noncomputable def nedR (x : Wat) : List (Int × Int) × Int := if watB x then (match nedTo x x.n with | some o => (o, 0) | none => ([], 4)) else ([], 1)
/-- What nothing explains. -/
def lckB (x : Wat) (i : Nat) : Bool := needB x i && !((srcs x (x.sp i).toNat).any fun f => expB x f (x.sp i).toNat i)
def lckTo (x : Wat) (k : Nat) : List Nat := (List.range k).filter (lckB x)
noncomputable def lckR (x : Wat) : List Int × Int := if watB x then ((lckTo x x.m).map fun i : Nat => (i : Int), 0) else ([], 1)
/-- What 'Holds' answers. -/
noncomputable def hldR (x : Wat) (f t : Int) : Bool × Int × Int := if watB x then (if inB f 0 ((x.n : Int) - 1) && inB t 0 ((x.n : Int) - 1) && !(f == t) then ((ref x f.toNat t.toNat).isNone, optI (ref x f.toNat t.toNat), 0) else (false, 0, 2)) else (false, 0, 1)
end Go.Proofs.Ytijgfdncocjncaa
