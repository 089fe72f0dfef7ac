/- Ranger, plain: the document's worst crowd: which step is the best, and who is filled up. -/
import Derived.Test.YtfebhofihioaoaaA1
namespace Go.Proofs.Ytfebhofihioaoaa
set_option linter.unusedVariables false
set_option linter.unusedSimpArgs false

section
variable {x : Prk} {S : Nat} {c : Nat → Int} {left : Int}
theorem next_bd (hx : PrkOk x) {i : Nat} (hi : i < x.n) : 1 ≤ nextS x c i ∧ nextS x c i ≤ x.ho i := by
  have h2 := hx.hold i hi
  have h3 := (need1_iff (h := x.ho i) (p := c i) (k := need1 (x.ho i) (c i)) h2.1).1 rfl
  rw [Int.sub_mul, Int.one_mul] at h3
  unfold nextS
  omega
/-- The best step below i: at b (-1: none), of size st. -/
def BestTo (x : Prk) (S : Nat) (c : Nat → Int) (left : Int) (i : Nat) (b st : Int) : Prop :=
  (b = -1 ∧ st = 0 ∧ ∀ j, j < i → ¬ candS x S c left j) ∨ ∃ k : Nat, b = k ∧ k < i ∧ candS x S c left k ∧ st = nextS x c k ∧ ∀ j, j < i → candS x S c left j → st ≤ nextS x c j
theorem BestTo.start : BestTo x S c left 0 (-1) 0 := .inl ⟨rfl, rfl, fun j h => by omega⟩
theorem BestTo.bd (hx : PrkOk x) {i : Nat} {b st : Int} (h : BestTo x S c left i b st) (hi : i ≤ x.n) : -1 ≤ b ∧ b < i ∧ 0 ≤ st ∧ st ≤ 1048576 := by
  rcases h with ⟨rfl, rfl, _⟩ | ⟨k, rfl, hk, _, rfl, _⟩
  · omega
  · have := next_bd (c := c) hx (i := k) (by omega)
    have := hx.hold k (by omega)
    omega
theorem BestTo.skip {i : Nat} {b st : Int} (h : BestTo x S c left i b st) (hn : ¬ candS x S c left i) : BestTo x S c left (i + 1) b st := by
  rcases h with ⟨h1, h2, h3⟩ | ⟨k, h1, h2, h3, h4, h5⟩
  · refine .inl ⟨h1, h2, fun j hj => ?_⟩
    rcases Nat.lt_succ_iff_lt_or_eq.1 hj with h | rfl
    · exact h3 j h
    · exact hn
  · refine .inr ⟨k, h1, by omega, h3, h4, fun j hj hc => ?_⟩
    rcases Nat.lt_succ_iff_lt_or_eq.1 hj with h | rfl
    · exact h5 j h hc
    · exact absurd hc hn
theorem BestTo.keep {i : Nat} {b st : Int} (h : BestTo x S c left i b st) (hb : ¬ b < 0) (hs : ¬ nextS x c i < st) : BestTo x S c left (i + 1) b st := by
  rcases h with ⟨h1, h2, h3⟩ | ⟨k, h1, h2, h3, h4, h5⟩
  · omega
  · refine .inr ⟨k, h1, by omega, h3, h4, fun j hj hc => ?_⟩
    rcases Nat.lt_succ_iff_lt_or_eq.1 hj with h | rfl
    · exact h5 j h hc
    · omega
theorem BestTo.take_ {i : Nat} {b st : Int} (h : BestTo x S c left i b st) (hc : candS x S c left i) (hs : b < 0 ∨ nextS x c i < st) : BestTo x S c left (i + 1) i (nextS x c i) := by
  refine .inr ⟨i, rfl, by omega, hc, rfl, fun j hj hcj => ?_⟩
  rcases Nat.lt_succ_iff_lt_or_eq.1 hj with h' | rfl
  · rcases h with ⟨h1, h2, h3⟩ | ⟨k, h1, h2, h3, h4, h5⟩
    · exact absurd hcj (h3 j h')
    · have := h5 j h' hcj
      omega
  · exact Int.le_refl _
/-- Is spot j behind us, in round k at spot i? -/
def gone (S k i j : Nat) : Prop := (if S.testBit j then 1 else 0) < k ∨ ((if S.testBit j then 1 else 0) = k ∧ j < i)
/-- Filled up so far. -/
def FillK (x : Prk) (S : Nat) (c d : Nat → Int) (lack : Int) (k i : Nat) : Prop := Fill x c d lack ∧ (lack ≤ 0 ∨ ∀ j, j < x.n → gone S k i j → d j = x.hi j)
theorem FillK.start (h : Crowd x c) : FillK x S c c (x.alo - sumN c x.n) 0 0 := ⟨Fill.start h, .inr fun j _ hg => by
  rcases hg with h | ⟨_, h⟩ <;> omega⟩
theorem FillK.skip {d : Nat → Int} {lack : Int} {k i : Nat} (h : FillK x S c d lack k i) (hb : (if S.testBit i then 1 else 0) ≠ k) : FillK x S c d lack k (i + 1) := by
  refine ⟨h.1, h.2.imp id fun h2 j hj hg => h2 j hj ?_⟩
  rcases hg with h3 | ⟨h3, h4⟩
  · exact .inl h3
  · rcases Nat.lt_succ_iff_lt_or_eq.1 h4 with h5 | rfl
    · exact .inr ⟨h3, h5⟩
    · exact absurd h3 hb
theorem FillK.step (hx : PrkOk x) {d d' : Nat → Int} {lack : Int} {k i : Nat} (h : FillK x S c d lack k i) (hi : i < x.n) (hd' : ∀ j, j < x.n → d' j = if j = i then d i + max 0 (min lack (x.hi i - d i)) else d j) :
    FillK x S c d' (lack - max 0 (min lack (x.hi i - d i))) k (i + 1) := by
  obtain ⟨h1, h2⟩ := h.1.step hx hi hd'
  refine ⟨h1, ?_⟩
  rcases h2 with h2 | h2
  · exact .inl h2
  · rcases h.2 with h3 | h3
    · left; omega
    · refine .inr fun j hj hg => ?_
      by_cases e : j = i
      · subst e; exact h2
      · rw [hd' j hj, if_neg e]
        refine h3 j hj ?_
        rcases hg with h4 | ⟨h4, h5⟩
        · exact .inl h4
        · exact .inr ⟨h4, by omega⟩
theorem FillK.next {d : Nat → Int} {lack : Int} {k : Nat} (h : FillK x S c d lack k x.n) : FillK x S c d lack (k + 1) 0 := by
  refine ⟨h.1, h.2.imp id fun h2 j hj hg => h2 j hj ?_⟩
  rcases hg with h3 | ⟨_, h4⟩
  · by_cases e : (if S.testBit j then 1 else 0) = k
    · exact .inr ⟨e, hj⟩
    · exact .inl (by omega)
  · omega
theorem FillK.done (hx : PrkOk x) {d : Nat → Int} {lack : Int} (hc : Crowd x c) (h : FillK x S c d lack 2 0) : Possible x d := by
  refine h.1.done hx hc (h.2.imp id fun h2 j hj => h2 j hj (.inl ?_))
  split <;> omega
theorem FillK.bd (hx : PrkOk x) {d : Nat → Int} {lack : Int} {k i : Nat} (hc : Crowd x c) (h : FillK x S c d lack k i) {j : Nat} (hj : j < x.n) : 0 ≤ d j ∧ d j ≤ x.hi j ∧ x.hi j ≤ 1048576 ∧ -6291456 ≤ lack ∧ lack ≤ 6291456 := by
  have h1 := h.1.ge j hj
  have h2 := hc.1 j hj
  have h3 := hx.peo j hj
  have h4 := h.1.lack_
  have h5 := h.1.le
  have h6 := hx.all
  have h7 : 0 ≤ sumN d x.n := sumN_nonneg fun i hi => by
    have := h.1.ge i hi
    have := hc.1 i hi
    have := hx.peo i hi
    omega
  omega
end
/-- Of what the worst crowd is made: a crowd that is possible, and needs as much as any. -/
theorem worst_end {x : Prk} (hx : PrkOk x) {S : Nat} {c d : Nat → Int} {lack : Int} (hc : Crowd x c ∧ IsNeed x S (needC x S c)) (h : FillK x S c d lack 2 0) : Possible x d ∧ IsNeed x S (needC x S d) := by
  have hp := h.done hx hc.1
  refine ⟨hp, ?_⟩
  rw [worst_more hx hc.2 (fun i hi => (h.1.ge i hi).1) hp.crowd]
  exact hc.2
end Go.Proofs.Ytfebhofihioaoaa
