/- Ranger, plain: a crowd by remainders; bits of sets. -/
import Derived.Test.YtfebhofihioaoaaA7
namespace Go.Proofs.Ytfebhofihioaoaa
set_option linter.unusedVariables false
set_option linter.unusedSimpArgs false

/-- So many more people are given to the spots; so many are left. -/
structure SomeI (x : Prk) (tot : Int) (out : Nat → Int) (more : Int) : Prop where
  in_ : ∀ i, i < x.n → x.lo i ≤ out i ∧ out i ≤ x.hi i
  more0 : 0 ≤ more
  sum_ : sumN out x.n + more = tot
section
variable {x : Prk} {tot more : Int} {out : Nat → Int}
theorem SomeI.step (h : SomeI x tot out more) {b : Nat} (hb : b < x.n) {k : Int} (h0 : 0 ≤ k) (h1 : k ≤ min more (x.hi b - out b)) {out' : Nat → Int} (ho : ∀ i, i < x.n → out' i = if i = b then out b + k else out i) : SomeI x tot out' (more - k) := by
  have hi := h.in_ b hb
  refine ⟨fun i hi' => ?_, by omega, ?_⟩
  · rw [ho i hi']
    by_cases e : i = b
    · subst e; rw [if_pos rfl]; omega
    · rw [if_neg e]; exact h.in_ i hi'
  · rw [sumN_congr ho, sumN_set out _ hb]
    have := h.sum_
    omega
/-- The spots from so many rounds on are full, or all have been given. -/
def FullT (x : Prk) (r : Nat) (k : Nat) (out : Nat → Int) (more : Int) : Prop := more = 0 ∨ ∀ t, x.n ≤ t → t < k → out ((t + r) % x.n) = x.hi ((t + r) % x.n)
theorem FullT.start (x : Prk) (r : Nat) {k : Nat} (hk : k ≤ x.n) (out : Nat → Int) (more : Int) : FullT x r k out more := .inr fun t h1 h2 => by omega
theorem FullT.step (h : SomeI x tot out more) {r k : Nat} (hf : FullT x r k out more) (hn : 0 < x.n) {out' : Nat → Int} (ho : ∀ i, i < x.n → out' i = if i = (k + r) % x.n then out ((k + r) % x.n) + min more (x.hi ((k + r) % x.n) - out ((k + r) % x.n)) else out i) :
    FullT x r (k + 1) out' (more - min more (x.hi ((k + r) % x.n) - out ((k + r) % x.n))) := by
  have hb : (k + r) % x.n < x.n := Nat.mod_lt _ hn
  have hi := h.in_ _ hb
  have hm := h.more0
  rcases hf with hf | hf
  · left; omega
  · by_cases h0 : more ≤ x.hi ((k + r) % x.n) - out ((k + r) % x.n)
    · left; omega
    · right
      intro t ht1 ht2
      have htn : (t + r) % x.n < x.n := Nat.mod_lt _ hn
      rw [ho _ htn]
      by_cases e : (t + r) % x.n = (k + r) % x.n
      · rw [if_pos e, e]; omega
      · rw [if_neg e]
        rcases Nat.lt_succ_iff_lt_or_eq.1 ht2 with h3 | rfl
        · exact hf t ht1 h3
        · exact absurd rfl e
theorem FullT.done (h : SomeI x tot out more) {r : Nat} (hn : 0 < x.n) (hf : FullT x r (2 * x.n) out more) (ht : tot ≤ sumN x.hi x.n) : more = 0 := by
  rcases hf with hf | hf
  · exact hf
  · have hall : ∀ i, i < x.n → out i = x.hi i := fun i hi => by
      have key : ∃ t, x.n ≤ t ∧ t < 2 * x.n ∧ (t + r) % x.n = i := by
        have hr : r % x.n < x.n := Nat.mod_lt _ hn
        have e0 : r = x.n * (r / x.n) + r % x.n := (Nat.div_add_mod r x.n).symm
        by_cases h1 : r % x.n ≤ i
        · refine ⟨x.n + (i - r % x.n), by omega, by omega, ?_⟩
          have : x.n + (i - r % x.n) + r = i + x.n * (r / x.n + 1) := by rw [Nat.mul_add]; omega
          rw [this, Nat.add_mul_mod_self_left, Nat.mod_eq_of_lt hi]
        · refine ⟨x.n + (x.n + i - r % x.n), by omega, by omega, ?_⟩
          have : x.n + (x.n + i - r % x.n) + r = i + x.n * (r / x.n + 2) := by rw [Nat.mul_add]; omega
          rw [this, Nat.add_mul_mod_self_left, Nat.mod_eq_of_lt hi]
      obtain ⟨t, h1, h2, h3⟩ := key
      have := hf t h1 h2
      rwa [h3] at this
    have h1 := h.sum_
    rw [sumN_congr (g := x.hi) hall] at h1
    have := h.more0
    omega
/-- How many more people there are. -/
theorem some_tot (hx : PrkOk x) {r : Int} (hr : 0 ≤ r) :
    0 < min x.ahi (sumN x.hi x.n) - sumN x.lo x.n - max 0 (x.alo - sumN x.lo x.n) + 1 ∧
    0 ≤ max 0 (x.alo - sumN x.lo x.n) + r % (min x.ahi (sumN x.hi x.n) - sumN x.lo x.n - max 0 (x.alo - sumN x.lo x.n) + 1) ∧
    x.alo ≤ sumN x.lo x.n + (max 0 (x.alo - sumN x.lo x.n) + r % (min x.ahi (sumN x.hi x.n) - sumN x.lo x.n - max 0 (x.alo - sumN x.lo x.n) + 1)) ∧
    sumN x.lo x.n + (max 0 (x.alo - sumN x.lo x.n) + r % (min x.ahi (sumN x.hi x.n) - sumN x.lo x.n - max 0 (x.alo - sumN x.lo x.n) + 1)) ≤ x.ahi ∧
    sumN x.lo x.n + (max 0 (x.alo - sumN x.lo x.n) + r % (min x.ahi (sumN x.hi x.n) - sumN x.lo x.n - max 0 (x.alo - sumN x.lo x.n) + 1)) ≤ sumN x.hi x.n := by
  have h1 := hx.most
  have h2 := hx.least
  have h3 := hx.all
  have h4 : sumN x.lo x.n ≤ sumN x.hi x.n := sumN_le fun i hi => (hx.peo i hi).2.1
  generalize sumN x.lo x.n = a at *
  generalize sumN x.hi x.n = b at *
  have h5 : 0 < min x.ahi b - a - max 0 (x.alo - a) + 1 := by omega
  generalize hD : min x.ahi b - a - max 0 (x.alo - a) + 1 = D at *
  have h6 := Int.emod_nonneg r (show D ≠ 0 by omega)
  have h7 := Int.emod_lt_of_pos r h5
  omega
theorem SomeI.start (hx : PrkOk x) {more : Int} (hm : 0 ≤ more) : SomeI x (sumN x.lo x.n + more) x.lo more := ⟨fun i hi => ⟨Int.le_refl _, (hx.peo i hi).2.1⟩, hm, rfl⟩
theorem SomeI.possible (h : SomeI x tot out 0) (h1 : x.alo ≤ tot) (h2 : tot ≤ x.ahi) : Possible x out := ⟨h.in_, by have := h.sum_; omega, by have := h.sum_; omega⟩
end
/-! Numbers by bits. -/
theorem bit_div (S i : Nat) : (S / 2 ^ i) % 2 = if S.testBit i then 1 else 0 := by
  rw [Nat.testBit_eq_decide_div_mod_eq]
  have := Nat.mod_lt (S / 2 ^ i) (show 0 < 2 by decide)
  split
  · rename_i h; simpa using h
  · rename_i h; simp at h; exact h
theorem bitsOf_sum (p : Nat → Bool) (k : Nat) : bitsOf p (k + 1) = bitsOf p k + if p k then 2 ^ k else 0 := by
  have h := bitsOf_lt p k
  have e : bitsOf p (k + 1) = bitsOf p k ||| (if p k then 2 ^ k else 0) := rfl
  rw [e]
  generalize bitsOf p k = b at *
  split
  · have := Nat.two_pow_add_eq_or_of_lt h 1
    rw [Nat.mul_one] at this
    rw [Nat.or_comm, ← this]
    omega
  · simp
theorem lt_bits {S n : Nat} (h : S < 2 ^ n) : S = bitsOf (fun i => S.testBit i) n := Nat.eq_of_testBit_eq fun i => by
  rw [bitsOf_bit]
  by_cases hi : i < n
  · simp [hi]
  · have : S.testBit i = false := Nat.testBit_lt_two_pow (Nat.lt_of_lt_of_le h (Nat.pow_le_pow_right (by decide) (by omega)))
    simp [this]
end Go.Proofs.Ytfebhofihioaoaa
