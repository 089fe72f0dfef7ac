/- Ranger, plain: parks, and the need of a set of spots. -/
import Derived.Test.YtfebhofihioaoaaA1
namespace Go.Proofs.Ytfebhofihioaoaa
set_option linter.unusedVariables false
set_option linter.unusedSimpArgs false

/-- How many rangers so many people need. -/
def need1 (h p : Int) : Int := (p + h - 1) / h
theorem need1_iff {h p k : Int} (hh : 1 ≤ h) : need1 h p = k ↔ (k - 1) * h < p ∧ p ≤ k * h := by
  unfold need1
  have e1 : (k - 1) * h = k * h - h := by rw [Int.sub_mul, Int.one_mul]
  have e2 : (k + 1) * h = k * h + h := by rw [Int.add_mul, Int.one_mul]
  constructor
  · intro e
    have h1 : k * h ≤ p + h - 1 := (Int.le_ediv_iff_mul_le (by omega)).1 (by omega)
    have h2 : p + h - 1 < (k + 1) * h := (Int.ediv_lt_iff_lt_mul (by omega)).1 (by omega)
    omega
  · rintro ⟨h1, h2⟩
    have h3 : k ≤ (p + h - 1) / h := (Int.le_ediv_iff_mul_le (by omega)).2 (by omega)
    have h4 : (p + h - 1) / h < k + 1 := (Int.ediv_lt_iff_lt_mul (by omega)).2 (by omega)
    omega
theorem need1_bd {h p : Int} (hh : 1 ≤ h) (hp : 0 ≤ p) : 0 ≤ need1 h p ∧ need1 h p ≤ p := by
  unfold need1
  refine ⟨Int.ediv_nonneg (by omega) (by omega), ?_⟩
  have : (p + h - 1) / h < p + 1 := (Int.ediv_lt_iff_lt_mul (by omega)).2 (by
    have := Int.mul_le_mul_of_nonneg_left hh (show 0 ≤ p by omega)
    rw [Int.add_mul]
    omega)
  omega
theorem need1_mono {h p q : Int} (hh : 1 ≤ h) (hpq : p ≤ q) : need1 h p ≤ need1 h q := Int.ediv_le_ediv (by omega) (by omega)

/-- What is missing to one more ranger, and what more of them are paid for with. -/
def firstS (h lo : Int) : Int := need1 h lo * h + 1 - lo
def stepS (h lo k : Int) : Int := if k ≤ 1 then firstS h lo else h
def costS (h lo k : Int) : Int := if k ≤ 0 then 0 else firstS h lo + (k - 1) * h
def capS (h lo hi : Int) : Int := if firstS h lo ≤ hi - lo then 1 + (hi - lo - firstS h lo) / h else 0
section
variable {h lo hi : Int}
theorem first_bd (hh : 1 ≤ h) : 1 ≤ firstS h lo ∧ firstS h lo ≤ h := by
  have := (need1_iff (h := h) (p := lo) hh).1 rfl
  have e : (need1 h lo - 1) * h = need1 h lo * h - h := by rw [Int.sub_mul, Int.one_mul]
  unfold firstS
  omega
theorem cost_zero : costS h lo 0 = 0 := by simp [costS]
theorem cost_pos {k : Int} (hk : 0 < k) : costS h lo k = firstS h lo + (k - 1) * h := by unfold costS; rw [if_neg (by omega)]
theorem cost_succ {k : Int} (hk : 0 ≤ k) : costS h lo (k + 1) = costS h lo k + stepS h lo (k + 1) := by
  rw [cost_pos (by omega)]
  unfold stepS
  by_cases h0 : k = 0
  · subst h0
    rw [cost_zero, if_pos (by omega)]
    simp
  · rw [cost_pos (by omega), if_neg (by omega)]
    have : (k + 1 - 1) * h = (k - 1) * h + h := by rw [show k + 1 - 1 = (k - 1) + 1 by omega, Int.add_mul, Int.one_mul]
    omega
theorem cost_nonneg (hh : 1 ≤ h) (k : Int) : 0 ≤ costS h lo k := by
  have hf := first_bd (lo := lo) hh
  by_cases h0 : k ≤ 0
  · unfold costS; rw [if_pos h0]; omega
  · rw [cost_pos (by omega)]
    have := Int.mul_nonneg (show 0 ≤ k - 1 by omega) (show 0 ≤ h by omega)
    omega
theorem cost_lo (hh : 1 ≤ h) {a b : Int} (ha : 0 ≤ a) (hab : a ≤ b) : (b - a) * stepS h lo (a + 1) ≤ costS h lo b - costS h lo a := by
  have hf := first_bd (lo := lo) hh
  rcases Int.lt_or_eq_of_le hab with hlt | rfl
  · unfold stepS
    rw [cost_pos (show 0 < b by omega)]
    by_cases h0 : a = 0
    · subst h0
      rw [cost_zero, if_pos (by omega)]
      have h1 := Int.mul_le_mul_of_nonneg_left hf.2 (show 0 ≤ b - 1 by omega)
      have e : (b - 0) * firstS h lo = (b - 1) * firstS h lo + firstS h lo := by rw [show b - 0 = (b - 1) + 1 by omega, Int.add_mul, Int.one_mul]
      omega
    · rw [cost_pos (by omega), if_neg (by omega)]
      have e : (b - a) * h = (b - 1) * h - (a - 1) * h := by rw [← Int.sub_mul]; congr 1; omega
      omega
  · simp
theorem cost_hi (hh : 1 ≤ h) {a b : Int} (ha : 0 ≤ a) (hab : a ≤ b) : costS h lo b - costS h lo a ≤ (b - a) * stepS h lo b := by
  have hf := first_bd (lo := lo) hh
  rcases Int.lt_or_eq_of_le hab with hlt | rfl
  · unfold stepS
    rw [cost_pos (show 0 < b by omega)]
    by_cases h0 : a = 0
    · subst h0
      rw [cost_zero]
      by_cases h1 : b ≤ 1
      · obtain rfl : b = 1 := by omega
        simp
      · rw [if_neg h1]
        have e : (b - 0) * h = (b - 1) * h + h := by rw [show b - 0 = (b - 1) + 1 by omega, Int.add_mul, Int.one_mul]
        omega
    · rw [cost_pos (by omega), if_neg (by omega)]
      have e : (b - a) * h = (b - 1) * h - (a - 1) * h := by rw [← Int.sub_mul]; congr 1; omega
      omega
  · simp
/-- So many more steps: what they cost, and that they are had. -/
theorem need1_cost (hh : 1 ≤ h) {e : Int} (he : 0 ≤ e) : need1 h (lo + costS h lo e) = need1 h lo + e := by
  rcases Int.lt_or_eq_of_le he with h0 | rfl
  · rw [need1_iff hh, cost_pos h0]
    unfold firstS
    have e1 : (need1 h lo + e - 1) * h = need1 h lo * h + (e - 1) * h := by rw [← Int.add_mul]; congr 1; omega
    have e2 : (need1 h lo + e) * h = need1 h lo * h + (e - 1) * h + h := by rw [show need1 h lo + e = need1 h lo + ((e - 1) + 1) by omega, Int.add_mul, Int.add_mul, Int.one_mul]; omega
    omega
  · rw [cost_zero]; simp
theorem steps_paid (hh : 1 ≤ h) {p : Int} (hp : lo ≤ p) : 0 ≤ need1 h p - need1 h lo ∧ costS h lo (need1 h p - need1 h lo) ≤ p - lo := by
  have h1 := need1_mono hh hp
  refine ⟨by omega, ?_⟩
  by_cases h0 : need1 h p = need1 h lo
  · rw [h0, Int.sub_self, cost_zero]; omega
  · rw [cost_pos (by omega)]
    have h2 := (need1_iff (h := h) (p := p) hh).1 rfl
    unfold firstS
    have e1 : (need1 h p - need1 h lo - 1) * h = (need1 h p - 1) * h - need1 h lo * h := by rw [← Int.sub_mul]; congr 1; omega
    omega
theorem cap_nonneg (hh : 1 ≤ h) : 0 ≤ capS h lo hi := by
  unfold capS
  split
  · have := Int.ediv_nonneg (show 0 ≤ hi - lo - firstS h lo by omega) (show 0 ≤ h by omega)
    omega
  · omega
theorem cap_iff (hh : 1 ≤ h) (hlh : lo ≤ hi) {e : Int} (he : 0 ≤ e) : e ≤ capS h lo hi ↔ costS h lo e ≤ hi - lo := by
  unfold capS
  rcases Int.lt_or_eq_of_le he with h0 | rfl
  · rw [cost_pos h0]
    split
    · rename_i hf
      have h3 : e - 1 ≤ (hi - lo - firstS h lo) / h ↔ (e - 1) * h ≤ hi - lo - firstS h lo := Int.le_ediv_iff_mul_le (by omega)
      constructor
      · intro h4
        have := h3.1 (by omega)
        omega
      · intro h4
        have := h3.2 (by omega)
        omega
    · rename_i hf
      have := Int.mul_nonneg (show 0 ≤ e - 1 by omega) (show 0 ≤ h by omega)
      omega
  · rw [cost_zero]
    have := cap_nonneg (lo := lo) (hi := hi) hh
    unfold capS at this
    constructor
    · intro _; omega
    · intro _; exact this
theorem steps_cap (hh : 1 ≤ h) {p : Int} (hp : lo ≤ p) (hq : p ≤ hi) : need1 h p - need1 h lo ≤ capS h lo hi := by
  obtain ⟨h1, h2⟩ := steps_paid hh hp
  exact (cap_iff hh (by omega) h1).2 (by omega)
end

/-- A park: its spots (least, most, how many a ranger can watch, the spots near by), and how many people there are in all. -/
structure Prk where
  sp : List (Int × Int × Int × Int)
  alo : Int
  ahi : Int
section
variable (x : Prk)
def Prk.n : Nat := x.sp.length
def Prk.lo (i : Nat) : Int := (x.sp.getD i (0, 0, 1, 0)).1
def Prk.hi (i : Nat) : Int := (x.sp.getD i (0, 0, 1, 0)).2.1
def Prk.ho (i : Nat) : Int := (x.sp.getD i (0, 0, 1, 0)).2.2.1
def Prk.ne (i : Nat) : Int := (x.sp.getD i (0, 0, 1, 0)).2.2.2
structure PrkOk : Prop where
  n6 : x.n ≤ 6
  all : 0 ≤ x.alo ∧ x.alo ≤ x.ahi ∧ x.ahi ≤ 6291456
  peo : ∀ i, i < x.n → 0 ≤ x.lo i ∧ x.lo i ≤ x.hi i ∧ x.hi i ≤ 1048576
  hold : ∀ i, i < x.n → 1 ≤ x.ho i ∧ x.ho i ≤ 1048576
  near : ∀ i, i < x.n → 0 ≤ x.ne i ∧ x.ne i ≤ (2 : Int) ^ x.n - 1
  most : sumN x.lo x.n ≤ x.ahi
  least : x.alo ≤ sumN x.hi x.n
/-- A crowd: so many people at each spot, and no more in all than there can be. -/
def Crowd (c : Nat → Int) : Prop := (∀ i, i < x.n → x.lo i ≤ c i ∧ c i ≤ x.hi i) ∧ sumN c x.n ≤ x.ahi
/-- What a set of spots needs. -/
def needC (S : Nat) (c : Nat → Int) : Int := sumN (fun i => if S.testBit i then need1 (x.ho i) (c i) else 0) x.n
def IsNeed (S : Nat) (v : Int) : Prop := (∃ c, Crowd x c ∧ needC x S c = v) ∧ ∀ c, Crowd x c → needC x S c ≤ v
theorem IsNeed.eq {S : Nat} {u v : Int} {x : Prk} (h : IsNeed x S u) (k : IsNeed x S v) : u = v := by
  obtain ⟨⟨c, h1, rfl⟩, h2⟩ := h
  obtain ⟨⟨d, k1, rfl⟩, k2⟩ := k
  have := h2 d k1
  have := k2 c h1
  omega
/-- Where no more step can be taken. -/
def capC (S i : Nat) : Int := if S.testBit i then capS (x.ho i) (x.lo i) (x.hi i) else 0
def stC (i : Nat) (k : Int) : Int := stepS (x.ho i) (x.lo i) k
def coC (i : Nat) (k : Int) : Int := costS (x.ho i) (x.lo i) k
def baseC (S : Nat) : Int := sumN (fun i => if S.testBit i then need1 (x.ho i) (x.lo i) else 0) x.n
end
section
variable {x : Prk} {S : Nat}
theorem needC_steps (hx : PrkOk x) {e : Nat → Int} (he : ∀ i, i < x.n → 0 ≤ e i ∧ e i ≤ capC x S i) {c : Nat → Int} (hc : ∀ i, i < x.n → S.testBit i = true → need1 (x.ho i) (c i) = need1 (x.ho i) (x.lo i) + e i) :
    needC x S c = baseC x S + sumN e x.n := by
  unfold needC baseC
  rw [← sumN_add]
  refine sumN_congr fun i hi => ?_
  by_cases hb : S.testBit i = true
  · simp only [hb, if_true]
    exact hc i hi hb
  · have h1 := he i hi
    unfold capC at h1
    rw [if_neg hb] at h1
    simp only [hb]
    simp
    omega
/-- Steps that nobody can better: the need. -/
theorem need_of_steps (hx : PrkOk x) {e : Nat → Int} (he : ∀ i, i < x.n → 0 ≤ e i ∧ e i ≤ capC x S i) (hpay : sumN x.lo x.n + sumN (fun i => coC x i (e i)) x.n ≤ x.ahi)
    (hmax : ∀ f : Nat → Int, (∀ i, i < x.n → 0 ≤ f i ∧ f i ≤ capC x S i) → sumN (fun i => coC x i (f i)) x.n ≤ x.ahi - sumN x.lo x.n → sumN f x.n ≤ sumN e x.n) : IsNeed x S (baseC x S + sumN e x.n) := by
  refine ⟨⟨fun i => x.lo i + coC x i (e i), ⟨fun i hi => ?_, by rw [sumN_add]; exact hpay⟩, ?_⟩, fun c hc => ?_⟩
  · have h1 := hx.hold i hi
    have h2 := hx.peo i hi
    have h3 := he i hi
    have h4 := cost_nonneg (h := x.ho i) (lo := x.lo i) h1.1 (e i)
    have h5 : coC x i (e i) ≤ x.hi i - x.lo i := by
      unfold capC at h3
      split at h3
      · exact (cap_iff h1.1 h2.2.1 h3.1).1 h3.2
      · rw [show e i = 0 by omega]; unfold coC; rw [cost_zero]; omega
    show x.lo i ≤ x.lo i + coC x i (e i) ∧ x.lo i + coC x i (e i) ≤ x.hi i
    unfold coC at h5 ⊢
    omega
  · exact needC_steps hx he fun i hi _ => need1_cost (hx.hold i hi).1 (he i hi).1
  · have hs : ∀ i, i < x.n → 0 ≤ need1 (x.ho i) (c i) - need1 (x.ho i) (x.lo i) ∧ costS (x.ho i) (x.lo i) (need1 (x.ho i) (c i) - need1 (x.ho i) (x.lo i)) ≤ c i - x.lo i := fun i hi => steps_paid (hx.hold i hi).1 (hc.1 i hi).1
    have hf : ∀ i, i < x.n → 0 ≤ (if S.testBit i then need1 (x.ho i) (c i) - need1 (x.ho i) (x.lo i) else 0) ∧ (if S.testBit i then need1 (x.ho i) (c i) - need1 (x.ho i) (x.lo i) else 0) ≤ capC x S i := fun i hi => by
      unfold capC
      split
      · exact ⟨(hs i hi).1, steps_cap (hx.hold i hi).1 (hc.1 i hi).1 (hc.1 i hi).2⟩
      · omega
    rw [needC_steps hx hf fun i hi hb => by rw [if_pos hb]; omega]
    have h1 := hmax _ hf (by
      have h2 := sumN_le (f := fun i => coC x i (if S.testBit i then need1 (x.ho i) (c i) - need1 (x.ho i) (x.lo i) else 0)) (g := fun i => c i - x.lo i) (n := x.n) (fun i hi => by
        unfold coC
        split
        · exact (hs i hi).2
        · rw [cost_zero]; have := (hc.1 i hi).1; omega)
      rw [sumN_sub] at h2
      have := hc.2
      omega)
    omega
/-- Steps taken so that none left is smaller than one taken, and none left can be paid. -/
theorem need_of_stable (hx : PrkOk x) {e : Nat → Int} {left : Int} (h0 : 0 ≤ left) (hleft : left = x.ahi - sumN x.lo x.n - sumN (fun i => coC x i (e i)) x.n) (he : ∀ i, i < x.n → 0 ≤ e i ∧ e i ≤ capC x S i)
    (hst : ∀ i j, i < x.n → j < x.n → e i < capC x S i → 0 < e j → stC x j (e j) ≤ stC x i (e i + 1)) (hl : ∀ i, i < x.n → e i < capC x S i → left < stC x i (e i + 1)) : IsNeed x S (baseC x S + sumN e x.n) :=
  need_of_steps hx he (by omega) fun f hf hc => stable_max (cost := coC x) (step := stC x) h0 (fun i hi a b ha hab => cost_lo (hx.hold i hi).1 ha hab) (fun i hi a b ha hab => cost_hi (hx.hold i hi).1 ha hab) (fun i hi => (he i hi).1) hst hl hf (by omega)
end
end Go.Proofs.Ytfebhofihioaoaa
