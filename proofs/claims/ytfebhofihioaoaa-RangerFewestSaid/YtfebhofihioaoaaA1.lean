/- Ranger, plain: sums; the most steps that can be paid. -/

namespace Go.Proofs.Ytfebhofihioaoaa
set_option linter.unusedVariables false
set_option linter.unusedSimpArgs false

def sumN (f : Nat → Int) : Nat → Int
  | 0 => 0
  | n + 1 => sumN f n + f n
theorem sumN_congr {f g : Nat → Int} : ∀ {n : Nat}, (∀ i, i < n → f i = g i) → sumN f n = sumN g n
  | 0, _ => rfl
  | n + 1, h => by
    simp only [sumN]
    rw [sumN_congr (n := n) fun i hi => h i (by omega), h n (by omega)]
theorem sumN_le {f g : Nat → Int} : ∀ {n : Nat}, (∀ i, i < n → f i ≤ g i) → sumN f n ≤ sumN g n
  | 0, _ => Int.le_refl _
  | n + 1, h => by
    simp only [sumN]
    have h1 := sumN_le (n := n) fun i hi => h i (by omega)
    have h2 := h n (by omega)
    omega
theorem sumN_add (f g : Nat → Int) : ∀ n : Nat, sumN (fun i => f i + g i) n = sumN f n + sumN g n
  | 0 => rfl
  | n + 1 => by simp only [sumN, sumN_add f g n]; omega
theorem sumN_sub (f g : Nat → Int) : ∀ n : Nat, sumN (fun i => f i - g i) n = sumN f n - sumN g n
  | 0 => rfl
  | n + 1 => by simp only [sumN, sumN_sub f g n]; omega
theorem sumN_mul (M : Int) (f : Nat → Int) : ∀ n : Nat, sumN (fun i => f i * M) n = sumN f n * M
  | 0 => by simp [sumN]
  | n + 1 => by simp only [sumN, sumN_mul M f n, Int.add_mul]
theorem sumN_zero : ∀ n : Nat, sumN (fun _ => 0) n = 0
  | 0 => rfl
  | n + 1 => by simp only [sumN, sumN_zero n]; omega
theorem sumN_nonneg {f : Nat → Int} {n : Nat} (h : ∀ i, i < n → 0 ≤ f i) : 0 ≤ sumN f n := by
  have := sumN_le (f := fun _ => 0) (g := f) (n := n) h
  rwa [sumN_zero] at this
theorem sumN_mem {f : Nat → Int} : ∀ {n : Nat}, (∀ i, i < n → 0 ≤ f i) → ∀ i, i < n → f i ≤ sumN f n
  | n + 1, h, i, hi => by
    simp only [sumN]
    have h0 := sumN_nonneg (f := f) (n := n) fun j hj => h j (by omega)
    rcases Nat.lt_succ_iff_lt_or_eq.1 hi with h1 | rfl
    · have := sumN_mem (n := n) (fun j hj => h j (by omega)) i h1
      have := h n (by omega)
      omega
    · omega
/-- One place is set anew. -/
theorem sumN_set (f : Nat → Int) {k : Nat} (v : Int) : ∀ {n : Nat}, k < n → sumN (fun i => if i = k then v else f i) n = sumN f n - f k + v
  | n + 1, h => by
    simp only [sumN]
    rcases Nat.lt_succ_iff_lt_or_eq.1 h with h1 | rfl
    · rw [sumN_set f v h1, if_neg (by omega)]; omega
    · rw [if_pos rfl, sumN_congr (g := f) fun i hi => if_neg (by omega)]; omega
theorem sumN_far (f : Nat → Int) {k : Nat} (v : Int) {n : Nat} (h : n ≤ k) : sumN (fun i => if i = k then v else f i) n = sumN f n := sumN_congr fun i hi => if_neg (by omega)
/-- The least of some. -/
theorem least_of {P : Nat → Prop} (g : Nat → Int) : ∀ n : Nat, (∃ i, i < n ∧ P i) → ∃ i, i < n ∧ P i ∧ ∀ j, j < n → P j → g i ≤ g j
  | 0, ⟨i, h, _⟩ => by omega
  | n + 1, ⟨i, hi, hp⟩ => by
    by_cases h : ∃ i, i < n ∧ P i
    · obtain ⟨i0, h0, h1, h2⟩ := least_of g n h
      by_cases h3 : P n ∧ g n < g i0
      · refine ⟨n, by omega, h3.1, fun j hj hpj => ?_⟩
        rcases Nat.lt_succ_iff_lt_or_eq.1 hj with h4 | rfl
        · have := h2 j h4 hpj; omega
        · omega
      · refine ⟨i0, by omega, h1, fun j hj hpj => ?_⟩
        rcases Nat.lt_succ_iff_lt_or_eq.1 hj with h4 | rfl
        · exact h2 j h4 hpj
        · have : ¬ g j < g i0 := fun h => h3 ⟨hpj, h⟩
          omega
    · obtain rfl : i = n := by
        rcases Nat.lt_succ_iff_lt_or_eq.1 hi with h1 | h1
        · exact absurd ⟨i, h1, hp⟩ h
        · exact h1
      refine ⟨i, by omega, hp, fun j hj hpj => ?_⟩
      rcases Nat.lt_succ_iff_lt_or_eq.1 hj with h4 | rfl
      · exact absurd ⟨j, h4, hpj⟩ h
      · omega

/-- Steps of rising size at some places, taken so that none left is smaller than one taken, and none left can be paid: nobody pays for more. -/
theorem stable_max {N : Nat} {cost step : Nat → Int → Int} {cap e f : Nat → Int} {left : Int} (h0 : 0 ≤ left)
    (hlo : ∀ i, i < N → ∀ a b : Int, 0 ≤ a → a ≤ b → (b - a) * step i (a + 1) ≤ cost i b - cost i a)
    (hhi : ∀ i, i < N → ∀ a b : Int, 0 ≤ a → a ≤ b → cost i b - cost i a ≤ (b - a) * step i b)
    (he : ∀ i, i < N → 0 ≤ e i) (hst : ∀ i j, i < N → j < N → e i < cap i → 0 < e j → step j (e j) ≤ step i (e i + 1)) (hl : ∀ i, i < N → e i < cap i → left < step i (e i + 1))
    (hf : ∀ i, i < N → 0 ≤ f i ∧ f i ≤ cap i) (hc : sumN (fun i => cost i (f i)) N ≤ sumN (fun i => cost i (e i)) N + left) : sumN f N ≤ sumN e N := by
  rcases Int.lt_or_le (sumN e N) (sumN f N) with hlt | hle
  · exfalso
    have hex : ∃ i, i < N ∧ e i < f i := by
      refine Classical.byContradiction fun hno => ?_
      have : sumN f N ≤ sumN e N := sumN_le fun i hi => by
        rcases Int.lt_or_le (e i) (f i) with h | h
        · exact absurd ⟨i, hi, h⟩ hno
        · exact h
      omega
    obtain ⟨p, hp, hpe, hmin⟩ := least_of (P := fun i => e i < f i) (fun i => step i (e i + 1)) N hex
    have hcap : e p < cap p := by have := (hf p hp).2; omega
    have hM := hl p hp hcap
    have key : sumN (fun i => (f i - e i) * step p (e p + 1)) N ≤ sumN (fun i => cost i (f i) - cost i (e i)) N := sumN_le fun i hi => by
      rcases Int.lt_or_le (e i) (f i) with h | h
      · have h1 := hlo i hi (e i) (f i) (he i hi) (by omega)
        have h2 := hmin i hi h
        have h3 := Int.mul_le_mul_of_nonneg_left h2 (show 0 ≤ f i - e i by omega)
        omega
      · rcases Int.lt_or_le (f i) (e i) with h4 | h4
        · have h1 := hhi i hi (f i) (e i) (hf i hi).1 h
          have h2 := hst p i hp hi hcap (by have := (hf i hi).1; omega)
          have h3 := Int.mul_le_mul_of_nonneg_left h2 (show 0 ≤ e i - f i by omega)
          have e1 : (f i - e i) * step p (e p + 1) = -((e i - f i) * step p (e p + 1)) := by rw [← Int.neg_mul]; congr 1; omega
          omega
        · obtain e1 : f i = e i := by omega
          rw [e1]; simp
    rw [sumN_mul, sumN_sub, sumN_sub] at key
    have h5 : step p (e p + 1) ≤ (sumN f N - sumN e N) * step p (e p + 1) := by
      have := Int.mul_le_mul_of_nonneg_right (show (1 : Int) ≤ sumN f N - sumN e N by omega) (show 0 ≤ step p (e p + 1) by omega)
      simpa using this
    omega
  · exact hle
end Go.Proofs.Ytfebhofihioaoaa
/- Ranger, plain: parks, and the need of a set of spots. -/
namespace Go.Proofs.Ytfebhofihioaoaa
set_option linter.unusedVariables false
set_option linter.unusedSimpArgs false

/-- How many rangers so many people need. -/
def need1 (h p : Int) : Int := (p + h - 1) / h
theorem need1_iff {h p k : Int} (hh : 1 ≤ h) : need1 h p = k ↔ (k - 1) * h < p ∧ p ≤ k * h := by
  unfold need1
  have e1 : (k - 1) * h = k * h - h := by rw [Int.sub_mul, Int.one_mul]
  have e2 : (k + 1) * h = k * h + h := by rw [Int.add_mul, Int.one_mul]
  constructor
  · intro e
    have h1 : k * h ≤ p + h - 1 := (Int.le_ediv_iff_mul_le (by omega)).1 (by omega)
    have h2 : p + h - 1 < (k + 1) * h := (Int.ediv_lt_iff_lt_mul (by omega)).1 (by omega)
    omega
  · rintro ⟨h1, h2⟩
    have h3 : k ≤ (p + h - 1) / h := (Int.le_ediv_iff_mul_le (by omega)).2 (by omega)
    have h4 : (p + h - 1) / h < k + 1 := (Int.ediv_lt_iff_lt_mul (by omega)).2 (by omega)
    omega
theorem need1_bd {h p : Int} (hh : 1 ≤ h) (hp : 0 ≤ p) : 0 ≤ need1 h p ∧ need1 h p ≤ p := by
  unfold need1
  refine ⟨Int.ediv_nonneg (by omega) (by omega), ?_⟩
  have : (p + h - 1) / h < p + 1 := (Int.ediv_lt_iff_lt_mul (by omega)).2 (by
    have := Int.mul_le_mul_of_nonneg_left hh (show 0 ≤ p by omega)
    rw [Int.add_mul]
    omega)
  omega
theorem need1_mono {h p q : Int} (hh : 1 ≤ h) (hpq : p ≤ q) : need1 h p ≤ need1 h q := Int.ediv_le_ediv (by omega) (by omega)

/-- What is missing to one more ranger, and what more of them are paid for with. -/
def firstS (h lo : Int) : Int := need1 h lo * h + 1 - lo
def stepS (h lo k : Int) : Int := if k ≤ 1 then firstS h lo else h
def costS (h lo k : Int) : Int := if k ≤ 0 then 0 else firstS h lo + (k - 1) * h
def capS (h lo hi : Int) : Int := if firstS h lo ≤ hi - lo then 1 + (hi - lo - firstS h lo) / h else 0
section
variable {h lo hi : Int}
theorem first_bd (hh : 1 ≤ h) : 1 ≤ firstS h lo ∧ firstS h lo ≤ h := by
  have := (need1_iff (h := h) (p := lo) hh).1 rfl
  have e : (need1 h lo - 1) * h = need1 h lo * h - h := by rw [Int.sub_mul, Int.one_mul]
  unfold firstS
  omega
theorem cost_zero : costS h lo 0 = 0 := by simp [costS]
theorem cost_pos {k : Int} (hk : 0 < k) : costS h lo k = firstS h lo + (k - 1) * h := by unfold costS; rw [if_neg (by omega)]
theorem cost_succ {k : Int} (hk : 0 ≤ k) : costS h lo (k + 1) = costS h lo k + stepS h lo (k + 1) := by
  rw [cost_pos (by omega)]
  unfold stepS
  by_cases h0 : k = 0
  · subst h0
    rw [cost_zero, if_pos (by omega)]
    simp
  · rw [cost_pos (by omega), if_neg (by omega)]
    have : (k + 1 - 1) * h = (k - 1) * h + h := by rw [show k + 1 - 1 = (k - 1) + 1 by omega, Int.add_mul, Int.one_mul]
    omega
theorem cost_nonneg (hh : 1 ≤ h) (k : Int) : 0 ≤ costS h lo k := by
  have hf := first_bd (lo := lo) hh
  by_cases h0 : k ≤ 0
  · unfold costS; rw [if_pos h0]; omega
  · rw [cost_pos (by omega)]
    have := Int.mul_nonneg (show 0 ≤ k - 1 by omega) (show 0 ≤ h by omega)
    omega
theorem cost_lo (hh : 1 ≤ h) {a b : Int} (ha : 0 ≤ a) (hab : a ≤ b) : (b - a) * stepS h lo (a + 1) ≤ costS h lo b - costS h lo a := by
  have hf := first_bd (lo := lo) hh
  rcases Int.lt_or_eq_of_le hab with hlt | rfl
  · unfold stepS
    rw [cost_pos (show 0 < b by omega)]
    by_cases h0 : a = 0
    · subst h0
      rw [cost_zero, if_pos (by omega)]
      have h1 := Int.mul_le_mul_of_nonneg_left hf.2 (show 0 ≤ b - 1 by omega)
      have e : (b - 0) * firstS h lo = (b - 1) * firstS h lo + firstS h lo := by rw [show b - 0 = (b - 1) + 1 by omega, Int.add_mul, Int.one_mul]
      omega
    · rw [cost_pos (by omega), if_neg (by omega)]
      have e : (b - a) * h = (b - 1) * h - (a - 1) * h := by rw [← Int.sub_mul]; congr 1; omega
      omega
  · simp
theorem cost_hi (hh : 1 ≤ h) {a b : Int} (ha : 0 ≤ a) (hab : a ≤ b) : costS h lo b - costS h lo a ≤ (b - a) * stepS h lo b := by
  have hf := first_bd (lo := lo) hh
  rcases Int.lt_or_eq_of_le hab with hlt | rfl
  · unfold stepS
    rw [cost_pos (show 0 < b by omega)]
    by_cases h0 : a = 0
    · subst h0
      rw [cost_zero]
      by_cases h1 : b ≤ 1
      · obtain rfl : b = 1 := by omega
        simp
      · rw [if_neg h1]
        have e : (b - 0) * h = (b - 1) * h + h := by rw [show b - 0 = (b - 1) + 1 by omega, Int.add_mul, Int.one_mul]
        omega
    · rw [cost_pos (by omega), if_neg (by omega)]
      have e : (b - a) * h = (b - 1) * h - (a - 1) * h := by rw [← Int.sub_mul]; congr 1; omega
      omega
  · simp
/-- So many more steps: what they cost, and that they are had. -/
theorem need1_cost (hh : 1 ≤ h) {e : Int} (he : 0 ≤ e) : need1 h (lo + costS h lo e) = need1 h lo + e := by
  rcases Int.lt_or_eq_of_le he with h0 | rfl
  · rw [need1_iff hh, cost_pos h0]
    unfold firstS
    have e1 : (need1 h lo + e - 1) * h = need1 h lo * h + (e - 1) * h := by rw [← Int.add_mul]; congr 1; omega
    have e2 : (need1 h lo + e) * h = need1 h lo * h + (e - 1) * h + h := by rw [show need1 h lo + e = need1 h lo + ((e - 1) + 1) by omega, Int.add_mul, Int.add_mul, Int.one_mul]; omega
    omega
  · rw [cost_zero]; simp
theorem steps_paid (hh : 1 ≤ h) {p : Int} (hp : lo ≤ p) : 0 ≤ need1 h p - need1 h lo ∧ costS h lo (need1 h p - need1 h lo) ≤ p - lo := by
  have h1 := need1_mono hh hp
  refine ⟨by omega, ?_⟩
  by_cases h0 : need1 h p = need1 h lo
  · rw [h0, Int.sub_self, cost_zero]; omega
  · rw [cost_pos (by omega)]
    have h2 := (need1_iff (h := h) (p := p) hh).1 rfl
    unfold firstS
    have e1 : (need1 h p - need1 h lo - 1) * h = (need1 h p - 1) * h - need1 h lo * h := by rw [← Int.sub_mul]; congr 1; omega
    omega
theorem cap_nonneg (hh : 1 ≤ h) : 0 ≤ capS h lo hi := by
  unfold capS
  split
  · have := Int.ediv_nonneg (show 0 ≤ hi - lo - firstS h lo by omega) (show 0 ≤ h by omega)
    omega
  · omega
theorem cap_iff (hh : 1 ≤ h) (hlh : lo ≤ hi) {e : Int} (he : 0 ≤ e) : e ≤ capS h lo hi ↔ costS h lo e ≤ hi - lo := by
  unfold capS
  rcases Int.lt_or_eq_of_le he with h0 | rfl
  · rw [cost_pos h0]
    split
    · rename_i hf
      have h3 : e - 1 ≤ (hi - lo - firstS h lo) / h ↔ (e - 1) * h ≤ hi - lo - firstS h lo := Int.le_ediv_iff_mul_le (by omega)
      constructor
      · intro h4
        have := h3.1 (by omega)
        omega
      · intro h4
        have := h3.2 (by omega)
        omega
    · rename_i hf
      have := Int.mul_nonneg (show 0 ≤ e - 1 by omega) (show 0 ≤ h by omega)
      omega
  · rw [cost_zero]
    have := cap_nonneg (lo := lo) (hi := hi) hh
    unfold capS at this
    constructor
    · intro _; omega
    · intro _; exact this
theorem steps_cap (hh : 1 ≤ h) {p : Int} (hp : lo ≤ p) (hq : p ≤ hi) : need1 h p - need1 h lo ≤ capS h lo hi := by
  obtain ⟨h1, h2⟩ := steps_paid hh hp
  exact (cap_iff hh (by omega) h1).2 (by omega)
end

/-- A park: its spots (least, most, how many a ranger can watch, the spots near by), and how many people there are in all. -/
structure Prk where
  sp : List (Int × Int × Int × Int)
  alo : Int
  ahi : Int
section
variable (x : Prk)
def Prk.n : Nat := x.sp.length
def Prk.lo (i : Nat) : Int := (x.sp.getD i (0, 0, 1, 0)).1
def Prk.hi (i : Nat) : Int := (x.sp.getD i (0, 0, 1, 0)).2.1
def Prk.ho (i : Nat) : Int := (x.sp.getD i (0, 0, 1, 0)).2.2.1
def Prk.ne (i : Nat) : Int := (x.sp.getD i (0, 0, 1, 0)).2.2.2
structure PrkOk : Prop where
  n6 : x.n ≤ 6
  all : 0 ≤ x.alo ∧ x.alo ≤ x.ahi ∧ x.ahi ≤ 6291456
  peo : ∀ i, i < x.n → 0 ≤ x.lo i ∧ x.lo i ≤ x.hi i ∧ x.hi i ≤ 1048576
  hold : ∀ i, i < x.n → 1 ≤ x.ho i ∧ x.ho i ≤ 1048576
  near : ∀ i, i < x.n → 0 ≤ x.ne i ∧ x.ne i ≤ (2 : Int) ^ x.n - 1
  most : sumN x.lo x.n ≤ x.ahi
  least : x.alo ≤ sumN x.hi x.n
/-- A crowd: so many people at each spot, and no more in all than there can be. -/
def Crowd (c : Nat → Int) : Prop := (∀ i, i < x.n → x.lo i ≤ c i ∧ c i ≤ x.hi i) ∧ sumN c x.n ≤ x.ahi
/-- What a set of spots needs. -/
def needC (S : Nat) (c : Nat → Int) : Int := sumN (fun i => if S.testBit i then need1 (x.ho i) (c i) else 0) x.n
def IsNeed (S : Nat) (v : Int) : Prop := (∃ c, Crowd x c ∧ needC x S c = v) ∧ ∀ c, Crowd x c → needC x S c ≤ v
theorem IsNeed.eq {S : Nat} {u v : Int} {x : Prk} (h : IsNeed x S u) (k : IsNeed x S v) : u = v := by
  obtain ⟨⟨c, h1, rfl⟩, h2⟩ := h
  obtain ⟨⟨d, k1, rfl⟩, k2⟩ := k
  have := h2 d k1
  have := k2 c h1
  omega
/-- Where no more step can be taken. -/
def capC (S i : Nat) : Int := if S.testBit i then capS (x.ho i) (x.lo i) (x.hi i) else 0
def stC (i : Nat) (k : Int) : Int := stepS (x.ho i) (x.lo i) k
def coC (i : Nat) (k : Int) : Int := costS (x.ho i) (x.lo i) k
def baseC (S : Nat) : Int := sumN (fun i => if S.testBit i then need1 (x.ho i) (x.lo i) else 0) x.n
end
section
variable {x : Prk} {S : Nat}
theorem needC_steps (hx : PrkOk x) {e : Nat → Int} (he : ∀ i, i < x.n → 0 ≤ e i ∧ e i ≤ capC x S i) {c : Nat → Int} (hc : ∀ i, i < x.n → S.testBit i = true → need1 (x.ho i) (c i) = need1 (x.ho i) (x.lo i) + e i) :
    needC x S c = baseC x S + sumN e x.n := by
  unfold needC baseC
  rw [← sumN_add]
  refine sumN_congr fun i hi => ?_
  by_cases hb : S.testBit i = true
  · simp only [hb, if_true]
    exact hc i hi hb
  · have h1 := he i hi
    unfold capC at h1
    rw [if_neg hb] at h1
    simp only [hb]
    simp
    omega
/-- Steps that nobody can better: the need. -/
theorem need_of_steps (hx : PrkOk x) {e : Nat → Int} (he : ∀ i, i < x.n → 0 ≤ e i ∧ e i ≤ capC x S i) (hpay : sumN x.lo x.n + sumN (fun i => coC x i (e i)) x.n ≤ x.ahi)
    (hmax : ∀ f : Nat → Int, (∀ i, i < x.n → 0 ≤ f i ∧ f i ≤ capC x S i) → sumN (fun i => coC x i (f i)) x.n ≤ x.ahi - sumN x.lo x.n → sumN f x.n ≤ sumN e x.n) : IsNeed x S (baseC x S + sumN e x.n) := by
  refine ⟨⟨fun i => x.lo i + coC x i (e i), ⟨fun i hi => ?_, by rw [sumN_add]; exact hpay⟩, ?_⟩, fun c hc => ?_⟩
  · have h1 := hx.hold i hi
    have h2 := hx.peo i hi
    have h3 := he i hi
    have h4 := cost_nonneg (h := x.ho i) (lo := x.lo i) h1.1 (e i)
    have h5 : coC x i (e i) ≤ x.hi i - x.lo i := by
      unfold capC at h3
      split at h3
      · exact (cap_iff h1.1 h2.2.1 h3.1).1 h3.2
      · rw [show e i = 0 by omega]; unfold coC; rw [cost_zero]; omega
    show x.lo i ≤ x.lo i + coC x i (e i) ∧ x.lo i + coC x i (e i) ≤ x.hi i
    unfold coC at h5 ⊢
    omega
  · exact needC_steps hx he fun i hi _ => need1_cost (hx.hold i hi).1 (he i hi).1
  · have hs : ∀ i, i < x.n → 0 ≤ need1 (x.ho i) (c i) - need1 (x.ho i) (x.lo i) ∧ costS (x.ho i) (x.lo i) (need1 (x.ho i) (c i) - need1 (x.ho i) (x.lo i)) ≤ c i - x.lo i := fun i hi => steps_paid (hx.hold i hi).1 (hc.1 i hi).1
    have hf : ∀ i, i < x.n → 0 ≤ (if S.testBit i then need1 (x.ho i) (c i) - need1 (x.ho i) (x.lo i) else 0) ∧ (if S.testBit i then need1 (x.ho i) (c i) - need1 (x.ho i) (x.lo i) else 0) ≤ capC x S i := fun i hi => by
      unfold capC
      split
      · exact ⟨(hs i hi).1, steps_cap (hx.hold i hi).1 (hc.1 i hi).1 (hc.1 i hi).2⟩
      · omega
    rw [needC_steps hx hf fun i hi hb => by rw [if_pos hb]; omega]
    have h1 := hmax _ hf (by
      have h2 := sumN_le (f := fun i => coC x i (if S.testBit i then need1 (x.ho i) (c i) - need1 (x.ho i) (x.lo i) else 0)) (g := fun i => c i - x.lo i) (n := x.n) (fun i hi => by
        unfold coC
        split
        · exact (hs i hi).2
        · rw [cost_zero]; have := (hc.1 i hi).1; omega)
      rw [sumN_sub] at h2
      have := hc.2
      omega)
    omega
/-- Steps taken so that none left is smaller than one taken, and none left can be paid. -/
theorem need_of_stable (hx : PrkOk x) {e : Nat → Int} {left : Int} (h0 : 0 ≤ left) (hleft : left = x.ahi - sumN x.lo x.n - sumN (fun i => coC x i (e i)) x.n) (he : ∀ i, i < x.n → 0 ≤ e i ∧ e i ≤ capC x S i)
    (hst : ∀ i j, i < x.n → j < x.n → e i < capC x S i → 0 < e j → stC x j (e j) ≤ stC x i (e i + 1)) (hl : ∀ i, i < x.n → e i < capC x S i → left < stC x i (e i + 1)) : IsNeed x S (baseC x S + sumN e x.n) :=
  need_of_steps hx he (by omega) fun f hf hc => stable_max (cost := coC x) (step := stC x) h0 (fun i hi a b ha hab => cost_lo (hx.hold i hi).1 ha hab) (fun i hi a b ha hab => cost_hi (hx.hold i hi).1 ha hab) (fun i hi => (he i hi).1) hst hl hf (by omega)
end
end Go.Proofs.Ytfebhofihioaoaa
/- Ranger, plain: runs of steps of the same size, the smallest ones first. -/
namespace Go.Proofs.Ytfebhofihioaoaa
set_option linter.unusedVariables false
set_option linter.unusedSimpArgs false

abbrev Tri := (Int × Int) × Int
def totT : List Tri → Int
  | [] => 0
  | t :: r => t.2 + totT r
def cstT : List Tri → Int
  | [] => 0
  | t :: r => t.2 * t.1.1 + cstT r
def OkT (l : List Tri) : Prop := ∀ t ∈ l, 0 ≤ t.2 ∧ t.2 ≤ t.1.2
theorem totT_perm {l r : List Tri} (h : l.Perm r) : totT l = totT r ∧ cstT l = cstT r := by
  induction h with
  | nil => exact ⟨rfl, rfl⟩
  | cons t _ ih => simp only [totT, cstT]; omega
  | swap s t l => simp only [totT, cstT]; omega
  | trans _ _ h1 h2 => omega
theorem totT_append (l r : List Tri) : totT (l ++ r) = totT l + totT r ∧ cstT (l ++ r) = cstT l + cstT r := by
  induction l with
  | nil => simp [totT, cstT]
  | cons t l ih => simp only [List.cons_append, totT, cstT]; omega
theorem okT_perm {l r : List Tri} (h : l.Perm r) (hl : OkT l) : OkT r := fun t ht => hl t (h.mem_iff.2 ht)
theorem cstT_nonneg {l : List Tri} (hs : ∀ t ∈ l, 1 ≤ t.1.1) (h : OkT l) : 0 ≤ cstT l := by
  induction l with
  | nil => exact Int.le_refl _
  | cons t l ih =>
    have h1 := ih (fun t ht => hs t (by simp [ht])) (fun t ht => h t (by simp [ht]))
    have h2 := Int.mul_nonneg (h t (by simp)).1 (show 0 ≤ t.1.1 by have := hs t (by simp); omega)
    simp only [cstT]
    omega
/-- A list that is laid in another order, its marks with it. -/
theorem perm_marks {l r : List (Int × Int)} (h : l.Perm r) : ∀ l' : List Tri, l'.map (·.1) = l → ∃ r' : List Tri, r'.map (·.1) = r ∧ l'.Perm r' := by
  induction h with
  | nil => exact fun l' e => ⟨l', e, .refl _⟩
  | cons x _ ih =>
    intro l' e
    match l', e with
    | t :: l', e =>
      simp only [List.map_cons, List.cons.injEq] at e
      obtain ⟨rfl, e2⟩ := e
      obtain ⟨r', e', hp⟩ := ih l' e2
      exact ⟨t :: r', by simp [e'], hp.cons t⟩
  | swap x y l =>
    intro l' e
    match l', e with
    | s :: t :: l', e =>
      simp only [List.map_cons, List.cons.injEq] at e
      obtain ⟨rfl, rfl, rfl⟩ := e
      exact ⟨t :: s :: l', rfl, .swap _ _ _⟩
  | trans _ _ h1 h2 =>
    intro l' e
    obtain ⟨m', e1, p1⟩ := h1 l' e
    obtain ⟨r', e2, p2⟩ := h2 m' e1
    exact ⟨r', e2, p1.trans p2⟩

/-- How many steps are taken, run by run. -/
def greed : List (Int × Int) → Int → Int
  | [], _ => 0
  | r :: l, left => min r.2 (left / r.1) + greed l (left - min r.2 (left / r.1) * r.1)
/-- Some units less. -/
theorem drop_units {s : Int} (hs : 0 ≤ s) : ∀ (l : List Tri) (d : Int), 0 ≤ d → OkT l → (∀ t ∈ l, s ≤ t.1.1) → ∃ l' : List Tri, l'.map (·.1) = l.map (·.1) ∧ OkT l' ∧ totT l - d ≤ totT l' ∧ (cstT l' ≤ cstT l - s * d ∨ cstT l' = 0)
  | [], d, hd, _, _ => ⟨[], rfl, fun t h => (by cases h), (by simp [totT]; omega), .inr rfl⟩
  | t :: l, d, hd, hok, hs' => by
    obtain ⟨k0, kc⟩ := hok t (by simp)
    have ht := hs' t (by simp)
    by_cases hdk : d ≤ t.2
    · refine ⟨(t.1, t.2 - d) :: l, rfl, fun u hu => ?_, by simp only [totT]; omega, .inl ?_⟩
      · rcases List.mem_cons.1 hu with rfl | hu
        · exact ⟨by simp only; omega, by simp only; omega⟩
        · exact hok u (by simp [hu])
      · simp only [cstT]
        rw [Int.sub_mul]
        have := Int.mul_le_mul_of_nonneg_left ht hd
        rw [Int.mul_comm s d]
        omega
    · obtain ⟨l', e, ok', h1, h2⟩ := drop_units hs l (d - t.2) (by omega) (fun u hu => hok u (by simp [hu])) (fun u hu => hs' u (by simp [hu]))
      refine ⟨(t.1, 0) :: l', by simp [e], fun u hu => ?_, by simp only [totT]; omega, ?_⟩
      · rcases List.mem_cons.1 hu with rfl | hu
        · exact ⟨by simp, by simp only; omega⟩
        · exact ok' u hu
      · simp only [cstT, Int.zero_mul, Int.zero_add]
        rcases h2 with h2 | h2
        · left
          have h3 := Int.mul_le_mul_of_nonneg_left ht k0
          have h4 : s * (d - t.2) = s * d - s * t.2 := Int.mul_sub _ _ _
          have h5 : s * t.2 = t.2 * s := Int.mul_comm _ _
          omega
        · exact .inr h2
theorem greed_maxN : ∀ (N : Nat) (l : List Tri) (left : Int), l.length ≤ N → 0 ≤ left → (l.map (·.1)).Pairwise (fun a b => a.1 ≤ b.1) → (∀ t ∈ l, 1 ≤ t.1.1) → OkT l → cstT l ≤ left → totT l ≤ greed (l.map (·.1)) left
  | _, [], _, _, _, _, _, _, _ => Int.le_refl _
  | N + 1, t :: l, left, hN, h0, hp, h1, hok, hc => by
    rw [List.map_cons] at hp ⊢
    obtain ⟨hp1, hp2⟩ := List.pairwise_cons.1 hp
    obtain ⟨k0, kc⟩ := hok t (by simp)
    have ht := h1 t (by simp)
    have hok' : OkT l := fun u hu => hok u (by simp [hu])
    have hs' : ∀ u ∈ l, t.1.1 ≤ u.1.1 := fun u hu => hp1 _ (List.mem_map.2 ⟨u, hu, rfl⟩)
    have hcn := cstT_nonneg (fun u hu => h1 u (by simp [hu])) hok'
    simp only [cstT] at hc
    simp only [totT, greed]
    have hkn : t.2 ≤ min t.1.2 (left / t.1.1) := by
      have : t.2 ≤ left / t.1.1 := (Int.le_ediv_iff_mul_le (by omega)).2 (by omega)
      omega
    have hn : min t.1.2 (left / t.1.1) * t.1.1 ≤ left := by
      have h2 : left / t.1.1 * t.1.1 ≤ left := (Int.le_ediv_iff_mul_le (by omega)).1 (Int.le_refl _)
      have := Int.mul_le_mul_of_nonneg_right (show min t.1.2 (left / t.1.1) ≤ left / t.1.1 by omega) (show 0 ≤ t.1.1 by omega)
      omega
    generalize min t.1.2 (left / t.1.1) = n at *
    obtain ⟨l', e, ok', h3, h4⟩ := drop_units (show 0 ≤ t.1.1 by omega) l (n - t.2) (by omega) hok' hs'
    have hsz : ∀ u ∈ l', 1 ≤ u.1.1 := fun u hu => by
      have : u.1 ∈ l.map (·.1) := by rw [← e]; exact List.mem_map.2 ⟨u, hu, rfl⟩
      obtain ⟨v, hv, hve⟩ := List.mem_map.1 this
      rw [← hve]
      exact h1 v (by simp [hv])
    have hc' : cstT l' ≤ left - n * t.1.1 := by
      rcases h4 with h4 | h4
      · have h5 : t.1.1 * (n - t.2) = n * t.1.1 - t.2 * t.1.1 := by rw [Int.mul_sub, Int.mul_comm t.1.1 n, Int.mul_comm t.1.1 t.2]
        omega
      · omega
    have hN' : l'.length ≤ N := by
      have := congrArg List.length e
      simp at this hN
      omega
    have ih := greed_maxN N l' (left - n * t.1.1) hN' (by omega) (by rw [e]; exact hp2) hsz ok' hc'
    rw [e] at ih
    omega
theorem greed_max (l : List Tri) (left : Int) (h0 : 0 ≤ left) (hp : (l.map (·.1)).Pairwise (fun a b => a.1 ≤ b.1)) (h1 : ∀ t ∈ l, 1 ≤ t.1.1) (hok : OkT l) (hc : cstT l ≤ left) : totT l ≤ greed (l.map (·.1)) left := greed_maxN l.length l left (Nat.le_refl _) h0 hp h1 hok hc
/-- What is taken, run by run. -/
def taken : List (Int × Int) → Int → List Tri
  | [], _ => []
  | r :: l, left => (r, min r.2 (left / r.1)) :: taken l (left - min r.2 (left / r.1) * r.1)
theorem taken_spec : ∀ (l : List (Int × Int)) (left : Int), 0 ≤ left → (∀ r ∈ l, 1 ≤ r.1 ∧ 0 ≤ r.2) → (taken l left).map (·.1) = l ∧ OkT (taken l left) ∧ totT (taken l left) = greed l left ∧ cstT (taken l left) ≤ left
  | [], left, h0, _ => ⟨rfl, fun t h => (by cases h), rfl, h0⟩
  | r :: l, left, h0, h => by
    obtain ⟨h1, h2⟩ := h r (by simp)
    have hq : 0 ≤ left / r.1 := Int.ediv_nonneg h0 (by omega)
    have hn : min r.2 (left / r.1) * r.1 ≤ left := by
      have h2 : left / r.1 * r.1 ≤ left := (Int.le_ediv_iff_mul_le (by omega)).1 (Int.le_refl _)
      have := Int.mul_le_mul_of_nonneg_right (show min r.2 (left / r.1) ≤ left / r.1 by omega) (show 0 ≤ r.1 by omega)
      omega
    obtain ⟨a1, a2, a3, a4⟩ := taken_spec l (left - min r.2 (left / r.1) * r.1) (by omega) (fun x hx => h x (by simp [hx]))
    refine ⟨by simp only [taken, List.map_cons, a1], fun t ht => ?_, by simp only [taken, totT, greed, a3], by simp only [taken, cstT]; omega⟩
    simp only [taken] at ht
    rcases List.mem_cons.1 ht with rfl | ht
    · exact ⟨by simp only; omega, by simp only; omega⟩
    · exact a2 t ht

/-- The runs of a spot, and of the spots of a set below k. -/
def runS (h lo hi : Int) : List (Int × Int) := if firstS h lo ≤ hi - lo then [(firstS h lo, 1), (h, (hi - lo - firstS h lo) / h)] else []
def runsL (x : Prk) (S : Nat) : Nat → List (Int × Int)
  | 0 => []
  | k + 1 => runsL x S k ++ if S.testBit k then runS (x.ho k) (x.lo k) (x.hi k) else []
theorem runsL_ok {x : Prk} (hx : PrkOk x) {S : Nat} : ∀ k, k ≤ x.n → ∀ r ∈ runsL x S k, 1 ≤ r.1 ∧ 0 ≤ r.2
  | 0, _, r, h => by cases h
  | k + 1, hk, r, h => by
    simp only [runsL] at h
    rcases List.mem_append.1 h with h | h
    · exact runsL_ok hx k (by omega) r h
    · have h1 := hx.hold k (by omega)
      have hf := first_bd (h := x.ho k) (lo := x.lo k) h1.1
      split at h
      · unfold runS at h
        split at h
        · rename_i hq
          simp at h
          rcases h with rfl | rfl
          · exact ⟨hf.1, by simp⟩
          · exact ⟨h1.1, Int.ediv_nonneg (by omega) (by omega)⟩
        · cases h
      · cases h
/-- Steps at each spot, as marks of its runs. -/
theorem marks_of {x : Prk} (hx : PrkOk x) {S : Nat} {f : Nat → Int} : ∀ k, k ≤ x.n → (∀ i, i < k → 0 ≤ f i ∧ f i ≤ capC x S i) → ∃ l : List Tri, l.map (·.1) = runsL x S k ∧ OkT l ∧ totT l = sumN f k ∧ cstT l = sumN (fun i => coC x i (f i)) k
  | 0, _, _ => ⟨[], rfl, fun t h => (by cases h), rfl, rfl⟩
  | k + 1, hk, hf => by
    obtain ⟨l, e, ok, h1, h2⟩ := marks_of hx (S := S) k (by omega) (fun i hi => hf i (by omega))
    obtain ⟨f0, fc⟩ := hf k (by omega)
    have hh := hx.hold k (by omega)
    have hp := hx.peo k (by omega)
    simp only [runsL, sumN]
    unfold capC at fc
    have hzero : f k = 0 → ∃ l : List Tri, l.map (·.1) = runsL x S k ++ [] ∧ OkT l ∧ totT l = sumN f k + f k ∧ cstT l = sumN (fun i => coC x i (f i)) k + coC x k (f k) := fun e0 => ⟨l, by rw [e]; simp, ok, by omega, by rw [e0]; unfold coC; rw [cost_zero]; unfold coC at h2; omega⟩
    split at fc
    · rename_i hb
      rw [if_pos hb]
      by_cases hq : firstS (x.ho k) (x.lo k) ≤ x.hi k - x.lo k
      · have hcap : capS (x.ho k) (x.lo k) (x.hi k) = 1 + (x.hi k - x.lo k - firstS (x.ho k) (x.lo k)) / x.ho k := if_pos hq
        have hr : runS (x.ho k) (x.lo k) (x.hi k) = [(firstS (x.ho k) (x.lo k), 1), (x.ho k, (x.hi k - x.lo k - firstS (x.ho k) (x.lo k)) / x.ho k)] := if_pos hq
        have hd := Int.ediv_nonneg (show 0 ≤ x.hi k - x.lo k - firstS (x.ho k) (x.lo k) by omega) (show 0 ≤ x.ho k by omega)
        rw [hcap] at fc
        rw [hr]
        generalize (x.hi k - x.lo k - firstS (x.ho k) (x.lo k)) / x.ho k = q at *
        by_cases e0 : f k = 0
        · refine ⟨l ++ [((firstS (x.ho k) (x.lo k), 1), 0), ((x.ho k, q), 0)], by simp [e], fun t ht => ?_, ?_, ?_⟩
          · rcases List.mem_append.1 ht with ht | ht
            · exact ok t ht
            · simp at ht
              rcases ht with rfl | rfl
              · exact ⟨by simp, by simp⟩
              · exact ⟨by simp, hd⟩
          · rw [(totT_append _ _).1]; simp [totT]; omega
          · rw [(totT_append _ _).2, e0]; unfold coC; rw [cost_zero]; unfold coC at h2; simp [cstT]; omega
        · refine ⟨l ++ [((firstS (x.ho k) (x.lo k), 1), 1), ((x.ho k, q), f k - 1)], by simp [e], fun t ht => ?_, ?_, ?_⟩
          · rcases List.mem_append.1 ht with ht | ht
            · exact ok t ht
            · simp at ht
              rcases ht with rfl | rfl
              · exact ⟨by simp, by simp⟩
              · exact ⟨by simp only; omega, by simp only; omega⟩
          · rw [(totT_append _ _).1]; simp [totT]; omega
          · rw [(totT_append _ _).2]; unfold coC; rw [cost_pos (by omega)]; unfold coC at h2; simp [cstT]; omega
      · have hcap : capS (x.ho k) (x.lo k) (x.hi k) = 0 := if_neg hq
        have hr : runS (x.ho k) (x.lo k) (x.hi k) = [] := if_neg hq
        rw [hr]
        exact hzero (by omega)
    · rename_i hb
      rw [if_neg hb]
      exact hzero (by omega)
/-- Marks of the runs, as steps at each spot, which cost no more. -/
theorem steps_of {x : Prk} (hx : PrkOk x) {S : Nat} : ∀ k, k ≤ x.n → ∀ l : List Tri, l.map (·.1) = runsL x S k → OkT l → ∃ e : Nat → Int, (∀ i, i < k → 0 ≤ e i ∧ e i ≤ capC x S i) ∧ sumN e k = totT l ∧ sumN (fun i => coC x i (e i)) k ≤ cstT l
  | 0, _, l, e, _ => by
    obtain rfl : l = [] := by simpa [runsL] using e
    exact ⟨fun _ => 0, fun i h => (by omega), rfl, Int.le_refl _⟩
  | k + 1, hk, l, e, ok => by
    simp only [runsL] at e
    obtain ⟨l1, l2, rfl, e1, e2⟩ := List.map_eq_append_iff.1 e
    obtain ⟨s, h1, h2, h3⟩ := steps_of hx k (by omega) l1 e1 (fun t ht => ok t (by simp [ht]))
    have hh := hx.hold k (by omega)
    have key : ∃ v : Int, (0 ≤ v ∧ v ≤ capC x S k) ∧ v = totT l2 ∧ coC x k v ≤ cstT l2 := by
      unfold capC coC
      have hzero : l2 = [] → (0 : Int) = totT l2 ∧ costS (x.ho k) (x.lo k) 0 ≤ cstT l2 := fun h => by subst h; rw [cost_zero]; exact ⟨rfl, Int.le_refl _⟩
      by_cases hb : S.testBit k = true
      · rw [if_pos hb] at e2 ⊢
        by_cases hq : firstS (x.ho k) (x.lo k) ≤ x.hi k - x.lo k
        · have hcap : capS (x.ho k) (x.lo k) (x.hi k) = 1 + (x.hi k - x.lo k - firstS (x.ho k) (x.lo k)) / x.ho k := if_pos hq
          have hr : runS (x.ho k) (x.lo k) (x.hi k) = [(firstS (x.ho k) (x.lo k), 1), (x.ho k, (x.hi k - x.lo k - firstS (x.ho k) (x.lo k)) / x.ho k)] := if_pos hq
          rw [hr] at e2
          rw [hcap]
          generalize (x.hi k - x.lo k - firstS (x.ho k) (x.lo k)) / x.ho k = q at *
          obtain ⟨t, u, hl2, et, eu⟩ : ∃ t u : Tri, l2 = [t, u] ∧ t.1 = (firstS (x.ho k) (x.lo k), 1) ∧ u.1 = (x.ho k, q) := by
            match l2, e2 with
            | [], e2 => simp at e2
            | [t], e2 => simp at e2
            | [t, u], e2 => simp only [List.map_cons, List.map_nil, List.cons.injEq, and_true] at e2; exact ⟨t, u, rfl, e2.1, e2.2⟩
            | t :: u :: v :: l, e2 => simp at e2
          subst hl2
          · skip
            obtain ⟨t0, t1⟩ := ok t (by simp)
            obtain ⟨u0, u1⟩ := ok u (by simp)
            rw [et] at t1
            rw [eu] at u1
            simp only at t1 u1
            refine ⟨t.2 + u.2, ⟨by omega, by omega⟩, by simp [totT], ?_⟩
            simp only [cstT, et, eu]
            have hf := first_bd (h := x.ho k) (lo := x.lo k) hh.1
            by_cases h0 : t.2 + u.2 ≤ 0
            · rw [show t.2 + u.2 = 0 by omega, cost_zero]
              rw [show t.2 = 0 by omega, show u.2 = 0 by omega]
              simp
            · rw [cost_pos (by omega)]
              by_cases ht : t.2 = 0
              · rw [ht]
                have e3 : (0 + u.2 - 1) * x.ho k = u.2 * x.ho k - x.ho k := by rw [Int.zero_add, Int.sub_mul, Int.one_mul]
                omega
              · obtain e4 : t.2 = 1 := by omega
                rw [e4]
                have e3 : (1 + u.2 - 1) * x.ho k = u.2 * x.ho k := by congr 1; omega
                omega
        · have hcap : capS (x.ho k) (x.lo k) (x.hi k) = 0 := if_neg hq
          have hr : runS (x.ho k) (x.lo k) (x.hi k) = [] := if_neg hq
          rw [hr] at e2
          rw [hcap]
          exact ⟨0, by omega, hzero (by simpa using e2)⟩
      · rw [if_neg hb] at e2 ⊢
        exact ⟨0, by omega, hzero (by simpa using e2)⟩
    obtain ⟨v, hv1, hv2, hv3⟩ := key
    refine ⟨fun i => if i = k then v else s i, fun i hi => ?_, ?_, ?_⟩
    · by_cases ei : i = k
      · subst ei; simpa using hv1
      · simp only [ei, if_false]; exact h1 i (by omega)
    · simp only [sumN]
      rw [sumN_far s v (Nat.le_refl _), (totT_append _ _).1]
      simp
      omega
    · simp only [sumN]
      rw [(totT_append _ _).2, sumN_congr (g := fun i => coC x i (s i)) fun i hi => by rw [if_neg (by omega)]]
      simp
      omega
/-- The need of a set, by its runs in order. -/
theorem need_greed {x : Prk} (hx : PrkOk x) {S : Nat} {l : List (Int × Int)} (hp : l.Perm (runsL x S x.n)) (hs : l.Pairwise fun a b => a.1 ≤ b.1) : IsNeed x S (baseC x S + greed l (x.ahi - sumN x.lo x.n)) := by
  have h0 : 0 ≤ x.ahi - sumN x.lo x.n := by have := hx.most; omega
  have hok : ∀ r ∈ l, 1 ≤ r.1 ∧ 0 ≤ r.2 := fun r hr => runsL_ok hx x.n (Nat.le_refl _) r (hp.mem_iff.1 hr)
  obtain ⟨t1, t2, t3, t4⟩ := taken_spec l _ h0 hok
  obtain ⟨r', e1, p1⟩ := perm_marks hp _ t1
  obtain ⟨e, h1, h2, h3⟩ := steps_of hx (S := S) x.n (Nat.le_refl _) r' e1 (okT_perm p1 t2)
  have q1 := totT_perm p1
  have et : greed l (x.ahi - sumN x.lo x.n) = sumN e x.n := by omega
  rw [et]
  refine need_of_steps hx h1 (by omega) fun f hf hc => ?_
  obtain ⟨m, m1, m2, m3, m4⟩ := marks_of hx (S := S) x.n (Nat.le_refl _) hf
  obtain ⟨m', n1, n2⟩ := perm_marks hp.symm _ m1
  have q2 := totT_perm n2
  have h4 := greed_max m' (x.ahi - sumN x.lo x.n) h0 (by rw [n1]; exact hs) (fun t ht => (hok t.1 (by rw [← n1]; exact List.mem_map.2 ⟨t, ht, rfl⟩)).1) (okT_perm n2 m2) (by omega)
  rw [n1] at h4
  omega
end Go.Proofs.Ytfebhofihioaoaa
/- Ranger, plain: rangers who are brought from posts to spots, and the sets of spots for which there are too few. -/
namespace Go.Proofs.Ytfebhofihioaoaa
set_option linter.unusedVariables false
set_option linter.unusedSimpArgs false

theorem sumN_swap (g : Nat → Nat → Int) (m : Nat) : ∀ n : Nat, sumN (fun i => sumN (fun s => g i s) m) n = sumN (fun s => sumN (fun i => g i s) n) m
  | 0 => by simp only [sumN]; rw [sumN_zero]
  | n + 1 => by
    simp only [sumN]
    rw [sumN_swap g m n, ← sumN_add]
def bitsOf (p : Nat → Bool) : Nat → Nat
  | 0 => 0
  | k + 1 => bitsOf p k ||| (if p k then 2 ^ k else 0)
theorem bitsOf_bit (p : Nat → Bool) : ∀ (k i : Nat), (bitsOf p k).testBit i = (decide (i < k) && p i)
  | 0, i => by simp [bitsOf]
  | k + 1, i => by
    unfold bitsOf
    rw [Nat.testBit_or, bitsOf_bit p k i]
    by_cases h : p k = true
    · rw [if_pos h, Nat.testBit_two_pow]
      by_cases e : k = i
      · subst e; simp [h]
      · by_cases h1 : i < k
        · simp [h1, e, show i < k + 1 by omega]
        · simp [h1, e, show ¬ i < k + 1 by omega]
    · rw [if_neg h]
      by_cases e : k = i
      · subst e; simp [h]
      · by_cases h1 : i < k
        · simp [h1, show i < k + 1 by omega]
        · simp [h1, show ¬ i < k + 1 by omega]
theorem bitsOf_lt (p : Nat → Bool) : ∀ k : Nat, bitsOf p k < 2 ^ k
  | 0 => by simp [bitsOf]
  | k + 1 => by
    unfold bitsOf
    have h := bitsOf_lt p k
    have h2 : 2 ^ k < 2 ^ (k + 1) := Nat.pow_lt_pow_right (by decide) (by omega)
    refine Nat.or_lt_two_pow (by omega) ?_
    split
    · exact h2
    · exact Nat.two_pow_pos _

/-- Can a ranger come from a post to a spot of a set? -/
def canB (n : Nat) (fr : Nat → Nat → Bool) (S : Nat) (i : Nat) : Bool := (List.range n).any fun s => S.testBit s && fr i s
theorem canB_iff {n : Nat} {fr : Nat → Nat → Bool} {S i : Nat} : canB n fr S i = true ↔ ∃ s, s < n ∧ S.testBit s = true ∧ fr i s = true := by
  simp only [canB, List.any_eq_true, List.mem_range, Bool.and_eq_true]
/-- The rangers for a set, and what it needs. -/
def forN (n : Nat) (fr : Nat → Nat → Bool) (posts : Nat → Int) (S : Nat) : Int := sumN (fun i => if canB n fr S i then posts i else 0) n
def wantN (n : Nat) (need : Nat → Int) (S : Nat) : Int := sumN (fun s => if S.testBit s then need s else 0) n
def HallN (n : Nat) (fr : Nat → Nat → Bool) (posts need : Nat → Int) : Prop := ∀ S, S < 2 ^ n → wantN n need S ≤ forN n fr posts S

/-- Who is where: free ones at each post, and those who went from a post to a spot. -/
structure Went (n : Nat) (fr : Nat → Nat → Bool) (posts : Nat → Int) (at_ : Nat → Int) (went : Nat → Nat → Int) : Prop where
  free : ∀ i, i < n → 0 ≤ at_ i
  some_ : ∀ i s, i < n → s < n → 0 ≤ went i s
  can : ∀ i s, i < n → s < n → 0 < went i s → fr i s = true
  row : ∀ i, i < n → at_ i + sumN (went i) n = posts i
def colN (n : Nat) (went : Nat → Nat → Int) (s : Nat) : Int := sumN (fun i => went i s) n
section
variable {n : Nat} {fr : Nat → Nat → Bool} {posts at_ need : Nat → Int} {went : Nat → Nat → Int}
/-- Everybody has been brought. -/
theorem hall_yes (h : Went n fr posts at_ went) (hc : ∀ s, s < n → need s = colN n went s) : HallN n fr posts need := fun S _ => by
  unfold wantN forN
  have e1 : sumN (fun s => if S.testBit s then need s else 0) n = sumN (fun s => sumN (fun i => if S.testBit s then went i s else 0) n) n := sumN_congr fun s hs => by
    split
    · rw [hc s hs]; rfl
    · rw [sumN_zero]
  rw [e1, ← sumN_swap]
  refine sumN_le fun i hi => ?_
  split
  · have h1 := h.row i hi
    have h2 := h.free i hi
    have h3 : sumN (fun s => if S.testBit s then went i s else 0) n ≤ sumN (went i) n := sumN_le fun s hs => by
      have := h.some_ i s hi hs
      split <;> omega
    omega
  · rename_i hno
    have h3 : sumN (fun s => if S.testBit s then went i s else 0) n ≤ sumN (fun _ => 0) n := sumN_le fun s hs => by
      split
      · rename_i hb
        rcases Int.lt_or_le 0 (went i s) with h4 | h4
        · exact absurd (canB_iff.2 ⟨s, hs, hb, h.can i s hi hs h4⟩) hno
        · exact h4
      · exact Int.le_refl _
    rwa [sumN_zero] at h3
/-- Nobody more can be brought to a spot that wants one more. -/
theorem hall_no (h : Went n fr posts at_ went) (hc : ∀ s, s < n → colN n went s ≤ need s) {j : Nat} (hj : j < n) (hlt : colN n went j < need j) {V : Nat → Bool}
    (h1 : ∀ i, i < n → V i = true → at_ i = 0) (h2 : ∀ i, i < n → fr i j = true → V i = true) (h3 : ∀ i s, i < n → s < n → V i = true → 0 < went i s → ∀ k, k < n → fr k s = true → V k = true) : ¬ HallN n fr posts need := fun hall => by
  have hT := hall (bitsOf (fun s => s == j || (List.range n).any fun i => V i && decide (0 < went i s)) n) (bitsOf_lt _ n)
  have hbit : ∀ s, s < n → ((bitsOf (fun s => s == j || (List.range n).any fun i => V i && decide (0 < went i s)) n).testBit s = true ↔ (s = j ∨ ∃ i, i < n ∧ V i = true ∧ 0 < went i s)) := fun s hs => by
    rw [bitsOf_bit]
    simp [hs]
  generalize bitsOf (fun s => s == j || (List.range n).any fun i => V i && decide (0 < went i s)) n = T at *
  have hV : forN n fr posts T ≤ sumN (fun i => if V i then posts i else 0) n := sumN_le fun i hi => by
    split
    · rename_i hcan
      obtain ⟨s, hs, hb, hf⟩ := canB_iff.1 hcan
      have : V i = true := by
        rcases (hbit s hs).1 hb with rfl | ⟨k, hk, hv, hw⟩
        · exact h2 i hi hf
        · exact h3 k s hk hs hv hw i hi hf
      rw [if_pos this]; exact Int.le_refl _
    · have := h.row i hi
      have := h.free i hi
      have := sumN_nonneg (f := went i) (n := n) fun s hs => h.some_ i s hi hs
      split <;> omega
  have hW : sumN (fun i => if V i then posts i else 0) n ≤ sumN (fun s => if T.testBit s then colN n went s else 0) n := by
    have e1 : sumN (fun s => if T.testBit s then colN n went s else 0) n = sumN (fun s => sumN (fun i => if T.testBit s then went i s else 0) n) n := sumN_congr fun s hs => by
      split
      · rfl
      · rw [sumN_zero]
    rw [e1, ← sumN_swap]
    refine sumN_le fun i hi => ?_
    split
    · rename_i hv
      have h4 := h.row i hi
      rw [h1 i hi hv] at h4
      have h5 : sumN (went i) n = sumN (fun s => if T.testBit s then went i s else 0) n := sumN_congr fun s hs => by
        split
        · rfl
        · rename_i hb
          have := h.some_ i s hi hs
          rcases Int.lt_or_le 0 (went i s) with h6 | h6
          · exact absurd ((hbit s hs).2 (.inr ⟨i, hi, hv, h6⟩)) hb
          · omega
      omega
    · have := sumN_nonneg (f := fun s => if T.testBit s then went i s else 0) (n := n) fun s hs => by
        have := h.some_ i s hi hs
        split <;> omega
      exact this
  have hS : sumN (fun s => if T.testBit s then colN n went s else 0) n < wantN n need T := by
    unfold wantN
    have h4 : sumN (fun s => (if T.testBit s then colN n went s else 0) + if s = j then 1 else 0) n ≤ sumN (fun s => if T.testBit s then need s else 0) n := sumN_le fun s hs => by
      by_cases e : s = j
      · subst e
        rw [if_pos ((hbit s hs).2 (.inl rfl)), if_pos rfl, if_pos ((hbit s hs).2 (.inl rfl))]
        omega
      · rw [if_neg e]
        have := hc s hs
        split <;> omega
    rw [sumN_add] at h4
    have h5 : sumN (fun s => if s = j then (1 : Int) else 0) n = 1 := by
      rw [sumN_set (fun _ => 0) 1 hj, sumN_zero]
      omega
    omega
  omega
/-- A spot alone that wants more than all posts have. -/
theorem hall_one (hp : ∀ i, i < n → 0 ≤ posts i ∧ posts i ≤ 12) (hn : n ≤ 6) {j : Nat} (hj : j < n) (h : 72 < need j) : ¬ HallN n fr posts need := fun hall => by
  have hT := hall (2 ^ j) (Nat.pow_lt_pow_right (by decide) hj)
  have h1 : wantN n need (2 ^ j) = need j := by
    unfold wantN
    have e : sumN (fun s => if (2 ^ j).testBit s then need s else 0) n = sumN (fun s => if s = j then need j else (fun _ => 0) s) n := sumN_congr fun s hs => by
      rw [Nat.testBit_two_pow]
      by_cases e : j = s
      · subst e; simp
      · have e' : ¬ s = j := fun h => e h.symm
        simp [e, e']
    rw [e, sumN_set (fun _ => 0) (need j) hj, sumN_zero]
    omega
  have h2 : forN n fr posts (2 ^ j) ≤ sumN (fun _ => 12) n := sumN_le fun i hi => by
    have := hp i hi
    split <;> omega
  have h3 : ∀ m : Nat, sumN (fun _ => 12) m = 12 * (m : Int) := fun m => by
    induction m with
    | zero => rfl
    | succ m ih => simp only [sumN, ih]; omega
  rw [h3] at h2
  omega
/-- One ranger who is free sets out. -/
theorem Went.free_ (h : Went n fr posts at_ went) {i s : Nat} (hi : i < n) (hs : s < n) (hf : fr i s = true) (ha : 0 < at_ i) {at' : Nat → Int} {went' : Nat → Nat → Int}
    (e1 : ∀ k, k < n → at' k = if k = i then at_ i - 1 else at_ k) (e2 : ∀ k t, k < n → t < n → went' k t = if k = i ∧ t = s then went i s + 1 else went k t) :
    Went n fr posts at' went' ∧ ∀ t, t < n → colN n went' t = colN n went t + if t = s then 1 else 0 := by
  have hrow : ∀ k, k < n → sumN (went' k) n = sumN (went k) n + if k = i then 1 else 0 := fun k hk => by
    by_cases e : k = i
    · subst e
      rw [if_pos rfl, sumN_congr (g := fun t => if t = s then went k s + 1 else went k t) fun t ht => by rw [e2 k t hk ht]; simp, sumN_set (went k) _ hs]
      omega
    · rw [if_neg e, sumN_congr (g := went k) fun t ht => by rw [e2 k t hk ht, if_neg (fun h => e h.1)]]
      omega
  refine ⟨⟨fun k hk => ?_, fun k t hk ht => ?_, fun k t hk ht hw => ?_, fun k hk => ?_⟩, fun t ht => ?_⟩
  · rw [e1 k hk]
    have := h.free k hk
    split <;> omega
  · rw [e2 k t hk ht]
    have := h.some_ k t hk ht
    split
    · rename_i e; obtain ⟨rfl, rfl⟩ := e; omega
    · exact this
  · rw [e2 k t hk ht] at hw
    split at hw
    · rename_i e; obtain ⟨rfl, rfl⟩ := e; exact hf
    · exact h.can k t hk ht hw
  · rw [e1 k hk, hrow k hk]
    have := h.row k hk
    split
    · rename_i e; subst e; omega
    · omega
  · unfold colN
    by_cases e : t = s
    · subst e
      rw [if_pos rfl, sumN_congr (g := fun k => if k = i then went i t + 1 else went k t) fun k hk => by rw [e2 k t hk ht]; simp, sumN_set (fun k => went k t) _ hi]
      omega
    · rw [if_neg e, sumN_congr (g := fun k => went k t) fun k hk => by rw [e2 k t hk ht, if_neg (fun h => e h.2)]]
      omega
/-- One ranger who was at another spot, where one more has come, goes to this one. -/
theorem Went.turn (h : Went n fr posts at_ went) {i o s : Nat} (hi : i < n) (ho : o < n) (hs : s < n) (hos : o ≠ s) (hf : fr i s = true) (hw : 0 < went i o) {went' : Nat → Nat → Int}
    (e2 : ∀ k t, k < n → t < n → went' k t = if k = i ∧ t = s then went i s + 1 else if k = i ∧ t = o then went i o - 1 else went k t) :
    Went n fr posts at_ went' ∧ ∀ t, t < n → colN n went' t = colN n went t + (if t = s then 1 else 0) - if t = o then 1 else 0 := by
  have hrow : ∀ k, k < n → sumN (went' k) n = sumN (went k) n := fun k hk => by
    by_cases e : k = i
    · subst e
      have e3 : sumN (went' k) n = sumN (fun t => if t = s then went k s + 1 else (fun t => if t = o then went k o - 1 else went k t) t) n := sumN_congr fun t ht => by rw [e2 k t hk ht]; simp
      rw [e3, sumN_set _ _ hs, sumN_set _ _ ho, if_neg (fun e => hos e.symm)]
      omega
    · exact sumN_congr fun t ht => by rw [e2 k t hk ht, if_neg (fun h => e h.1), if_neg (fun h => e h.1)]
  refine ⟨⟨h.free, fun k t hk ht => ?_, fun k t hk ht hw' => ?_, fun k hk => ?_⟩, fun t ht => ?_⟩
  · rw [e2 k t hk ht]
    have := h.some_ k t hk ht
    split
    · rename_i e; obtain ⟨rfl, rfl⟩ := e; omega
    · split
      · omega
      · exact this
  · rw [e2 k t hk ht] at hw'
    split at hw'
    · rename_i e; obtain ⟨rfl, rfl⟩ := e; exact hf
    · split at hw'
      · rename_i e; obtain ⟨rfl, rfl⟩ := e; exact h.can k t hk ht hw
      · exact h.can k t hk ht hw'
  · rw [hrow k hk]; exact h.row k hk
  · unfold colN
    by_cases e : t = s
    · subst e
      rw [if_pos rfl, if_neg (fun e => hos e.symm), sumN_congr (g := fun k => if k = i then went i t + 1 else went k t) fun k hk => by
        rw [e2 k t hk ht]
        by_cases ek : k = i
        · subst ek; simp
        · simp [ek], sumN_set (fun k => went k t) _ hi]
      omega
    · rw [if_neg e]
      by_cases eo : t = o
      · subst eo
        rw [if_pos rfl, sumN_congr (g := fun k => if k = i then went i t - 1 else went k t) fun k hk => by
          rw [e2 k t hk ht]
          by_cases ek : k = i
          · subst ek; simp [e]
          · simp [ek], sumN_set (fun k => went k t) _ hi]
        omega
      · rw [if_neg eo, sumN_congr (g := fun k => went k t) fun k hk => by rw [e2 k t hk ht, if_neg (fun h => e h.2), if_neg (fun h => eo h.2)]]
        omega
end
end Go.Proofs.Ytfebhofihioaoaa
/- Ranger, plain: the document's worst crowd, a step after the other. -/
namespace Go.Proofs.Ytfebhofihioaoaa
set_option linter.unusedVariables false
set_option linter.unusedSimpArgs false

/-- The next step's size. -/
def nextS (x : Prk) (c : Nat → Int) (i : Nat) : Int := need1 (x.ho i) (c i) * x.ho i + 1 - c i
/-- Can one more step be taken here? -/
def candS (x : Prk) (S : Nat) (c : Nat → Int) (left : Int) (i : Nat) : Prop := S.testBit i = true ∧ nextS x c i ≤ left ∧ c i + nextS x c i ≤ x.hi i
/-- So far taken, the smallest ones first. -/
structure Worst1 (x : Prk) (S : Nat) (e c : Nat → Int) (left : Int) : Prop where
  crowd : ∀ i, i < x.n → c i = x.lo i + coC x i (e i)
  cap : ∀ i, i < x.n → 0 ≤ e i ∧ e i ≤ capC x S i
  left0 : 0 ≤ left
  left_ : left = x.ahi - sumN c x.n
  stable : ∀ i j, i < x.n → j < x.n → e i < capC x S i → 0 < e j → stC x j (e j) ≤ stC x i (e i + 1)
section
variable {x : Prk} {S : Nat} {e c : Nat → Int} {left : Int}
theorem st_mono (hx : PrkOk x) {i : Nat} (hi : i < x.n) {k : Int} (_hk : 0 ≤ k) : stC x i k ≤ stC x i (k + 1) := by
  have h := hx.hold i hi
  have hf := first_bd (h := x.ho i) (lo := x.lo i) h.1
  unfold stC stepS
  split
  · split <;> omega
  · rw [if_neg (by omega)]; omega
theorem next_eq (hx : PrkOk x) {i : Nat} (hi : i < x.n) (h0 : 0 ≤ e i) (hc : c i = x.lo i + coC x i (e i)) : nextS x c i = stC x i (e i + 1) := by
  have h := hx.hold i hi
  unfold nextS
  have h1 : need1 (x.ho i) (c i) = need1 (x.ho i) (x.lo i) + e i := by rw [hc]; exact need1_cost h.1 h0
  rw [h1, hc]
  unfold coC stC stepS
  by_cases h2 : e i = 0
  · rw [h2, cost_zero, if_pos (by omega)]
    unfold firstS
    simp
  · rw [cost_pos (by omega), if_neg (by omega)]
    unfold firstS
    have h3 : (need1 (x.ho i) (x.lo i) + e i) * x.ho i = need1 (x.ho i) (x.lo i) * x.ho i + (e i - 1) * x.ho i + x.ho i := by
      rw [show need1 (x.ho i) (x.lo i) + e i = need1 (x.ho i) (x.lo i) + ((e i - 1) + 1) by omega, Int.add_mul, Int.add_mul, Int.one_mul]
      omega
    omega
theorem cap_next (hx : PrkOk x) {i : Nat} (hi : i < x.n) (hb : S.testBit i = true) (h0 : 0 ≤ e i) (hc : c i = x.lo i + coC x i (e i)) : e i < capC x S i ↔ c i + nextS x c i ≤ x.hi i := by
  have h := hx.hold i hi
  have hp := hx.peo i hi
  rw [next_eq hx hi h0 hc]
  unfold capC
  rw [if_pos hb]
  have h1 := cap_iff (h := x.ho i) (lo := x.lo i) (hi := x.hi i) (e := e i + 1) h.1 hp.2.1 (by omega)
  rw [cost_succ h0] at h1
  unfold coC at hc
  unfold stC
  constructor
  · intro h2
    have := h1.1 (by omega)
    omega
  · intro h2
    have := h1.2 (by omega)
    omega
theorem Worst1.start (hx : PrkOk x) (S : Nat) : Worst1 x S (fun _ => 0) x.lo (x.ahi - sumN x.lo x.n) where
  crowd i hi := by unfold coC; rw [cost_zero]; omega
  cap i hi := by
    refine ⟨Int.le_refl _, ?_⟩
    unfold capC
    split
    · exact cap_nonneg (hx.hold i hi).1
    · omega
  left0 := by have := hx.most; omega
  left_ := rfl
  stable i j hi hj h1 h2 := by omega
/-- One more step, the smallest one that can be taken. -/
theorem Worst1.step (hx : PrkOk x) (h : Worst1 x S e c left) {b : Nat} (hb : b < x.n) (hcb : candS x S c left b) (hmin : ∀ i, i < x.n → candS x S c left i → nextS x c b ≤ nextS x c i) {c' : Nat → Int} (hc' : ∀ i, i < x.n → c' i = if i = b then c b + nextS x c b else c i) :
    Worst1 x S (fun i => if i = b then e b + 1 else e i) c' (left - nextS x c b) := by
  have hn : ∀ i, i < x.n → nextS x c i = stC x i (e i + 1) := fun i hi => next_eq hx hi (h.cap i hi).1 (h.crowd i hi)
  have hecap : e b < capC x S b := (cap_next hx hb hcb.1 (h.cap b hb).1 (h.crowd b hb)).2 hcb.2.2
  have h1b := hn b hb
  have hx0 : 1 ≤ nextS x c b := by
    have h2 := hx.hold b hb
    have hf := first_bd (h := x.ho b) (lo := x.lo b) h2.1
    rw [h1b]
    unfold stC stepS
    split <;> omega
  refine ⟨fun i hi => ?_, fun i hi => ?_, by have := hcb.2.1; omega, ?_, fun i j hi hj h1 h2 => ?_⟩
  · rw [hc' i hi]
    by_cases ei : i = b
    · subst ei
      rw [if_pos rfl]
      simp only [if_true]
      rw [h.crowd i hi]
      unfold coC
      rw [cost_succ (h.cap i hi).1]
      have h3 := h.crowd i hi
      rw [h1b]
      unfold stC
      omega
    · simp only [ei, if_false]
      exact h.crowd i hi
  · by_cases ei : i = b
    · subst ei
      simp only [if_true]
      have := h.cap i hi
      omega
    · simp only [ei, if_false]
      exact h.cap i hi
  · rw [h.left_, sumN_congr (g := fun i => if i = b then c b + nextS x c b else c i) hc', sumN_set c _ hb]
    omega
  · have hi0 := h.cap i hi
    have hlow : ∀ k, k < x.n → e k < capC x S k → nextS x c b ≤ stC x k (e k + 1) := fun k hk hkc => by
      rw [← hn k hk]
      have hSk : S.testBit k = true := by
        by_cases hs : S.testBit k = true
        · exact hs
        · unfold capC at hkc
          rw [if_neg hs] at hkc
          have := (h.cap k hk).1
          omega
      rcases Int.lt_or_le left (nextS x c k) with h5 | h5
      · have := hcb.2.1; omega
      · exact hmin k hk ⟨hSk, h5, (cap_next hx hk hSk (h.cap k hk).1 (h.crowd k hk)).1 hkc⟩
    by_cases ej : j = b
    · subst ej
      simp only [if_true]
      by_cases ei : i = j
      · subst ei
        simp only [if_true]
        exact st_mono hx hi (by omega)
      · simp only [ei, if_false] at h1 ⊢
        rw [← h1b]
        exact hlow i hi h1
    · simp only [ej, if_false] at h2 ⊢
      by_cases ei : i = b
      · subst ei
        simp only [if_true] at h1 ⊢
        have h6 := h.stable i j hi hj hecap h2
        have h7 := st_mono hx hi (k := e i + 1) (by omega)
        omega
      · simp only [ei, if_false] at h1 ⊢
        exact h.stable i j hi hj h1 h2
/-- No step more can be taken: this is the need. -/
theorem Worst1.stop (hx : PrkOk x) (h : Worst1 x S e c left) (hno : ∀ i, i < x.n → ¬ candS x S c left i) : Crowd x c ∧ IsNeed x S (needC x S c) := by
  have hs : sumN c x.n = sumN x.lo x.n + sumN (fun i => coC x i (e i)) x.n := by
    rw [← sumN_add]
    exact sumN_congr fun i hi => h.crowd i hi
  have hne := need_of_stable hx (S := S) (e := e) (left := left) h.left0 (by have := h.left_; omega) h.cap h.stable fun i hi hc => by
    have hS : S.testBit i = true := by
      by_cases hs : S.testBit i = true
      · exact hs
      · unfold capC at hc
        rw [if_neg hs] at hc
        have := (h.cap i hi).1
        omega
    have h1 := next_eq hx hi (h.cap i hi).1 (h.crowd i hi)
    have h2 := (cap_next hx hi hS (h.cap i hi).1 (h.crowd i hi)).1 hc
    rcases Int.lt_or_le left (nextS x c i) with h3 | h3
    · omega
    · exact absurd ⟨hS, h3, h2⟩ (hno i hi)
  have hcr : Crowd x c := by
    refine ⟨fun i hi => ?_, by have := h.left_; have := h.left0; omega⟩
    have h1 := h.crowd i hi
    have h2 := h.cap i hi
    have h3 := hx.hold i hi
    have h4 := hx.peo i hi
    have h5 := cost_nonneg (h := x.ho i) (lo := x.lo i) h3.1 (e i)
    unfold coC at h1
    have h6 : costS (x.ho i) (x.lo i) (e i) ≤ x.hi i - x.lo i := by
      unfold capC at h2
      split at h2
      · exact (cap_iff h3.1 h4.2.1 h2.1).1 h2.2
      · rw [show e i = 0 by omega, cost_zero]; omega
    omega
  refine ⟨hcr, ?_⟩
  have e1 : needC x S c = baseC x S + sumN e x.n := needC_steps hx h.cap fun i hi _ => by rw [h.crowd i hi]; exact need1_cost (hx.hold i hi).1 (h.cap i hi).1
  rw [e1]
  exact hne
theorem needC_mono (hx : PrkOk x) (S : Nat) {c d : Nat → Int} (h : ∀ i, i < x.n → c i ≤ d i) : needC x S c ≤ needC x S d := sumN_le fun i hi => by
  split
  · exact need1_mono (hx.hold i hi).1 (h i hi)
  · exact Int.le_refl _
/-- More people, as many as there have to be: the need is the same. -/
theorem worst_more (hx : PrkOk x) {c d : Nat → Int} (hn : IsNeed x S (needC x S c)) (hcd : ∀ i, i < x.n → c i ≤ d i) (hd : Crowd x d) : needC x S d = needC x S c := by
  have := hn.2 d hd
  have := needC_mono hx S hcd
  omega
/-- So many people at each spot, and in all, as there can be. -/
def Possible (x : Prk) (c : Nat → Int) : Prop := (∀ i, i < x.n → x.lo i ≤ c i ∧ c i ≤ x.hi i) ∧ x.alo ≤ sumN c x.n ∧ sumN c x.n ≤ x.ahi
theorem Possible.crowd {c : Nat → Int} (h : Possible x c) : Crowd x c := ⟨h.1, h.2.2⟩
/-- One spot is filled up, as far as people are lacking. -/
structure Fill (x : Prk) (c d : Nat → Int) (lack : Int) : Prop where
  ge : ∀ i, i < x.n → c i ≤ d i ∧ d i ≤ x.hi i
  lack_ : lack = x.alo - sumN d x.n
  le : sumN d x.n ≤ x.ahi
theorem Fill.start (h : Crowd x c) : Fill x c c (x.alo - sumN c x.n) := ⟨fun i hi => ⟨Int.le_refl _, (h.1 i hi).2⟩, rfl, h.2⟩
theorem Fill.step (hx : PrkOk x) {c d d' : Nat → Int} {lack : Int} (h : Fill x c d lack) {b : Nat} (hb : b < x.n) (hd' : ∀ i, i < x.n → d' i = if i = b then d b + max 0 (min lack (x.hi b - d b)) else d i) :
    Fill x c d' (lack - max 0 (min lack (x.hi b - d b))) ∧ (lack - max 0 (min lack (x.hi b - d b)) ≤ 0 ∨ d' b = x.hi b) := by
  have h1 := h.ge b hb
  have hs : sumN d' x.n = sumN d x.n + max 0 (min lack (x.hi b - d b)) := by
    rw [sumN_congr hd', sumN_set d _ hb]
    omega
  have hl := h.lack_
  have hle := h.le
  have hall := hx.all
  refine ⟨⟨fun i hi => ?_, by omega, by omega⟩, ?_⟩
  · rw [hd' i hi]
    by_cases e : i = b
    · subst e; rw [if_pos rfl]; omega
    · rw [if_neg e]; exact h.ge i hi
  · rw [hd' b hb, if_pos rfl]
    omega
/-- All spots are full, or nobody lacks. -/
theorem Fill.done (hx : PrkOk x) {c d : Nat → Int} {lack : Int} (hc : Crowd x c) (h : Fill x c d lack) (hf : lack ≤ 0 ∨ ∀ i, i < x.n → d i = x.hi i) : Possible x d := by
  refine ⟨fun i hi => ?_, ?_, h.le⟩
  · have := h.ge i hi
    have := hc.1 i hi
    omega
  · have hl := h.lack_
    rcases hf with hf | hf
    · omega
    · have := hx.least
      rw [sumN_congr (g := x.hi) hf]
      exact this
end
end Go.Proofs.Ytfebhofihioaoaa
/- Ranger, plain: the need as a value; what is lacking; posts in order. -/
namespace Go.Proofs.Ytfebhofihioaoaa
set_option linter.unusedVariables false
set_option linter.unusedSimpArgs false

open Classical in
noncomputable def needV (x : Prk) (S : Nat) : Int := if h : ∃ v, IsNeed x S v then Classical.choose h else 0
theorem IsNeed.val {x : Prk} {S : Nat} {v : Int} (h : IsNeed x S v) : needV x S = v := by
  have hex : ∃ v, IsNeed x S v := ⟨v, h⟩
  unfold needV
  rw [dif_pos hex]
  exact (Classical.choose_spec hex).eq h
/-- Can a ranger of a post come to a spot? -/
def frX (x : Prk) (i s : Nat) : Bool := i == s || (x.ne i).toNat.testBit s
def forX (x : Prk) (posts : Nat → Int) (S : Nat) : Int := forN x.n (frX x) posts S
/-- Do posts suffice for a crowd? -/
def HoldsX (x : Prk) (posts c : Nat → Int) : Prop := HallN x.n (frX x) posts fun s => need1 (x.ho s) (c s)
theorem want_needC (x : Prk) (c : Nat → Int) (S : Nat) : wantN x.n (fun s => need1 (x.ho s) (c s)) S = needC x S c := rfl
/-- All sets have a need. -/
def AllNeed (x : Prk) : Prop := ∀ S, ∃ v, IsNeed x S v
theorem need_is {x : Prk} (h : AllNeed x) (S : Nat) : IsNeed x S (needV x S) := by
  obtain ⟨v, hv⟩ := h S
  rw [hv.val]; exact hv
def Enough (x : Prk) (posts : Nat → Int) : Prop := ∀ S, S < 2 ^ x.n → needV x S ≤ forX x posts S
section
variable {x : Prk} {posts : Nat → Int}
/-- With enough rangers for all sets each crowd that can be is watched. -/
theorem enough_holds (hn : AllNeed x) (h : Enough x posts) {c : Nat → Int} (hc : Crowd x c) : HoldsX x posts c := fun S hS => by
  have h1 := (need_is hn S).2 c hc
  rw [want_needC]
  exact Int.le_trans h1 (h S hS)
theorem lack_not {S : Nat} (hS : S < 2 ^ x.n) {c : Nat → Int} (hlt : forX x posts S < needC x S c) : ¬ HoldsX x posts c := fun h => by
  have := h S hS
  rw [want_needC] at this
  unfold forX at hlt
  omega
theorem needC_sub (hx : PrkOk x) {S T : Nat} (hsub : ∀ i, i < x.n → S.testBit i = true → T.testBit i = true) {c : Nat → Int} (hc : ∀ i, i < x.n → 0 ≤ c i) : needC x S c ≤ needC x T c := sumN_le fun i hi => by
  have h0 := (need1_bd (hx.hold i hi).1 (hc i hi)).1
  by_cases h1 : S.testBit i = true
  · rw [if_pos h1, if_pos (hsub i hi h1)]; exact Int.le_refl _
  · rw [if_neg h1]; split <;> omega
theorem needV_sub (hx : PrkOk x) (hn : AllNeed x) {S T : Nat} (hsub : ∀ i, i < x.n → S.testBit i = true → T.testBit i = true) : needV x S ≤ needV x T := by
  obtain ⟨⟨c, hc, e⟩, _⟩ := need_is hn S
  rw [← e]
  have h1 := needC_sub hx hsub (c := c) fun i hi => by have := (hc.1 i hi).1; have := (hx.peo i hi).1; omega
  exact Int.le_trans h1 ((need_is hn T).2 c hc)
theorem needV_both (hx : PrkOk x) (hn : AllNeed x) {S T U : Nat} (hU : ∀ i, i < x.n → U.testBit i = true → S.testBit i = true ∨ T.testBit i = true) : needV x U ≤ needV x S + needV x T := by
  obtain ⟨⟨c, hc, e⟩, _⟩ := need_is hn U
  rw [← e]
  have h1 := (need_is hn S).2 c hc
  have h2 := (need_is hn T).2 c hc
  have h3 : needC x U c ≤ needC x S c + needC x T c := by
    unfold needC
    rw [← sumN_add]
    refine sumN_le fun i hi => ?_
    have h0 := (need1_bd (hx.hold i hi).1 (show 0 ≤ c i by have := (hc.1 i hi).1; have := (hx.peo i hi).1; omega)).1
    by_cases hu : U.testBit i = true
    · rw [if_pos hu]
      rcases hU i hi hu with h | h
      · rw [if_pos h]; split <;> omega
      · rw [if_pos h]; split <;> omega
    · rw [if_neg hu]
      split <;> split <;> omega
  omega
theorem needV_nonneg (hx : PrkOk x) (hn : AllNeed x) (S : Nat) : 0 ≤ needV x S := by
  obtain ⟨⟨c, hc, e⟩, _⟩ := need_is hn S
  rw [← e]
  refine sumN_nonneg fun i hi => ?_
  have h0 := (need1_bd (hx.hold i hi).1 (show 0 ≤ c i by have := (hc.1 i hi).1; have := (hx.peo i hi).1; omega)).1
  split <;> omega
theorem needV_zero (hn : AllNeed x) : needV x 0 = 0 := by
  obtain ⟨⟨c, hc, e⟩, _⟩ := need_is hn 0
  rw [← e]
  unfold needC
  rw [sumN_congr (g := fun _ => 0) fun i _ => by simp, sumN_zero]
theorem forX_zero : forX x posts 0 = 0 := by
  unfold forX forN
  rw [sumN_congr (g := fun _ => 0) fun i _ => by
    have : canB x.n (frX x) 0 i = false := by
      cases h : canB x.n (frX x) 0 i
      · rfl
      · obtain ⟨s, _, h2, _⟩ := canB_iff.1 h
        simp at h2
    rw [this]; simp, sumN_zero]
theorem forX_mono {y : Prk} (hn : y.n = x.n) {q : Nat → Int} (h0 : ∀ i, i < x.n → 0 ≤ q i) (hq : ∀ i, i < x.n → posts i ≤ q i) (hf : ∀ i s, i < x.n → s < x.n → frX x i s = true → frX y i s = true) (S : Nat) : forX x posts S ≤ forX y q S := by
  unfold forX forN
  rw [hn]
  refine sumN_le fun i hi => ?_
  by_cases h : canB x.n (frX x) S i = true
  · obtain ⟨s, h1, h2, h3⟩ := canB_iff.1 h
    rw [if_pos h, if_pos (canB_iff.2 ⟨s, h1, h2, hf i s hi h1 h3⟩)]
    exact hq i hi
  · rw [if_neg h]
    have := h0 i hi
    split <;> omega
/-- With fewer people in all, the same spots. -/
theorem needV_few {y : Prk} (hn : AllNeed x) (hm : AllNeed y) (hs : y.sp = x.sp) (ha : y.ahi ≤ x.ahi) (S : Nat) : needV y S ≤ needV x S := by
  obtain ⟨⟨c, hc, e⟩, _⟩ := need_is hm S
  rw [← e]
  have e1 : needC y S c = needC x S c := by unfold needC Prk.n Prk.ho; rw [hs]
  rw [e1]
  refine (need_is hn S).2 c ⟨?_, ?_⟩
  · have := hc.1
    unfold Prk.n Prk.lo Prk.hi at this ⊢
    rwa [hs] at this
  · have := hc.2
    unfold Prk.n at this ⊢
    rw [hs] at this
    omega
end

/-! What is lacking, set by set. -/
def countN (S : Nat) : Nat := ((List.range 6).filter fun i => S.testBit i).length
def lackTo (need has : Nat → Int) : Nat → Nat × Int
  | 0 => (0, 0)
  | k + 1 => if 0 < need k - has k ∧ ((lackTo need has k).1 = 0 ∨ countN k < countN (lackTo need has k).1) then (k, need k - has k) else lackTo need has k
theorem lackTo_spec (need has : Nat → Int) (h0 : need 0 = has 0) : ∀ k : Nat, ((lackTo need has k).1 = 0 ∧ (lackTo need has k).2 = 0 ∧ ∀ S, S < k → need S ≤ has S) ∨ (0 < (lackTo need has k).1 ∧ (lackTo need has k).1 < k ∧ 0 < (lackTo need has k).2 ∧ (lackTo need has k).2 = need (lackTo need has k).1 - has (lackTo need has k).1)
  | 0 => .inl ⟨rfl, rfl, fun S h => by omega⟩
  | k + 1 => by
    have ih := lackTo_spec need has h0 k
    simp only [lackTo]
    by_cases h : 0 < need k - has k ∧ ((lackTo need has k).1 = 0 ∨ countN k < countN (lackTo need has k).1)
    · rw [if_pos h]
      refine .inr ⟨?_, by simp, h.1, rfl⟩
      rcases Nat.eq_zero_or_pos k with rfl | hk
      · omega
      · exact hk
    · rw [if_neg h]
      rcases ih with ⟨a, b, c⟩ | ⟨a, b, c, d⟩
      · refine .inl ⟨a, b, fun S hS => ?_⟩
        rcases Nat.lt_succ_iff_lt_or_eq.1 hS with h1 | rfl
        · exact c S h1
        · rcases Int.lt_or_le 0 (need S - has S) with h2 | h2
          · exact absurd ⟨h2, .inl a⟩ h
          · omega
      · exact .inr ⟨a, by omega, c, d⟩

/-! All lists of so many numbers with a sum, in order. -/
def vecs : Nat → Nat → List (List Nat)
  | 0, left => if left = 0 then [[]] else []
  | k + 1, left => (List.range (left + 1)).flatMap fun v => (vecs k (left - v)).map (v :: ·)
theorem mem_vecs : ∀ (k left : Nat) (l : List Nat), l ∈ vecs k left ↔ l.length = k ∧ l.sum = left
  | 0, left, l => by
    unfold vecs
    split
    · rename_i h
      subst h
      simp only [List.mem_singleton]
      constructor
      · rintro rfl; simp
      · rintro ⟨h, _⟩; exact List.eq_nil_of_length_eq_zero h
    · rename_i h
      constructor
      · intro h1; cases h1
      · rintro ⟨h1, h2⟩
        obtain rfl := List.eq_nil_of_length_eq_zero h1
        simp at h2
        exact absurd h2.symm h
  | k + 1, left, l => by
    simp only [vecs, List.mem_flatMap, List.mem_map, List.mem_range]
    constructor
    · rintro ⟨v, hv, m, hm, rfl⟩
      obtain ⟨h1, h2⟩ := (mem_vecs k (left - v) m).1 hm
      simp
      omega
    · rintro ⟨h1, h2⟩
      match l, h1, h2 with
      | v :: m, h1, h2 =>
        simp at h1 h2
        exact ⟨v, by omega, m, (mem_vecs k (left - v) m).2 ⟨h1, by omega⟩, rfl⟩
theorem vecs_sorted : ∀ (k left : Nat), (vecs k left).Pairwise (· < ·)
  | 0, left => by
    unfold vecs
    split <;> simp
  | k + 1, left => by
    unfold vecs
    rw [List.pairwise_flatMap]
    refine ⟨fun i _ => ?_, ?_⟩
    · rw [List.pairwise_map]
      exact (vecs_sorted k (left - i)).imp fun h => List.cons_lt_cons_iff.2 (.inr ⟨rfl, h⟩)
    · refine List.pairwise_lt_range.imp fun {i j} hij => ?_
      intro a ha b hb
      obtain ⟨s, _, rfl⟩ := List.mem_map.1 ha
      obtain ⟨t, _, rfl⟩ := List.mem_map.1 hb
      exact List.cons_lt_cons_iff.2 (.inl hij)
/-- The posts that a list tells. -/
def postF (l : List Nat) : Nat → Int := fun i => (l.getD i 0 : Nat)
/-- The fewest posts: of n rangers, and the first in order. -/
structure IsFewest (x : Prk) (l : List Nat) : Prop where
  len : l.length = x.n
  sum : l.sum ≤ 12
  ok : Enough x (postF l)
  least : ∀ m : List Nat, m.length = x.n → Enough x (postF m) → l.sum < m.sum ∨ (l.sum = m.sum ∧ l ≤ m)
theorem IsFewest.eq {x : Prk} {l m : List Nat} (h : IsFewest x l) (k : IsFewest x m) : l = m := by
  have h1 := h.least m k.len k.ok
  have h2 := k.least l h.len h.ok
  rcases h1 with h1 | ⟨e1, h1⟩
  · rcases h2 with h2 | ⟨e2, h2⟩ <;> omega
  · rcases h2 with h2 | ⟨e2, h2⟩
    · omega
    · exact List.le_antisymm h1 h2
/-- All posts with fewer than n rangers, and those of n that are ahead, do not suffice; these do. -/
theorem fewest_of {x : Prk} {n : Nat} (hn : n ≤ 12) (hno : ∀ m : List Nat, m.length = x.n → m.sum < n → ¬ Enough x (postF m)) {i : Nat} (hi : i < (vecs x.n n).length) (hahead : ∀ j (hj : j < i), ¬ Enough x (postF ((vecs x.n n)[j]'(Nat.lt_trans hj hi)))) (hok : Enough x (postF (vecs x.n n)[i])) : IsFewest x (vecs x.n n)[i] := by
  obtain ⟨h1, h2⟩ := (mem_vecs x.n n _).1 (List.getElem_mem hi)
  refine ⟨h1, by omega, hok, fun m hm hmo => ?_⟩
  rcases Nat.lt_trichotomy m.sum n with h3 | h3 | h3
  · exact absurd hmo (hno m hm h3)
  · refine .inr ⟨by omega, ?_⟩
    obtain ⟨j, hj, rfl⟩ := List.mem_iff_getElem.1 ((mem_vecs x.n n m).2 ⟨hm, h3⟩)
    rcases Nat.lt_trichotomy j i with h4 | h4 | h4
    · exact absurd hmo (hahead j h4)
    · subst h4; exact List.le_refl _
    · exact List.le_of_lt (List.pairwise_iff_getElem.1 (vecs_sorted x.n n) i j hi hj h4)
  · exact .inl (by omega)
end Go.Proofs.Ytfebhofihioaoaa
/- Ranger, plain: the sample's numbers; all spots together; a crowd by remainders. -/
namespace Go.Proofs.Ytfebhofihioaoaa
set_option linter.unusedVariables false
set_option linter.unusedSimpArgs false

theorem sum_take (l : List Nat) : ∀ k, k ≤ l.length → sumN (fun i => ((l.getD i 0 : Nat) : Int)) k = ((l.take k).sum : Nat)
  | 0, _ => by simp [sumN]
  | k + 1, h => by
    simp only [sumN]
    rw [sum_take l k (by omega), List.take_succ_eq_append_getElem (by omega), List.sum_append]
    simp [List.getD, show k < l.length by omega]
theorem sum_getD (l : List Nat) : sumN (fun i => ((l.getD i 0 : Nat) : Int)) l.length = (l.sum : Nat) := by
  rw [sum_take l l.length (Nat.le_refl _), List.take_length]
theorem forX_all {x : Prk} {S : Nat} (hS : ∀ i, i < x.n → S.testBit i = true) (posts : Nat → Int) : forX x posts S = sumN posts x.n := sumN_congr fun i hi => by
  rw [if_pos (canB_iff.2 ⟨i, hi, hS i hi, by simp [frX]⟩)]
theorem all_bits {n i : Nat} (h : i < n) : (2 ^ n - 1).testBit i = true := by rw [Nat.testBit_two_pow_sub_one]; simpa using h
/-- With fewer rangers than all spots together need nothing suffices. -/
theorem few_not {x : Prk} {m : List Nat} (hm : m.length = x.n) (h : (m.sum : Int) < needV x (2 ^ x.n - 1)) : ¬ Enough x (postF m) := fun he => by
  have h1 := he (2 ^ x.n - 1) (by have := Nat.two_pow_pos x.n; omega)
  rw [forX_all fun i hi => all_bits hi] at h1
  have h2 : sumN (postF m) x.n = (m.sum : Nat) := by rw [← hm]; exact sum_getD m
  omega

/-! The example. -/
def x0 : Prk := ⟨[(0, 100, 40, 2), (10, 60, 30, 5), (0, 50, 25, 0)], 20, 120⟩
theorem x0_ok : PrkOk x0 where
  n6 := by decide
  all := by decide
  peo := by decide
  hold := by decide
  near := by decide
  most := by decide
  least := by decide
def insR (r : Int × Int) : List (Int × Int) → List (Int × Int)
  | [] => [r]
  | s :: l => if r.1 ≤ s.1 then r :: s :: l else s :: insR r l
def sortR : List (Int × Int) → List (Int × Int)
  | [] => []
  | r :: l => insR r (sortR l)
theorem insR_perm (r : Int × Int) : ∀ l, (insR r l).Perm (r :: l)
  | [] => .refl _
  | s :: l => by
    unfold insR
    split
    · exact .refl _
    · exact ((insR_perm r l).cons s).trans (.swap _ _ _)
theorem sortR_perm : ∀ l, (sortR l).Perm l
  | [] => .refl _
  | r :: l => (insR_perm r (sortR l)).trans ((sortR_perm l).cons r)
theorem insR_sorted (r : Int × Int) : ∀ l : List (Int × Int), l.Pairwise (fun a b => a.1 ≤ b.1) → (insR r l).Pairwise fun a b => a.1 ≤ b.1
  | [], _ => by simp [insR]
  | s :: l, h => by
    obtain ⟨h1, h2⟩ := List.pairwise_cons.1 h
    unfold insR
    split
    · rename_i hrs
      refine List.pairwise_cons.2 ⟨fun b hb => ?_, h⟩
      rcases List.mem_cons.1 hb with rfl | hb
      · exact hrs
      · have := h1 b hb; omega
    · rename_i hrs
      refine List.pairwise_cons.2 ⟨fun b hb => ?_, insR_sorted r l h2⟩
      rcases List.mem_cons.1 ((insR_perm r l).mem_iff.1 hb) with rfl | hb
      · omega
      · exact h1 b hb
theorem sortR_sorted : ∀ l : List (Int × Int), (sortR l).Pairwise fun a b => a.1 ≤ b.1
  | [] => List.Pairwise.nil
  | r :: l => insR_sorted r _ (sortR_sorted l)
def runs0 (S : Nat) : List (Int × Int) := sortR (runsL x0 S 3)
/-- Every set of a valid park has a need. -/
theorem allNeed {x : Prk} (hx : PrkOk x) : AllNeed x := fun S => ⟨_, need_greed hx (sortR_perm (runsL x S x.n)) (sortR_sorted _)⟩
theorem need0 (S : Nat) : IsNeed x0 S (baseC x0 S + greed (runs0 S) 110) := need_greed x0_ok (l := runs0 S) (sortR_perm _) (sortR_sorted _)
theorem need0_val (S : Nat) : needV x0 S = baseC x0 S + greed (runs0 S) 110 := (need0 S).val
theorem all0 : AllNeed x0 := fun S => ⟨_, need0 S⟩
def needs0 : List Int := [0, 3, 2, 5, 2, 5, 4, 6]
theorem needs0_eq : ∀ S, S < 8 → baseC x0 S + greed (runs0 S) 110 = needs0.getD S 0 := by decide +kernel
theorem need0_tab {S : Nat} (h : S < 8) : needV x0 S = needs0.getD S 0 := by rw [need0_val, needs0_eq S h]
def enough0 (posts : Nat → Int) : Bool := (List.range 8).all fun S => decide (needs0.getD S 0 ≤ forX x0 posts S)
theorem enough0_iff (posts : Nat → Int) : enough0 posts = true ↔ Enough x0 posts := by
  unfold enough0
  simp only [List.all_eq_true, List.mem_range, decide_eq_true_iff]
  constructor
  · intro h S hS
    rw [need0_tab hS]
    exact h S hS
  · intro h S hS
    rw [← need0_tab hS]
    exact h S hS
theorem few0 : ∀ n, n < 6 → ∀ l ∈ vecs 3 n, enough0 (postF l) = false := by decide +kernel
theorem six0 : ∀ l ∈ vecs 3 6, enough0 (postF l) = true → ([0, 5, 1] ≤ l) := by decide +kernel
theorem fewest0 : IsFewest x0 [0, 5, 1] where
  len := rfl
  sum := by decide
  ok := (enough0_iff _).1 (by decide +kernel)
  least m hm hok := by
    have hok' := (enough0_iff _).2 hok
    rcases Nat.lt_trichotomy m.sum 6 with h | h | h
    · have := few0 m.sum h m ((mem_vecs 3 m.sum m).2 ⟨hm, rfl⟩)
      rw [this] at hok'; cases hok'
    · exact .inr ⟨h.symm, six0 m ((mem_vecs 3 6 m).2 ⟨hm, h⟩) hok'⟩
    · exact .inl h
end Go.Proofs.Ytfebhofihioaoaa
/- Ranger, plain: a crowd by remainders; bits of sets. -/
namespace Go.Proofs.Ytfebhofihioaoaa
set_option linter.unusedVariables false
set_option linter.unusedSimpArgs false

/-- So many more people are given to the spots; so many are left. -/
structure SomeI (x : Prk) (tot : Int) (out : Nat → Int) (more : Int) : Prop where
  in_ : ∀ i, i < x.n → x.lo i ≤ out i ∧ out i ≤ x.hi i
  more0 : 0 ≤ more
  sum_ : sumN out x.n + more = tot
section
variable {x : Prk} {tot more : Int} {out : Nat → Int}
theorem SomeI.step (h : SomeI x tot out more) {b : Nat} (hb : b < x.n) {k : Int} (h0 : 0 ≤ k) (h1 : k ≤ min more (x.hi b - out b)) {out' : Nat → Int} (ho : ∀ i, i < x.n → out' i = if i = b then out b + k else out i) : SomeI x tot out' (more - k) := by
  have hi := h.in_ b hb
  refine ⟨fun i hi' => ?_, by omega, ?_⟩
  · rw [ho i hi']
    by_cases e : i = b
    · subst e; rw [if_pos rfl]; omega
    · rw [if_neg e]; exact h.in_ i hi'
  · rw [sumN_congr ho, sumN_set out _ hb]
    have := h.sum_
    omega
/-- The spots from so many rounds on are full, or all have been given. -/
def FullT (x : Prk) (r : Nat) (k : Nat) (out : Nat → Int) (more : Int) : Prop := more = 0 ∨ ∀ t, x.n ≤ t → t < k → out ((t + r) % x.n) = x.hi ((t + r) % x.n)
theorem FullT.start (x : Prk) (r : Nat) {k : Nat} (hk : k ≤ x.n) (out : Nat → Int) (more : Int) : FullT x r k out more := .inr fun t h1 h2 => by omega
theorem FullT.step (h : SomeI x tot out more) {r k : Nat} (hf : FullT x r k out more) (hn : 0 < x.n) {out' : Nat → Int} (ho : ∀ i, i < x.n → out' i = if i = (k + r) % x.n then out ((k + r) % x.n) + min more (x.hi ((k + r) % x.n) - out ((k + r) % x.n)) else out i) :
    FullT x r (k + 1) out' (more - min more (x.hi ((k + r) % x.n) - out ((k + r) % x.n))) := by
  have hb : (k + r) % x.n < x.n := Nat.mod_lt _ hn
  have hi := h.in_ _ hb
  have hm := h.more0
  rcases hf with hf | hf
  · left; omega
  · by_cases h0 : more ≤ x.hi ((k + r) % x.n) - out ((k + r) % x.n)
    · left; omega
    · right
      intro t ht1 ht2
      have htn : (t + r) % x.n < x.n := Nat.mod_lt _ hn
      rw [ho _ htn]
      by_cases e : (t + r) % x.n = (k + r) % x.n
      · rw [if_pos e, e]; omega
      · rw [if_neg e]
        rcases Nat.lt_succ_iff_lt_or_eq.1 ht2 with h3 | rfl
        · exact hf t ht1 h3
        · exact absurd rfl e
theorem FullT.done (h : SomeI x tot out more) {r : Nat} (hn : 0 < x.n) (hf : FullT x r (2 * x.n) out more) (ht : tot ≤ sumN x.hi x.n) : more = 0 := by
  rcases hf with hf | hf
  · exact hf
  · have hall : ∀ i, i < x.n → out i = x.hi i := fun i hi => by
      have key : ∃ t, x.n ≤ t ∧ t < 2 * x.n ∧ (t + r) % x.n = i := by
        have hr : r % x.n < x.n := Nat.mod_lt _ hn
        have e0 : r = x.n * (r / x.n) + r % x.n := (Nat.div_add_mod r x.n).symm
        by_cases h1 : r % x.n ≤ i
        · refine ⟨x.n + (i - r % x.n), by omega, by omega, ?_⟩
          have : x.n + (i - r % x.n) + r = i + x.n * (r / x.n + 1) := by rw [Nat.mul_add]; omega
          rw [this, Nat.add_mul_mod_self_left, Nat.mod_eq_of_lt hi]
        · refine ⟨x.n + (x.n + i - r % x.n), by omega, by omega, ?_⟩
          have : x.n + (x.n + i - r % x.n) + r = i + x.n * (r / x.n + 2) := by rw [Nat.mul_add]; omega
          rw [this, Nat.add_mul_mod_self_left, Nat.mod_eq_of_lt hi]
      obtain ⟨t, h1, h2, h3⟩ := key
      have := hf t h1 h2
      rwa [h3] at this
    have h1 := h.sum_
    rw [sumN_congr (g := x.hi) hall] at h1
    have := h.more0
    omega
/-- How many more people there are. -/
theorem some_tot (hx : PrkOk x) {r : Int} (hr : 0 ≤ r) :
    0 < min x.ahi (sumN x.hi x.n) - sumN x.lo x.n - max 0 (x.alo - sumN x.lo x.n) + 1 ∧
    0 ≤ max 0 (x.alo - sumN x.lo x.n) + r % (min x.ahi (sumN x.hi x.n) - sumN x.lo x.n - max 0 (x.alo - sumN x.lo x.n) + 1) ∧
    x.alo ≤ sumN x.lo x.n + (max 0 (x.alo - sumN x.lo x.n) + r % (min x.ahi (sumN x.hi x.n) - sumN x.lo x.n - max 0 (x.alo - sumN x.lo x.n) + 1)) ∧
    sumN x.lo x.n + (max 0 (x.alo - sumN x.lo x.n) + r % (min x.ahi (sumN x.hi x.n) - sumN x.lo x.n - max 0 (x.alo - sumN x.lo x.n) + 1)) ≤ x.ahi ∧
    sumN x.lo x.n + (max 0 (x.alo - sumN x.lo x.n) + r % (min x.ahi (sumN x.hi x.n) - sumN x.lo x.n - max 0 (x.alo - sumN x.lo x.n) + 1)) ≤ sumN x.hi x.n := by
  have h1 := hx.most
  have h2 := hx.least
  have h3 := hx.all
  have h4 : sumN x.lo x.n ≤ sumN x.hi x.n := sumN_le fun i hi => (hx.peo i hi).2.1
  generalize sumN x.lo x.n = a at *
  generalize sumN x.hi x.n = b at *
  have h5 : 0 < min x.ahi b - a - max 0 (x.alo - a) + 1 := by omega
  generalize hD : min x.ahi b - a - max 0 (x.alo - a) + 1 = D at *
  have h6 := Int.emod_nonneg r (show D ≠ 0 by omega)
  have h7 := Int.emod_lt_of_pos r h5
  omega
theorem SomeI.start (hx : PrkOk x) {more : Int} (hm : 0 ≤ more) : SomeI x (sumN x.lo x.n + more) x.lo more := ⟨fun i hi => ⟨Int.le_refl _, (hx.peo i hi).2.1⟩, hm, rfl⟩
theorem SomeI.possible (h : SomeI x tot out 0) (h1 : x.alo ≤ tot) (h2 : tot ≤ x.ahi) : Possible x out := ⟨h.in_, by have := h.sum_; omega, by have := h.sum_; omega⟩
end
/-! Numbers by bits. -/
theorem bit_div (S i : Nat) : (S / 2 ^ i) % 2 = if S.testBit i then 1 else 0 := by
  rw [Nat.testBit_eq_decide_div_mod_eq]
  have := Nat.mod_lt (S / 2 ^ i) (show 0 < 2 by decide)
  split
  · rename_i h; simpa using h
  · rename_i h; simp at h; exact h
theorem bitsOf_sum (p : Nat → Bool) (k : Nat) : bitsOf p (k + 1) = bitsOf p k + if p k then 2 ^ k else 0 := by
  have h := bitsOf_lt p k
  have e : bitsOf p (k + 1) = bitsOf p k ||| (if p k then 2 ^ k else 0) := rfl
  rw [e]
  generalize bitsOf p k = b at *
  split
  · have := Nat.two_pow_add_eq_or_of_lt h 1
    rw [Nat.mul_one] at this
    rw [Nat.or_comm, ← this]
    omega
  · simp
theorem lt_bits {S n : Nat} (h : S < 2 ^ n) : S = bitsOf (fun i => S.testBit i) n := Nat.eq_of_testBit_eq fun i => by
  rw [bitsOf_bit]
  by_cases hi : i < n
  · simp [hi]
  · have : S.testBit i = false := Nat.testBit_lt_two_pow (Nat.lt_of_lt_of_le h (Nat.pow_le_pow_right (by decide) (by omega)))
    simp [this]
end Go.Proofs.Ytfebhofihioaoaa
