/- Fractions over a common denominator. -/
import Derived.Test.YtilmlgngnbokfaaM
namespace Go.Proofs.Ytilmlgngnbokfaa
set_option linter.unusedVariables false
set_option linter.unusedSimpArgs false

/-- The greatest common divisor of two numbers that are not below 0. -/
def gcdI (a b : Int) : Int := (Nat.gcd a.toNat b.toNat : Nat)
/-- cmp.Compare at ints. -/
def cmpI (a b : Int) : Int := if a < b then -1 else if b < a then 1 else 0
/-- The sum of two fractions, as the program makes it. -/
def plusR (n d m e : Int) : Int × Int :=
  if n = 0 ∧ d = 1 then (m, e) else if m = 0 ∧ e = 1 then (n, d) else
    ((n * e + m * d) / gcdI (n * e + m * d) (d * e), (d * e) / gcdI (n * e + m * d) (d * e))

theorem gcdI_pos {a b : Int} (hb : 1 ≤ b) : 1 ≤ gcdI a b := by
  have : 0 < Nat.gcd a.toNat b.toNat := Nat.gcd_pos_of_pos_right _ (by omega)
  unfold gcdI; omega
theorem gcdI_nat (a b : Nat) : gcdI a b = (Nat.gcd a b : Nat) := by simp [gcdI]

/-- The fraction a / b is v / C, and b divides C. -/
def Rep (C : Int) (r : Int × Int) (v : Int) : Prop := 0 ≤ r.1 ∧ 1 ≤ r.2 ∧ r.2 ∣ C ∧ r.1 * C = v * r.2

theorem rep_nonneg {C : Int} {r : Int × Int} {v : Int} (hC : 0 < C) (h : Rep C r v) : 0 ≤ v := by
  obtain ⟨h1, h2, _, h4⟩ := h
  have : 0 ≤ v * r.2 := by rw [← h4]; exact Int.mul_nonneg h1 (by omega)
  by_cases hv : 0 ≤ v
  · exact hv
  · exfalso
    have : v * r.2 < 0 := Int.mul_neg_of_neg_of_pos (by omega) (by omega)
    omega

/-- A fraction that is v / C, in lowest terms. -/
theorem low_rep {C n d v : Int} (hn : 0 ≤ n) (hd : 1 ≤ d) (hC : 0 < C) (h : n * C = v * d) :
    Rep C (n / gcdI n d, d / gcdI n d) v := by
  obtain ⟨a, rfl⟩ := Int.eq_ofNat_of_zero_le hn
  obtain ⟨b, rfl⟩ := Int.eq_ofNat_of_zero_le (show 0 ≤ d by omega)
  obtain ⟨c, rfl⟩ := Int.eq_ofNat_of_zero_le (show 0 ≤ C by omega)
  have hv0 : 0 ≤ v := by
    by_cases hv : 0 ≤ v
    · exact hv
    · exfalso
      have h1 : v * (b : Int) < 0 := Int.mul_neg_of_neg_of_pos (by omega) (by omega)
      have h2 : 0 ≤ (a : Int) * c := Int.mul_nonneg (by omega) (by omega)
      omega
  obtain ⟨v, rfl⟩ := Int.eq_ofNat_of_zero_le hv0
  have hN : a * c = v * b := by exact_mod_cast h
  rw [gcdI_nat]
  have hb : 0 < b := by omega
  have hg : 0 < Nat.gcd a b := Nat.gcd_pos_of_pos_right _ hb
  obtain ⟨a', ha'⟩ := Nat.gcd_dvd_left a b
  obtain ⟨b', hb'⟩ := Nat.gcd_dvd_right a b
  have hcop : Nat.Coprime a' b' := by
    have := Nat.coprime_div_gcd_div_gcd (m := a) (n := b) hg
    have e1 : a / Nat.gcd a b = a' := by conv => lhs; arg 1; rw [ha']
                                         rw [Nat.mul_div_cancel_left _ hg]
    have e2 : b / Nat.gcd a b = b' := by conv => lhs; arg 1; rw [hb']
                                         rw [Nat.mul_div_cancel_left _ hg]
    rwa [e1, e2] at this
  have e1 : ((a : Int) / (Nat.gcd a b : Nat)) = (a' : Nat) := by
    have : a / Nat.gcd a b = a' := by conv => lhs; arg 1; rw [ha']
                                      rw [Nat.mul_div_cancel_left _ hg]
    rw [← this]; simp
  have e2 : ((b : Int) / (Nat.gcd a b : Nat)) = (b' : Nat) := by
    have : b / Nat.gcd a b = b' := by conv => lhs; arg 1; rw [hb']
                                      rw [Nat.mul_div_cancel_left _ hg]
    rw [← this]; simp
  have hb1 : 0 < b' := by
    rcases Nat.eq_zero_or_pos b' with h0 | h0
    · rw [h0] at hb'; simp at hb'; omega
    · exact h0
  have hred : a' * c = v * b' := by
    have h1 : Nat.gcd a b * (a' * c) = Nat.gcd a b * (v * b') := by
      rw [← Nat.mul_assoc, ← ha', hN]
      conv => lhs; rw [hb']
      rw [Nat.mul_left_comm]
    exact Nat.eq_of_mul_eq_mul_left hg h1
  have hdvd : b' ∣ c := by
    have : b' ∣ a' * c := ⟨v, by rw [hred, Nat.mul_comm]⟩
    exact hcop.symm.dvd_of_dvd_mul_left this
  rw [e1, e2]
  exact ⟨by simp, by simp; omega, by simpa using Int.natCast_dvd_natCast.2 hdvd, by simp only; exact_mod_cast hred⟩

theorem plus_rep {C n d m e s t : Int} (hC : 0 < C) (h1 : Rep C (n, d) s) (h2 : Rep C (m, e) t) : Rep C (plusR n d m e) (s + t) := by
  have hs := rep_nonneg hC h1
  have ht := rep_nonneg hC h2
  obtain ⟨a1, a2, a3, a4⟩ := h1
  obtain ⟨b1, b2, b3, b4⟩ := h2
  simp only at a1 a2 a3 a4 b1 b2 b3 b4
  unfold plusR
  split
  · rename_i h
    obtain ⟨rfl, rfl⟩ := h
    have : s = 0 := by simp at a4; omega
    subst this
    simp only [Int.zero_add]
    exact ⟨b1, b2, b3, b4⟩
  · split
    · rename_i h
      obtain ⟨rfl, rfl⟩ := h
      have : t = 0 := by simp at b4; omega
      subst this
      simp only [Int.add_zero]
      exact ⟨a1, a2, a3, a4⟩
    · have hpos : 0 < d * e := Int.mul_pos (by omega) (by omega)
      refine low_rep (Int.add_nonneg (Int.mul_nonneg a1 (by omega)) (Int.mul_nonneg b1 (by omega))) (by omega) hC ?_
      have e1 : n * e * C = s * (d * e) := by rw [Int.mul_right_comm, a4, Int.mul_assoc]
      have e2 : m * d * C = t * (d * e) := by rw [Int.mul_right_comm, b4, Int.mul_assoc, Int.mul_comm e d]
      rw [Int.add_mul, Int.add_mul, e1, e2]

/-- What is in lowest terms and is v / C is what one comes to. -/
theorem low_eq {C n d v : Int} (hC : 0 < C) (h : Rep C (n, d) v) : (n / gcdI n d, d / gcdI n d) = (v / gcdI v C, C / gcdI v C) := by
  have hv := rep_nonneg hC h
  obtain ⟨h1, h2, h3, h4⟩ := h
  simp only at h1 h2 h3 h4
  obtain ⟨k, hk⟩ := h3
  have hk0 : 0 < k := by
    by_cases h0 : 0 < k
    · exact h0
    · exfalso
      have : d * k ≤ 0 := Int.mul_nonpos_of_nonneg_of_nonpos (by omega) (by omega)
      omega
  have hvk : v = n * k := by
    have h5 : d * (n * k) = d * v := by rw [hk] at h4; rw [Int.mul_comm d v, ← h4, ← Int.mul_assoc, ← Int.mul_assoc, Int.mul_comm d n]
    exact (Int.eq_of_mul_eq_mul_left (by omega) h5).symm
  obtain ⟨a, rfl⟩ := Int.eq_ofNat_of_zero_le h1
  obtain ⟨b, rfl⟩ := Int.eq_ofNat_of_zero_le (show 0 ≤ d by omega)
  obtain ⟨k, rfl⟩ := Int.eq_ofNat_of_zero_le (show 0 ≤ k by omega)
  rw [hvk, hk]
  rw [show ((a : Int) * k) = ((a * k : Nat) : Int) by simp, show ((b : Int) * k) = ((b * k : Nat) : Int) by simp, gcdI_nat, gcdI_nat, Nat.gcd_mul_right]
  have hkn : 0 < k := by omega
  have e : ∀ x : Nat, ((x * k : Nat) : Int) / ((Nat.gcd a b * k : Nat) : Int) = (x : Int) / (Nat.gcd a b : Nat) := by
    intro x
    rw [← Int.natCast_ediv, ← Int.natCast_ediv, Nat.mul_div_mul_right _ _ hkn]
  rw [e, e]

theorem cmp_rep {C n d m e s t : Int} (hC : 0 < C) (h1 : Rep C (n, d) s) (h2 : Rep C (m, e) t) : cmpI (n * e) (m * d) = cmpI s t := by
  obtain ⟨a1, a2, a3, a4⟩ := h1
  obtain ⟨b1, b2, b3, b4⟩ := h2
  simp only at a1 a2 a3 a4 b1 b2 b3 b4
  have hp : 0 < d * e := Int.mul_pos (by omega) (by omega)
  have e1 : n * e * C = s * (d * e) := by rw [Int.mul_right_comm, a4, Int.mul_assoc]
  have e2 : m * d * C = t * (d * e) := by rw [Int.mul_right_comm, b4, Int.mul_assoc, Int.mul_comm e d]
  have key : ∀ x y p q : Int, x * C = p * (d * e) → y * C = q * (d * e) → (x < y ↔ p < q) := by
    intro x y p q hx hy
    constructor
    · intro h
      have : x * C < y * C := Int.mul_lt_mul_of_pos_right h hC
      rw [hx, hy] at this
      exact Int.lt_of_mul_lt_mul_right this (by omega)
    · intro h
      have : p * (d * e) < q * (d * e) := Int.mul_lt_mul_of_pos_right h hp
      rw [← hx, ← hy] at this
      exact Int.lt_of_mul_lt_mul_right this (by omega)
  unfold cmpI
  simp only [key _ _ _ _ e1 e2, key _ _ _ _ e2 e1]

/-- The bounds that keep the program's numbers small. -/
theorem rep_le {C n d v M : Int} (hC : 0 < C) (h : Rep C (n, d) v) (hv : v ≤ M * C) : n ≤ M * d := by
  obtain ⟨h1, h2, h3, h4⟩ := h
  simp only at h1 h2 h3 h4
  have h5 : n * C ≤ M * d * C := by
    rw [h4]
    have := Int.mul_le_mul_of_nonneg_right hv (show 0 ≤ d by omega)
    rw [Int.mul_right_comm] at this
    exact this
  exact Int.le_of_mul_le_mul_right h5 hC
theorem rep_den_le {C n d v : Int} (hC : 0 < C) (h : Rep C (n, d) v) : d ≤ C := Int.le_of_dvd hC h.2.2.1
end Go.Proofs.Ytilmlgngnbokfaa
