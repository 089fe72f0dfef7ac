/- Ranger, plain: sums; the most steps that can be paid. -/
namespace Go.Proofs.Ytfebhofihioaoaa
set_option linter.unusedVariables false
set_option linter.unusedSimpArgs false

def sumN (f : Nat → Int) : Nat → Int
  | 0 => 0
  | n + 1 => sumN f n + f n
theorem sumN_congr {f g : Nat → Int} : ∀ {n : Nat}, (∀ i, i < n → f i = g i) → sumN f n = sumN g n
  | 0, _ => rfl
  | n + 1, h => by
    simp only [sumN]
    rw [sumN_congr (n := n) fun i hi => h i (by omega), h n (by omega)]
theorem sumN_le {f g : Nat → Int} : ∀ {n : Nat}, (∀ i, i < n → f i ≤ g i) → sumN f n ≤ sumN g n
  | 0, _ => Int.le_refl _
  | n + 1, h => by
    simp only [sumN]
    have h1 := sumN_le (n := n) fun i hi => h i (by omega)
    have h2 := h n (by omega)
    omega
theorem sumN_add (f g : Nat → Int) : ∀ n : Nat, sumN (fun i => f i + g i) n = sumN f n + sumN g n
  | 0 => rfl
  | n + 1 => by simp only [sumN, sumN_add f g n]; omega
theorem sumN_sub (f g : Nat → Int) : ∀ n : Nat, sumN (fun i => f i - g i) n = sumN f n - sumN g n
  | 0 => rfl
  | n + 1 => by simp only [sumN, sumN_sub f g n]; omega
theorem sumN_mul (M : Int) (f : Nat → Int) : ∀ n : Nat, sumN (fun i => f i * M) n = sumN f n * M
  | 0 => by simp [sumN]
  | n + 1 => by simp only [sumN, sumN_mul M f n, Int.add_mul]
theorem sumN_zero : ∀ n : Nat, sumN (fun _ => 0) n = 0
  | 0 => rfl
  | n + 1 => by simp only [sumN, sumN_zero n]; omega
theorem sumN_nonneg {f : Nat → Int} {n : Nat} (h : ∀ i, i < n → 0 ≤ f i) : 0 ≤ sumN f n := by
  have := sumN_le (f := fun _ => 0) (g := f) (n := n) h
  rwa [sumN_zero] at this
theorem sumN_mem {f : Nat → Int} : ∀ {n : Nat}, (∀ i, i < n → 0 ≤ f i) → ∀ i, i < n → f i ≤ sumN f n
  | n + 1, h, i, hi => by
    simp only [sumN]
    have h0 := sumN_nonneg (f := f) (n := n) fun j hj => h j (by omega)
    rcases Nat.lt_succ_iff_lt_or_eq.1 hi with h1 | rfl
    · have := sumN_mem (n := n) (fun j hj => h j (by omega)) i h1
      have := h n (by omega)
      omega
    · omega
/-- One place is set anew. -/
theorem sumN_set (f : Nat → Int) {k : Nat} (v : Int) : ∀ {n : Nat}, k < n → sumN (fun i => if i = k then v else f i) n = sumN f n - f k + v
  | n + 1, h => by
    simp only [sumN]
    rcases Nat.lt_succ_iff_lt_or_eq.1 h with h1 | rfl
    · rw [sumN_set f v h1, if_neg (by omega)]; omega
    · rw [if_pos rfl, sumN_congr (g := f) fun i hi => if_neg (by omega)]; omega
theorem sumN_far (f : Nat → Int) {k : Nat} (v : Int) {n : Nat} (h : n ≤ k) : sumN (fun i => if i = k then v else f i) n = sumN f n := sumN_congr fun i hi => if_neg (by omega)
/-- The least of some. -/
theorem least_of {P : Nat → Prop} (g : Nat → Int) : ∀ n : Nat, (∃ i, i < n ∧ P i) → ∃ i, i < n ∧ P i ∧ ∀ j, j < n → P j → g i ≤ g j
  | 0, ⟨i, h, _⟩ => by omega
  | n + 1, ⟨i, hi, hp⟩ => by
    by_cases h : ∃ i, i < n ∧ P i
    · obtain ⟨i0, h0, h1, h2⟩ := least_of g n h
      by_cases h3 : P n ∧ g n < g i0
      · refine ⟨n, by omega, h3.1, fun j hj hpj => ?_⟩
        rcases Nat.lt_succ_iff_lt_or_eq.1 hj with h4 | rfl
        · have := h2 j h4 hpj; omega
        · omega
      · refine ⟨i0, by omega, h1, fun j hj hpj => ?_⟩
        rcases Nat.lt_succ_iff_lt_or_eq.1 hj with h4 | rfl
        · exact h2 j h4 hpj
        · have : ¬ g j < g i0 := fun h => h3 ⟨hpj, h⟩
          omega
    · obtain rfl : i = n := by
        rcases Nat.lt_succ_iff_lt_or_eq.1 hi with h1 | h1
        · exact absurd ⟨i, h1, hp⟩ h
        · exact h1
      refine ⟨i, by omega, hp, fun j hj hpj => ?_⟩
      rcases Nat.lt_succ_iff_lt_or_eq.1 hj with h4 | rfl
      · exact absurd ⟨j, h4, hpj⟩ h
      · omega

/-- Steps of rising size at some places, taken so that none left is smaller than one taken, and none left can be paid: nobody pays for more. -/
theorem stable_max {N : Nat} {cost step : Nat → Int → Int} {cap e f : Nat → Int} {left : Int} (h0 : 0 ≤ left)
    (hlo : ∀ i, i < N → ∀ a b : Int, 0 ≤ a → a ≤ b → (b - a) * step i (a + 1) ≤ cost i b - cost i a)
    (hhi : ∀ i, i < N → ∀ a b : Int, 0 ≤ a → a ≤ b → cost i b - cost i a ≤ (b - a) * step i b)
    (he : ∀ i, i < N → 0 ≤ e i) (hst : ∀ i j, i < N → j < N → e i < cap i → 0 < e j → step j (e j) ≤ step i (e i + 1)) (hl : ∀ i, i < N → e i < cap i → left < step i (e i + 1))
    (hf : ∀ i, i < N → 0 ≤ f i ∧ f i ≤ cap i) (hc : sumN (fun i => cost i (f i)) N ≤ sumN (fun i => cost i (e i)) N + left) : sumN f N ≤ sumN e N := by
  rcases Int.lt_or_le (sumN e N) (sumN f N) with hlt | hle
  · exfalso
    have hex : ∃ i, i < N ∧ e i < f i := by
      refine Classical.byContradiction fun hno => ?_
      have : sumN f N ≤ sumN e N := sumN_le fun i hi => by
        rcases Int.lt_or_le (e i) (f i) with h | h
        · exact absurd ⟨i, hi, h⟩ hno
        · exact h
      omega
    obtain ⟨p, hp, hpe, hmin⟩ := least_of (P := fun i => e i < f i) (fun i => step i (e i + 1)) N hex
    have hcap : e p < cap p := by have := (hf p hp).2; omega
    have hM := hl p hp hcap
    have key : sumN (fun i => (f i - e i) * step p (e p + 1)) N ≤ sumN (fun i => cost i (f i) - cost i (e i)) N := sumN_le fun i hi => by
      rcases Int.lt_or_le (e i) (f i) with h | h
      · have h1 := hlo i hi (e i) (f i) (he i hi) (by omega)
        have h2 := hmin i hi h
        have h3 := Int.mul_le_mul_of_nonneg_left h2 (show 0 ≤ f i - e i by omega)
        omega
      · rcases Int.lt_or_le (f i) (e i) with h4 | h4
        · have h1 := hhi i hi (f i) (e i) (hf i hi).1 h
          have h2 := hst p i hp hi hcap (by have := (hf i hi).1; omega)
          have h3 := Int.mul_le_mul_of_nonneg_left h2 (show 0 ≤ e i - f i by omega)
          have e1 : (f i - e i) * step p (e p + 1) = -((e i - f i) * step p (e p + 1)) := by rw [← Int.neg_mul]; congr 1; omega
          omega
        · obtain e1 : f i = e i := by omega
          rw [e1]; simp
    rw [sumN_mul, sumN_sub, sumN_sub] at key
    have h5 : step p (e p + 1) ≤ (sumN f N - sumN e N) * step p (e p + 1) := by
      have := Int.mul_le_mul_of_nonneg_right (show (1 : Int) ≤ sumN f N - sumN e N by omega) (show 0 ≤ step p (e p + 1) by omega)
      simpa using this
    omega
  · exact hle
end Go.Proofs.Ytfebhofihioaoaa
