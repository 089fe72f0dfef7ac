/- The plain mathematics of chapter 6. -/
import Derived.Below
namespace Go.Proofs.Ytilmlgngnbokfaa
set_option linter.unusedVariables false
set_option linter.unusedSimpArgs false

/-- The numbers x, x + step, .. below bound. -/
def ups (step bound : Int) : Nat → Int → List Int
  | 0, _ => []
  | n + 1, x => if x < bound then x :: ups step bound n (x + step) else []
theorem ups_done {step bound : Int} {x : Int} (h : ¬ x < bound) : ∀ n, ups step bound n x = []
  | 0 => rfl
  | n + 1 => by simp [ups, h]
theorem ups_fuel {step bound : Int} (hs : 1 ≤ step) : ∀ (n m : Nat) (x : Int), (bound - x).toNat ≤ n → (bound - x).toNat ≤ m → ups step bound n x = ups step bound m x := by
  intro n
  induction n with
  | zero => intro m x h _; rw [ups_done (by omega), ups_done (by omega)]
  | succ n ih =>
    intro m x h h'
    cases m with
    | zero => rw [ups_done (by omega), ups_done (by omega)]
    | succ m =>
      by_cases hx : x < bound
      · simp only [ups, if_pos hx]
        rw [ih m (x + step) (by omega) (by omega)]
      · rw [ups_done hx, ups_done hx]
/-- The numbers x, x + step, .. below bound (step is at least 1). -/
def upsF (step bound x : Int) : List Int := ups step bound (bound - x).toNat x
theorem upsF_nil {step bound x : Int} (h : ¬ x < bound) : upsF step bound x = [] := ups_done h _
theorem upsF_cons {step bound x : Int} (hs : 1 ≤ step) (h : x < bound) : upsF step bound x = x :: upsF step bound (x + step) := by
  unfold upsF
  obtain ⟨k, hk⟩ : ∃ k, (bound - x).toNat = k + 1 := ⟨(bound - x).toNat - 1, by omega⟩
  rw [hk]
  simp only [ups, if_pos h]
  rw [ups_fuel hs k _ (x + step) (by omega) (Nat.le_refl _)]
theorem upsF_length {step bound : Int} (hs : 1 ≤ step) (x : Int) : (upsF step bound x).length ≤ (bound - x).toNat := by
  unfold upsF
  generalize (bound - x).toNat = n
  induction n generalizing x with
  | zero => simp [ups]
  | succ n ih => simp only [ups]; split <;> simp; exact ih _
theorem mem_upsF {step bound : Int} (hs : 1 ≤ step) {x y : Int} (h : y ∈ upsF step bound x) : x ≤ y ∧ y < bound := by
  unfold upsF at h
  generalize (bound - x).toNat = n at h
  induction n generalizing x with
  | zero => simp [ups] at h
  | succ n ih =>
    simp only [ups] at h
    split at h
    · rcases List.mem_cons.1 h with rfl | h
      · omega
      · have := ih h; omega
    · simp at h

theorem mul_bd {a b A B : Int} (ha : 0 ≤ a) (hA : a ≤ A) (hb : 0 ≤ b) (hB : b ≤ B) : 0 ≤ a * b ∧ a * b ≤ A * B :=
  ⟨Int.mul_nonneg ha hb, Int.mul_le_mul hA hB hb (by omega)⟩

/-- What the program's iterator yields: a fraction for each person. -/
def standR (l r wt ap off : Int) : List (Int × Int) :=
  (upsF ap (max 1 l) off).map (fun x => (wt * (max 1 l - x), max 1 l)) ++ (upsF ap r (ap - off)).map (fun x => (wt * (r - x), r))
end Go.Proofs.Ytilmlgngnbokfaa
