/- Small functions: spans, needs of one spot, bits. -/
import Derived.Test.YtfebhofihioaoaaU
import Derived.Test.YtfebhofihioaoaaA1
namespace Go.Proofs.Ytfebhofihioaoaa
set_option linter.unusedVariables false
set_option linter.unusedSimpArgs false
open Go Go.RowKit

theorem within30 (n lo hi : Int) (w : World) : Calls Try.prog 30 #[I n, I lo, I hi] w fun e w' => e = .returned (.bool (inB n lo hi)) ∧ w = w' := by
  unfold inB
  cases h1 : decide (lo ≤ n) <;> cases h2 : decide (n ≤ hi)
  all_goals
    go_enter Try.func30, Try.ntmps30
    go_wp2
    go_ret
    exact ⟨rfl, rfl⟩
theorem in32 (n lo hi : Int) (w : World) : Calls Try.prog 32 #[I n, I lo, I hi] w fun e w' => e = .returned (.bool (inB n lo hi)) ∧ w = w' := by
  unfold inB
  cases h1 : decide (lo ≤ n) <;> cases h2 : decide (n ≤ hi)
  all_goals
    go_enter Try.func32, Try.ntmps32
    go_wp2
    go_ret
    exact ⟨rfl, rfl⟩
def spB (a b most : Int) : Bool := decide (0 ≤ a) && decide (a ≤ b) && decide (b ≤ most)
theorem spB_true {a b most : Int} : spB a b most = true ↔ 0 ≤ a ∧ a ≤ b ∧ b ≤ most := by simp [spB, and_assoc]
theorem isSpan46 (a b most : Int) (w : World) : Calls Try.prog 46 #[.agg #[I a, I b], I most] w fun e w' => e = .returned (.bool (spB a b most)) ∧ Below w.heap.size w w' := by
  unfold spB
  cases h1 : decide (0 ≤ a) <;> cases h2 : decide (a ≤ b) <;> cases h3 : decide (b ≤ most)
  all_goals
    go_enter Try.func46, Try.ntmps46
    go_wp2
    go_ret
    exact ⟨rfl, below1 _ _⟩
theorem span41 (a b most : Int) (w : World) : Calls Try.prog 41 #[.agg #[I a, I b], I most] w fun e w' => e = .returned (.bool (spB a b most)) ∧ Below w.heap.size w w' := by
  unfold spB
  cases h1 : decide (0 ≤ a) <;> cases h2 : decide (a ≤ b) <;> cases h3 : decide (b ≤ most)
  all_goals
    go_enter Try.func41, Try.ntmps41
    go_wp2
    go_ret
    exact ⟨rfl, below1 _ _⟩
theorem need38 (lo hi ho ne p : Int) (w : World) (h1 : 1 ≤ ho) (h2 : ho ≤ 1048576) (h3 : 0 ≤ p) (h4 : p ≤ 1073741824) : Calls Try.prog 38 #[.agg #[I lo, I hi, I ho, I ne], I p] w fun e w' => e = .returned (I (need1 ho p)) ∧ Below w.heap.size w w' := by
  have HN : Hid ((p + ho - 1) / ho = need1 ho p) := Lib.hid rfl
  go_enter Try.func38, Try.ntmps38
  go_wp2
  go_ret
  exact ⟨ret_int HN.out, below1 _ _⟩
theorem of25 (lo hi ho ne p : Int) (w : World) (h1 : 1 ≤ ho) (h2 : ho ≤ 1048576) (h3 : 0 ≤ p) (h4 : p ≤ 1073741824) : Calls Try.prog 25 #[.agg #[I lo, I hi, I ho, I ne], I p] w fun e w' => e = .returned (I (need1 ho p)) ∧ Below w.heap.size w w' := by
  have HN : Hid ((p + ho - 1) / ho = need1 ho p) := Lib.hid rfl
  go_enter Try.func25, Try.ntmps25
  go_wp2
  go_ret
  exact ⟨ret_int HN.out, below1 _ _⟩
theorem div_two (S k : Nat) : ((S / 2 ^ k : Nat) : Int) / 2 = ((S / 2 ^ (k + 1) : Nat) : Int) := by
  rw [Nat.pow_succ, ← Nat.div_div_eq_div_mul]
  rfl
theorem bit24 (S i : Nat) (w : World) (hS : S < 9223372036854775807) (hi : i < 1000) : Calls Try.prog 24 #[I S, I i] w fun e w' => e = .returned (.bool (S.testBit i)) ∧ w = w' := by
  have HB : Hid (decide (S / 2 ^ i % 2 = 1) = S.testBit i) := Lib.hid (by rw [Nat.testBit_eq_decide_div_mod_eq])
  generalize S.testBit i = b at *
  have HQ : Hid (∀ k, S / 2 ^ k ≤ S) := Lib.hid fun k => Nat.div_le_self _ _
  go_enter Try.func24, Try.ntmps24
  go_wp2_with (fail)
  go_loop [0, 5] (fun s0 s5 => ∃ k : Nat, k ≤ i ∧ s5 = I k ∧ s0 = I ((S / 2 ^ k : Nat) : Int)) (fun _ s => i - (intOf s).toNat)
  case atStart => exact ⟨0, Nat.zero_le _, rfl, by simp⟩
  case round =>
    obtain ⟨k, hk, rfl, rfl⟩ := hrel
    have hq := HQ.out k
    by_cases hlt : k < i
    · have HD := Lib.hid (div_two S k)
      generalize S / 2 ^ k = q at *
      have p0 : (0 : Int) ≤ (q : Int) := by omega
      go_wp2
      go_round
      case rel => exact ⟨k + 1, by omega, by go_num, by rw [HD.out]⟩
      case measure => simp [intOf]; omega
    · obtain rfl : i = k := by omega
      generalize S / 2 ^ i = q at *
      have p0 : (0 : Int) ≤ (q : Int) := by omega
      have HE : Hid ((((q : Int) % 2) == 1) = decide (q % 2 = 1)) := Lib.hid (by
        rw [Bool.eq_iff_iff]; simp; omega)
      go_wp2
      go_ret
      exact ⟨ret_b (by rw [← HB.out, ← HE.out]), rfl⟩
theorem and_one0 : ∀ a : Fin 64, Go.bits BinOp.and IntKind.i64 ((a.1 : Nat) : Int) 1 = ((a.1 % 2 : Nat) : Int) := by decide +kernel
theorem and_one {q : Nat} (h : q < 64) : Go.bits BinOp.and IntKind.i64 (q : Int) 1 = ((q % 2 : Nat) : Int) := and_one0 ⟨q, h⟩
theorem or_two0 : ∀ a b : Fin 64, Go.bits BinOp.or IntKind.i64 ((a.1 : Nat) : Int) ((b.1 : Nat) : Int) = ((a.1 ||| b.1 : Nat) : Int) := by decide +kernel
theorem or_two {a b : Nat} (h : a < 64) (h' : b < 64) : Go.bits BinOp.or IntKind.i64 (a : Int) (b : Int) = ((a ||| b : Nat) : Int) := or_two0 ⟨a, h⟩ ⟨b, h'⟩
def cntTo (S : Nat) : Nat → Nat
  | 0 => 0
  | k + 1 => cntTo S k + if S.testBit k then 1 else 0
theorem cnt_eq (S : Nat) : cntTo S 6 = countN S := by
  have key : ∀ k, ((List.range k).filter fun i => S.testBit i).length = cntTo S k := fun k => by
    induction k with
    | zero => rfl
    | succ k ih =>
      rw [List.range_succ, List.filter_append, List.length_append, ih]
      simp only [cntTo, List.filter_cons, List.filter_nil]
      by_cases h : S.testBit k = true <;> simp [h]
  rw [← key]; rfl
theorem cntTo_le (S : Nat) : ∀ k, cntTo S k ≤ k
  | 0 => Nat.le_refl _
  | k + 1 => by
    have := cntTo_le S k
    simp only [cntTo]
    split <;> omega
theorem count49 (S : Nat) (w : World) (hS : S < 64) : Calls Try.prog 49 #[I S] w fun e w' => e = .returned (I (countN S)) ∧ w = w' := by
  have HC := Lib.hid (cnt_eq S)
  go_enter Try.func49, Try.ntmps49
  go_wp2_with (fail)
  go_loop [2, 4] (fun s2 s4 => ∃ k : Nat, k ≤ 6 ∧ s4 = I k ∧ s2 = I (cntTo S k)) (fun _ s => 6 - (intOf s).toNat)
  case atStart => exact ⟨0, by omega, rfl, rfl⟩
  case round =>
    obtain ⟨k, hk, rfl, rfl⟩ := hrel
    have hc := cntTo_le S k
    by_cases hlt : k < 6
    · have hq : S / 2 ^ k < 64 := Nat.lt_of_le_of_lt (Nat.div_le_self _ _) hS
      have HN : Hid (cntTo S (k + 1) = cntTo S k + S / 2 ^ k % 2) := Lib.hid (by simp only [cntTo]; rw [bit_div])
      have hpow : ((S : Int) / 2 ^ k) = ((S / 2 ^ k : Nat) : Int) := by push_cast; rfl
      have ha := and_one hq
      have p0 : (0 : Int) ≤ (k : Int) := by omega
      have p1 : (k : Int) ≤ 64 := by omega
      generalize cntTo S k = c at *
      generalize S / 2 ^ k = q at *
      have hqm : q % 2 < 2 := Nat.mod_lt _ (by decide)
      obtain ⟨r, hr⟩ : ∃ r, r = q % 2 := ⟨_, rfl⟩
      rw [← hr] at ha HN hqm
      clear hr
      go_wp2
      go_round
      case rel => exact ⟨k + 1, by omega, by go_num, by rw [HN.out]; go_num⟩
      case measure => simp [intOf]; omega
    · obtain rfl : k = 6 := by omega
      go_wp2
      go_ret
      exact ⟨ret_int (by rw [HC.out]), rfl⟩
end Go.Proofs.Ytfebhofihioaoaa
