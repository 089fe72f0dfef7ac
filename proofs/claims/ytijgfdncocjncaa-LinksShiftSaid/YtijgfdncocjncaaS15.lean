/- Lacking, of the program. -/
import Derived.Test.YtijgfdncocjncaaS14
import Derived.Laws.Bits128
namespace Go.Proofs.Ytijgfdncocjncaa
set_option linter.unusedVariables false
set_option linter.unusedSimpArgs false
open Go Go.RowKit

theorem and127 (z : Int) : ∃ k : Nat, k ≤ 127 ∧ Go.bits .and .i64 z 127 = (k : Int) := by
  rw [i64_and127]
  exact ⟨(z % 128).toNat, by omega, by omega⟩
theorem ret127 {e : Ending} {z : Int} (h : e = .returned (I (Go.bits .and .i64 z 127))) : ∃ k : Nat, k ≤ 127 ∧ e = .returned (I k) := by
  obtain ⟨k, h1, h2⟩ := and127 z
  exact ⟨k, h1, by rw [h, h2]⟩
set_option maxRecDepth 100000 in
set_option maxHeartbeats 2000000 in
theorem ones34 (n : Nat) (hn : n < 18446744073709551616) (w : World) : Calls Try.prog 34 #[U64 n] w fun e w' => (∃ k : Nat, k ≤ 127 ∧ e = .returned (I k)) ∧ w = w' := by
  go_enter Try.func34, Try.ntmps34
  go_wp2_with (fail)
  go_ret
  exact ⟨ret127 rfl, rfl⟩
end Go.Proofs.Ytijgfdncocjncaa
