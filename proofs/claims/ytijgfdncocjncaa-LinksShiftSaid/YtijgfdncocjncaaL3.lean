/- Links, plain: the document's example. -/
import Derived.Test.YtijgfdncocjncaaL2
namespace Go.Proofs.Ytijgfdncocjncaa
set_option linter.unusedVariables false
set_option linter.unusedSimpArgs false
open Go Go.RowKit

def smpH : List (Int × Int × Int × Int) := [(50, 60, 5, 8), (1, 0, 10, 15), (100, 120, 0, 3)]
def smp : Wat := ⟨smpH, [(0, 10), (1, 22), (2, 40), (0, 65), (1, 78), (0, 120), (1, 131), (2, 150), (0, 173), (1, 186)], 200⟩
def smp2 : Wat := ⟨smpH, [(0, 10), (1, 22), (2, 40), (0, 65), (0, 120), (1, 131), (2, 150), (0, 173), (1, 186)], 200⟩
instance (x : Wat) (k : Nat) : Decidable (HabOk x k) := decidable_of_iff ((x.ol k ≤ x.oh k → 0 ≤ x.ol k ∧ x.oh k ≤ 1048576) ∧ (0 ≤ x.dl k ∧ x.dl k ≤ x.dh k ∧ x.dh k ≤ 1048576)) ⟨fun h => ⟨h.1, h.2⟩, fun h => ⟨h.own, h.del⟩⟩
instance (x : Wat) (i : Nat) : Decidable (EruOk x i) := decidable_of_iff ((0 ≤ x.sp i ∧ x.sp i ≤ (x.n : Int) - 1) ∧ (0 ≤ x.tm i ∧ x.tm i ≤ x.en) ∧ (0 < i → x.tm (i - 1) ≤ x.tm i) ∧ ∀ k, k < i → ¬ (x.sp k = x.sp i ∧ x.tm k = x.tm i)) ⟨fun h => ⟨h.1, h.2.1, h.2.2.1, h.2.2.2⟩, fun h => ⟨h.sp, h.tm, h.mono, h.dist⟩⟩
instance (x : Wat) : Decidable (WatOk x) := decidable_of_iff (x.n ≤ 6 ∧ x.m ≤ 64 ∧ (0 ≤ x.en ∧ x.en ≤ 1048576) ∧ (∀ k, k < x.n → HabOk x k) ∧ ∀ i, i < x.m → EruOk x i) ⟨fun h => ⟨h.1, h.2.1, h.2.2.1, h.2.2.2.1, h.2.2.2.2⟩, fun h => ⟨h.n6, h.m64, h.en, h.hab, h.eru⟩⟩
set_option maxRecDepth 100000 in
theorem smp_ok : watB smp = true := watB_iff.2 (of_decide_eq_true (by kernel_rfl))
set_option maxRecDepth 100000 in
theorem smp2_ok : watB smp2 = true := watB_iff.2 (of_decide_eq_true (by kernel_rfl))
set_option maxRecDepth 100000 in
theorem smp_h1 : hldR smp 1 0 = (false, 1, 0) := by
  unfold hldR
  rw [smp_ok]
  exact of_decide_eq_true (by kernel_rfl)
set_option maxRecDepth 100000 in
theorem smp_h2 : hldR smp 0 1 = (true, -1, 0) := by
  unfold hldR
  rw [smp_ok]
  exact of_decide_eq_true (by kernel_rfl)
set_option maxRecDepth 100000 in
theorem smp_f : fewR smp = ([(0, 1)], 0) := by
  unfold fewR
  rw [smp_ok, show fewTo smp smp.n = some [(0, 1)] from of_decide_eq_true (by kernel_rfl)]
  rfl
set_option maxRecDepth 100000 in
theorem smp_n : nedR smp = ([(0, 1)], 0) := by
  unfold nedR
  rw [smp_ok, show nedTo smp smp.n = some [(0, 1)] from of_decide_eq_true (by kernel_rfl)]
  rfl
set_option maxRecDepth 100000 in
theorem smp2_l : lckR smp2 = ([5, 8], 0) := by
  unfold lckR
  rw [smp2_ok, show lckTo smp2 smp2.m = [5, 8] from of_decide_eq_true (by kernel_rfl)]
  rfl
end Go.Proofs.Ytijgfdncocjncaa
