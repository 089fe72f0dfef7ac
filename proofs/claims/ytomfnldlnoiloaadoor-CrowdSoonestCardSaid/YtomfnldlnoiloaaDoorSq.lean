/- Two knots, compared. -/
import Derived.Test.YtomfnldlnoiloaaDoorS6
import Derived.Laws.StructEq
namespace Go.Proofs.YtomfnldlnoiloaaDoor
set_option linter.unusedVariables false
set_option linter.unusedSimpArgs false
open Go Go.RowKit Go.Maps

theorem eql_kn (a b c a' b' c' : Int) (W : World) : (binOp .eql 89 (kn a b c) (kn a' b' c')).run Tryd.prog W = .ok (.bool (decide (a = a' ∧ b = b' ∧ c = c'))) W := by
  simp [go_sem]
  by_cases h1 : a = a'
  · by_cases h2 : b = b'
    · by_cases h3 : c = c' <;> simp [h1, h2, h3]
    · simp [h1, h2]
  · simp [h1]
theorem neq_kn (a b c a' b' c' : Int) (W : World) : (binOp .neq 89 (kn a b c) (kn a' b' c')).run Tryd.prog W = .ok (.bool (!decide (a = a' ∧ b = b' ∧ c = c'))) W := by
  simp [go_sem]
  by_cases h1 : a = a'
  · by_cases h2 : b = b'
    · by_cases h3 : c = c' <;> simp [h1, h2, h3]
    · simp [h1, h2]
  · simp [h1]
end Go.Proofs.YtomfnldlnoiloaaDoor
