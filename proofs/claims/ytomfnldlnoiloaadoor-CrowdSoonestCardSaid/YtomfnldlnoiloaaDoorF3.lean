/- Is a visit more than a statement looks at? If not, it is small. -/
import Derived.Test.YtomfnldlnoiloaaDoorS9
namespace Go.Proofs.YtomfnldlnoiloaaDoor
set_option linter.unusedVariables false
set_option linter.unusedSimpArgs false
open Go Go.RowKit

/-- An ending with a Bool; if it is false, P. -/
def RetFew (P : Prop) (w : World) (e : Ending) (w' : World) : Prop := ∃ b : Bool, e = .returned (.bool b) ∧ (b = false → P) ∧ Below w.heap.size w w'
set_option maxRecDepth 100000 in
set_option maxHeartbeats 4000000 in
theorem great12 (v : Vis) (A1 A2 A3 : Option Addr) (q1 q2 q3 : Nat) (w : World) (hb : v.rm.length + v.tr.length + v.ar.length ≤ 1000000000000000) :
    Calls Tryd.prog 12 #[visV v A1 A2 A3 q1 q2 q3] w (RetFew (v.rm.length + v.tr.length + v.ar.length ≤ 40) w) := by
  have HXc := Box.new w [.slice A1 v.rm.length q1, .slice A2 v.tr.length q2, .slice A3 v.ar.length q3] 26
  have hB := below1 w (.cells #[.slice A1 v.rm.length q1, .slice A2 v.tr.length q2, .slice A3 v.ar.length q3] 26)
  obtain ⟨m0, _⟩ := HXc.at_ 0 _ rfl
  obtain ⟨m1, _⟩ := HXc.at_ 1 _ rfl
  obtain ⟨m2, _⟩ := HXc.at_ 2 _ rfl
  have hw1 : IntKind.i64.wrap ((v.rm.length : Int) + (v.tr.length : Int)) = (v.rm.length : Int) + (v.tr.length : Int) := IntWalk.i64_in _ (by omega)
  have hw2 : IntKind.i64.wrap ((v.rm.length : Int) + (v.tr.length : Int) + (v.ar.length : Int)) = (v.rm.length : Int) + (v.tr.length : Int) + (v.ar.length : Int) := IntWalk.i64_in _ (by omega)
  clear HXc
  go_enter Tryd.func12, Tryd.ntmps12
  go_wp2_with (fail)
  all_goals (go_ret; refine ⟨_, rfl, fun h => ?_, hB⟩; first | (cases h; done) | (simp at h; omega))
end Go.Proofs.YtomfnldlnoiloaaDoor
