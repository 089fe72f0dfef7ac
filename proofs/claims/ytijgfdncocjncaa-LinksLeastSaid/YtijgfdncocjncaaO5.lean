/- Numbers that come in: of 32, 16 and 8 bits. -/
import Derived.Test.YtijgfdncocjncaaO3
namespace Go.Proofs.Ytijgfdncocjncaa
set_option linter.unusedVariables false
set_option linter.unusedSimpArgs false
open Go Go.ChangeShapes Go.WideShapes Go.ChangeAt Go.RowKit

set_option maxRecDepth 100000 in
theorem open_u32 {H : Type} {enc : TypeId × Value → H} {w : World} {base : Nat} {r : Reach} {b0 : Nat} {v : Value} {d : DataW H} {p : List MemPlace} {spare : Nat → Bool} {held : Bool} (hv : Value.okWide Try.prog w r b0 43 v) (h : DataW.Trod enc Try.prog w base spare held 43 v d p) :
    ∃ z : Nat, v = .int .u32 z ∧ z < 4294967296 := by
  obtain ⟨a, h1, _, _, h2⟩ := open_int Try.underlying43 hv h
  have h3 : 0 ≤ a ∧ a ≤ 4294967295 := by simpa [Lit.wf, IntKind.min, IntKind.max, IntKind.signed, IntKind.bits] using h2
  refine ⟨a.toNat, ?_, by omega⟩
  rw [h1, show ((a.toNat : Nat) : Int) = a by omega]
end Go.Proofs.Ytijgfdncocjncaa
