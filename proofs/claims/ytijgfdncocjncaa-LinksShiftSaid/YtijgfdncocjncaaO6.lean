/- Numbers that come in: of 8 and 16 bits. -/
import Derived.Test.YtijgfdncocjncaaO3
namespace Go.Proofs.Ytijgfdncocjncaa
set_option linter.unusedVariables false
set_option linter.unusedSimpArgs false
open Go Go.ChangeShapes Go.WideShapes Go.ChangeAt Go.RowKit

set_option maxRecDepth 100000 in
theorem open_u8 {H : Type} {enc : TypeId × Value → H} {w : World} {base : Nat} {r : Reach} {b0 : Nat} {v : Value} {d : DataW H} {p : List MemPlace} {spare : Nat → Bool} {held : Bool} (hv : Value.okWide Try.prog w r b0 5 v) (h : DataW.Trod enc Try.prog w base spare held 5 v d p) :
    ∃ z : Nat, v = .int .u8 z ∧ z < 256 := by
  obtain ⟨a, h1, _, _, h2⟩ := open_int Try.underlying5 hv h
  have h3 : 0 ≤ a ∧ a ≤ 255 := by simpa [Lit.wf, IntKind.min, IntKind.max, IntKind.signed, IntKind.bits] using h2
  refine ⟨a.toNat, ?_, by omega⟩
  rw [h1, show ((a.toNat : Nat) : Int) = a by omega]
set_option maxRecDepth 100000 in
theorem open_u16 {H : Type} {enc : TypeId × Value → H} {w : World} {base : Nat} {r : Reach} {b0 : Nat} {v : Value} {d : DataW H} {p : List MemPlace} {spare : Nat → Bool} {held : Bool} (hv : Value.okWide Try.prog w r b0 48 v) (h : DataW.Trod enc Try.prog w base spare held 48 v d p) :
    ∃ z : Nat, v = .int .u16 z ∧ z < 65536 := by
  obtain ⟨a, h1, _, _, h2⟩ := open_int Try.underlying48 hv h
  have h3 : 0 ≤ a ∧ a ≤ 65535 := by simpa [Lit.wf, IntKind.min, IntKind.max, IntKind.signed, IntKind.bits] using h2
  refine ⟨a.toNat, ?_, by omega⟩
  rw [h1, show ((a.toNat : Nat) : Int) = a by omega]
end Go.Proofs.Ytijgfdncocjncaa
