/- A trail that comes in. -/
import Derived.Test.YtomfnldlnoiloaaDoorOi
namespace Go.Proofs.YtomfnldlnoiloaaDoor
set_option linter.unusedVariables false
set_option linter.unusedSimpArgs false
open Go Go.ChangeShapes Go.WideShapes Go.ChangeAt Go.RowKit

set_option maxRecDepth 100000 in
theorem open_trail {H : Type} {enc : TypeId × Value → H} {w : World} {base : Nat} {r : Reach} {b0 : Nat} {v : Value} {d : DataW H} {p : List MemPlace} {spare : Nat → Bool} {held : Bool} (hv : Value.okWide Tryd.prog w r b0 51 v) (h : DataW.Trod enc Tryd.prog w base spare held 51 v d p) :
    ∃ a b c e : Int, v = .agg #[I a, I b, I c, I e] := by
  obtain ⟨cs, rfl, hsz⟩ := okWide_struct Tryd.underlying51 hv
  obtain ⟨l⟩ := cs
  obtain ⟨fuel, hf⟩ := h
  have hl4 : l.length = 4 := by
    have : Tryd.prog.cellsOf 51 = 4 := by kernel_rfl
    simpa [this] using hsz
  match l, hl4 with
  | [v0, v1, v2, v3], _ =>
    obtain ⟨z0, hz0, _⟩ := ints51 H enc w base spare held _ _ _ hf rfl 0 (by omega)
    obtain ⟨z1, hz1, _⟩ := ints51 H enc w base spare held _ _ _ hf rfl 1 (by omega)
    obtain ⟨z2, hz2, _⟩ := ints51 H enc w base spare held _ _ _ hf rfl 2 (by omega)
    obtain ⟨z3, hz3, _⟩ := ints51 H enc w base spare held _ _ _ hf rfl 3 (by omega)
    simp [Value.cells] at hz0 hz1 hz2 hz3
    subst hz0 hz1 hz2 hz3
    exact ⟨z0, z1, z2, z3, rfl⟩
end Go.Proofs.YtomfnldlnoiloaaDoor
