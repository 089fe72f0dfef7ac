/- The two knots at the ends of the network, as they lie when the call begins. -/
import Derived.Test.YtomfnldlnoiloaaDoorOi
import Derived.Test.YtomfnldlnoiloaaDoorNt
namespace Go.Proofs.YtomfnldlnoiloaaDoor
set_option linter.unusedVariables false
set_option linter.unusedSimpArgs false
open Go Go.ChangeShapes Go.WideShapes Go.ChangeAt Go.RowKit Go.Shelf

set_option maxRecDepth 100000 in
theorem knot_cells {H : Type} {enc : TypeId × Value → H} {W : World} {base n : Nat} {spare : Nat → Bool} {held : Bool} {cs : List Value} {e : Int} {pp : List MemPlace}
    (h : DataW.trod enc Tryd.prog W base spare held n 89 cs = some (.agg [.agg [.lit (.int .i64 0), .lit (.int .i64 0)], .lit (.int .i64 e)], pp)) : cs = [I 0, I 0, I e] := by
  obtain ⟨y0, y1, n1, hx, hl, h0, h1⟩ := trod_struct2 Tryd.underlying89 h
  simp only [Prod.mk.injEq, DataW.agg.injEq, List.cons.injEq, and_true] at hx
  obtain ⟨⟨e0, e1⟩, _⟩ := hx
  obtain ⟨z0, z1, n2, hy, hl2, g0, g1⟩ := trod_struct2 Tryd.underlying46 h0
  rw [hy] at e0
  simp only [DataW.agg.injEq, List.cons.injEq, and_true] at e0
  obtain ⟨f0, f1⟩ := e0
  have c89 : Tryd.prog.cellsOf 89 = 3 := by kernel_rfl
  have c46 : Tryd.prog.cellsOf 46 = 2 := by kernel_rfl
  have c3 : Tryd.prog.cellsOf 3 = 1 := by kernel_rfl
  rw [c89] at hl
  match cs, hl with
  | [a, b, c], _ =>
    simp only [c46, c3, List.drop_zero, List.take_succ_cons, List.take_zero, List.drop_succ_cons] at h1 g0 g1
    obtain ⟨k0, p0, q0, _⟩ := DataW.trod_int Tryd.underlying3 g0
    obtain ⟨k1, p1, q1, _⟩ := DataW.trod_int Tryd.underlying3 g1
    obtain ⟨k2, p2, q2, _⟩ := DataW.trod_int Tryd.underlying3 h1
    rw [q0] at f0
    rw [q1] at f1
    rw [q2] at e1
    simp only [DataW.lit.injEq, Lit.int.injEq, true_and] at f0 f1 e1
    subst f0 f1 e1
    simp only [List.cons.injEq, and_true] at p0 p1 p2
    rw [p0, p1, p2]
set_option maxRecDepth 100000 in
theorem glob_of_laid {W : World} (h : laidMetH Tryd.prog laidT W) : GlobOk W := by
  rw [MakeChecks.laidMetH_plain _ _ _ (by kernel_rfl)] at h
  obtain ⟨ps, ⟨g0, t0, cs0, f0, p0, q0, hg0, ht0, hv0, hd0, ⟨g1, t1, cs1, f1, p1, q1, hg1, ht1, hv1, hd1, _, _⟩, _⟩, _, _⟩ := h
  obtain rfl := Option.some.inj (gSrc.symm.trans hg0)
  obtain rfl := Option.some.inj (gSnk.symm.trans hg1)
  have e0 : t0 = 89 := by have := tSrc; rw [ht0] at this; exact Option.some.inj this
  have e1 : t1 = 89 := by have := tSnk; rw [ht1] at this; exact Option.some.inj this
  subst e0 e1
  have c0 := knot_cells hd0
  have c1 := knot_cells hd1
  have k0 : ∀ j, W.cell? ⟨0, j, none⟩ = cs0[j]? := fun j => World.var?_cell hg0 hv0 j
  have k1 : ∀ j, W.cell? ⟨1, j, none⟩ = cs1[j]? := fun j => World.var?_cell hg1 hv1 j
  have d0 : ∀ j : Nat, cs0[j]? = ([I 0, I 0, I 1] : List Value)[j]? := fun j => by rw [← Array.getElem?_toList, c0]
  have d1 : ∀ j : Nat, cs1[j]? = ([I 0, I 0, I 2] : List Value)[j]? := fun j => by rw [← Array.getElem?_toList, c1]
  refine ⟨?_, ⟨by rw [k0, d0]; rfl, by rw [k0, d0]; rfl, by rw [k0, d0]; rfl⟩, ⟨by rw [k1, d1]; rfl, by rw [k1, d1]; rfl, by rw [k1, d1]; rfl⟩⟩
  rcases Nat.lt_or_ge 1 W.heap.size with h | h
  · exact h
  · have := k1 0
    rw [d1] at this
    simp [World.cell?, Array.getElem?_eq_none h] at this
end Go.Proofs.YtomfnldlnoiloaaDoor
