/- The visit that comes in is no greater than a machine's memory. -/
import Derived.Test.YtomfnldlnoiloaaDoorOi
import Derived.SizedLaws
namespace Go.Proofs.YtomfnldlnoiloaaDoor
set_option linter.unusedVariables false
set_option linter.unusedSimpArgs false
open Go Go.ChangeShapes Go.WideShapes Go.ChangeAt Go.RowKit Go.Shelf

section
variable {H : Type} {enc : TypeId × Value → H} {w : World} {base : Nat}
set_option maxRecDepth 100000 in
theorem sized_len {t e : TypeId} {n : Nat} {A : Option Addr} {len cap : Nat} {x : DataW H × List MemPlace} {spare : Nat → Bool} {held : Bool} (ht : Tryd.prog.underlying t = some (.slice e)) (hb : decide (1 ≤ Tryd.prog.bytesOf e) = true)
    (h : DataW.trod enc Tryd.prog w base spare held n t [.slice A len cap] = some x) (hw : ∀ k, k ∈ x.1.weights Tryd.prog t → k ≤ reachBytes) : len ≤ reachBytes := by
  rcases DataW.trod_slice ht h with ⟨h1, _⟩ | ⟨a, l2, c2, elems, rest, n2, _, h1, rfl, _, _, _, h2, _⟩
  · simp only [List.cons.injEq, Value.slice.injEq, and_true] at h1
    omega
  · simp only [List.cons.injEq, Value.slice.injEq, and_true] at h1
    have h3 := hw ((elems.length + rest.length) * Tryd.prog.bytesOf e) (by
      show _ ∈ DataW.weights Tryd.prog t (.slice (elems.map (·.1)) (rest.map (·.1)))
      unfold DataW.weights
      rw [ht]
      simp)
    have h4 := of_decide_eq_true hb
    have h5 : len * 1 ≤ (elems.length + rest.length) * Tryd.prog.bytesOf e := Nat.mul_le_mul (by omega) h4
    omega
set_option maxRecDepth 100000 in
theorem open_visit_big {r : Reach} {b0 : Nat} {v : Value} {d : DataW H} {p : List MemPlace} {spare : Nat → Bool} {held : Bool} (hv : Value.okWide Tryd.prog w r b0 26 v) (h : DataW.Trod enc Tryd.prog w base spare held 26 v d p) :
    ∃ (x : Vis) (A1 A2 A3 : Option Addr) (c1 c2 c3 : Nat), v = visV x A1 A2 A3 c1 c2 c3 ∧ VisAt w w.heap.size x A1 A2 A3 ∧ Vis64 x ∧ ((∀ n, n ∈ d.weights Tryd.prog 26 → n ≤ reachBytes) → x.rm.length + x.tr.length + x.ar.length ≤ 1000000000000000) := by
  obtain ⟨cs, rfl, hsz⟩ := okWide_struct Tryd.underlying26 hv
  obtain ⟨l⟩ := cs
  obtain ⟨fuel, hf⟩ := h
  obtain ⟨ys, n2, hn2, hy, hlen, hyl, hff⟩ := DataW.trod_struct Tryd.underlying26 hf
  have hl3 : l.length = 3 := by
    have : Tryd.prog.cellsOf 26 = 3 := by kernel_rfl
    simpa [this] using hsz
  match l, hl3 with
  | [v0, v1, v2], _ =>
    have hyl' : ys.length = 3 := by simpa using hyl
    have a1 := hff 0 _ rfl
    have a2 := hff 1 _ rfl
    have a3 := hff 2 _ rfl
    rw [List.getElem?_eq_getElem (show 0 < ys.length by omega)] at a1
    rw [List.getElem?_eq_getElem (show 1 < ys.length by omega)] at a2
    rw [List.getElem?_eq_getElem (show 2 < ys.length by omega)] at a3
    have c22 : Tryd.prog.cellsOf 22 = 1 := by kernel_rfl
    have c23 : Tryd.prog.cellsOf 23 = 1 := by kernel_rfl
    have c24 : Tryd.prog.cellsOf 24 = 1 := by kernel_rfl
    simp only [c22, c23, c24, Value.cells, List.drop_zero, List.take_succ_cons, List.take_zero, List.drop_succ_cons] at a1 a2 a3
    obtain ⟨A1, c1, x1, rfl, h1, l1⟩ := open_ones a1
    obtain ⟨A2, c2, x2, rfl, h2, l2⟩ := open_tr a2
    obtain ⟨A3, c3, x3, rfl, h3, l3⟩ := open_ar a3
    refine ⟨⟨x1, x2, x3⟩, A1, A2, A3, c1, c2, c3, rfl, ⟨h1, h2, h3⟩, ⟨l1, l2, l3⟩, fun hw => ?_⟩
    obtain ⟨hd, _⟩ := Prod.mk.inj hy
    have hin : ∀ (j : Nat) (t : TypeId) (hj : j < ys.length), ([22, 23, 24] : List TypeId)[j]? = some t → ∀ n, n ∈ ys[j].1.weights Tryd.prog t → n ≤ reachBytes := fun j t hj ht n hn => by
      refine hw n ?_
      rw [hd]
      show n ∈ DataW.weights Tryd.prog 26 (.agg (ys.map (·.1)))
      unfold DataW.weights
      rw [Tryd.underlying26]
      exact DataW.weights_mem_each (j := j) (t := t) ht (by rw [List.getElem?_map, List.getElem?_eq_getElem hj]; rfl) n hn
    have e1 := sized_len Tryd.underlying22 (by kernel_rfl) a1 (hin 0 22 (by omega) rfl)
    have e2 := sized_len Tryd.underlying23 (by kernel_rfl) a2 (hin 1 23 (by omega) rfl)
    have e3 := sized_len Tryd.underlying24 (by kernel_rfl) a3 (hin 2 24 (by omega) rfl)
    unfold reachBytes at e1 e2 e3
    dsimp only
    omega
end
end Go.Proofs.YtomfnldlnoiloaaDoor
