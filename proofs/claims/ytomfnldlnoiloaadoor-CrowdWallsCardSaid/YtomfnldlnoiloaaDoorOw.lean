/- Rows of 32-bit numbers that come in; the moves with their capacity. -/
import Derived.Test.YtomfnldlnoiloaaDoorOi
namespace Go.Proofs.YtomfnldlnoiloaaDoor
set_option linter.unusedVariables false
set_option linter.unusedSimpArgs false
open Go Go.ChangeShapes Go.WideShapes Go.ChangeAt Go.RowKit

/-- A row of 32-bit numbers. -/
def U32s (w : World) (B : Nat) (A : Option Addr) (xs : List Int) : Prop :=
  0 < xs.length → ∃ b off, A = some ⟨b, off, none⟩ ∧ b < B ∧ ∀ k (h : k < xs.length), w.cell? ⟨b, off + k, none⟩ = some (.int .u32 xs[k]) ∧ 0 ≤ xs[k] ∧ xs[k] < 4294967296
theorem U32s.below {w w' : World} {B : Nat} {A : Option Addr} {xs : List Int} (h : U32s w B A xs) (hB : Below B w w') : U32s w' B A xs := fun h0 => by
  obtain ⟨b, off, hA, hb, hc⟩ := h h0
  exact ⟨b, off, hA, hb, fun k hk => ⟨(hB.cell (p := ⟨b, off + k, none⟩) hb).trans (hc k hk).1, (hc k hk).2⟩⟩
theorem U32s.more {w : World} {B B' : Nat} {A : Option Addr} {xs : List Int} (h : U32s w B A xs) (hB : B ≤ B') : U32s w B' A xs := fun h0 => by
  obtain ⟨b, off, hA, hb, hc⟩ := h h0
  exact ⟨b, off, hA, by omega, hc⟩
theorem cells44 : Tryd.prog.cellsOf 44 = 1 := by kernel_rfl
set_option maxRecDepth 100000 in
theorem open_u32s {H : Type} {enc : TypeId × Value → H} {w : World} {base : Nat} {r : Reach} {b0 : Nat} {v : Value} {d : DataW H} {p : List MemPlace} {spare : Nat → Bool} {held : Bool} (hv : Value.okWide Tryd.prog w r b0 41 v) (h : DataW.Trod enc Tryd.prog w base spare held 41 v d p) :
    ∃ A c xs, v = .slice A xs.length c ∧ U32s w w.heap.size A xs ∧ xs.length ≤ 9223372036854775807 := by
  obtain ⟨a, len, cap, rfl⟩ := okWide_slice Tryd.underlying41 hv
  obtain ⟨n, hn⟩ := h
  obtain ⟨A, len', cap', e, hl, hc⟩ := open_introw Tryd.underlying41 Tryd.underlying44 cells44 hn
  injection e with e1 e2 e3
  subst e1 e2 e3
  rcases Nat.eq_zero_or_pos len with h0 | h0
  · subst h0
    exact ⟨a, cap, [], rfl, (fun (h : 0 < ([] : List Int).length) => absurd h (by simp)), by simp⟩
  · obtain ⟨b, off, rfl, hb, hcs⟩ := hc h0
    have key : ∀ i, i < len → w.cell? ⟨b, off + i, none⟩ = some (.int .u32 (numAt w b (off + i))) ∧ 0 ≤ numAt w b (off + i) ∧ numAt w b (off + i) ≤ 4294967295 := fun i hi => by
      obtain ⟨z, hz, hwf⟩ := hcs i hi
      have e := numAt_of hz
      have e2 : numAt w b (off + i) = z := by rw [hz] at e; injection e with e; injection e with _ e; exact e.symm
      rw [e2]
      exact ⟨hz, by simpa [Lit.wf, IntKind.min, IntKind.max, IntKind.signed, IntKind.bits] using hwf⟩
    refine ⟨_, cap, (List.range len).map fun i => numAt w b (off + i), by simp, fun _ => ⟨b, off, rfl, hb, fun k hk => ?_⟩, by simpa using hl⟩
    have hk' : k < len := by simpa using hk
    rw [List.getElem_map, List.getElem_range]
    have := key k hk'
    exact ⟨this.1, this.2.1, by omega⟩
set_option maxRecDepth 100000 in
theorem open_moves_cap {H : Type} {enc : TypeId × Value → H} {w : World} {base : Nat} {r : Reach} {b0 : Nat} {v : Value} {d : DataW H} {p : List MemPlace} {spare : Nat → Bool} {held : Bool} (hv : Value.okWide Tryd.prog w r b0 27 v) (h : DataW.Trod enc Tryd.prog w base spare held 27 v d p) :
    ∃ A c xs, v = .slice A xs.length c ∧ Threes w w.heap.size A xs ∧ xs.length ≤ 9223372036854775807 ∧ xs.length ≤ c := by
  obtain ⟨A, c, xs, rfl, h1, h2⟩ := open_moves hv h
  refine ⟨A, c, xs, rfl, h1, h2, ?_⟩
  obtain ⟨n, hn⟩ := h
  rcases DataW.trod_slice Tryd.underlying27 hn with ⟨e, _⟩ | ⟨a, l2, c2, elems, rest, n2, _, e, _, _, e2, _⟩
  · simp [Value.cells] at e
    obtain ⟨_, h0, _⟩ := e
    rw [h0]
    exact Nat.zero_le _
  · simp [Value.cells] at e
    omega
end Go.Proofs.YtomfnldlnoiloaaDoor
