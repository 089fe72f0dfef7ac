/- Bytes and numbers of 32 bits that come in. -/
import Derived.Test.YtfebhofihioaoaaO12
import Derived.Test.YtfebhofihioaoaaS29
namespace Go.Proofs.Ytfebhofihioaoaa
set_option linter.unusedVariables false
set_option linter.unusedSimpArgs false
open Go Go.ChangeShapes Go.WideShapes Go.ChangeAt Go.RowKit

theorem cells79 : Try.prog.cellsOf 79 = 1 := by kernel_rfl
set_option maxRecDepth 100000 in
theorem open_u32s {H : Type} {enc : TypeId × Value → H} {w : World} {base : Nat} {r : Reach} {b0 : Nat} {v : Value} {d : DataW H} {p : List MemPlace} {spare : Nat → Bool} {held : Bool} (hv : Value.okWide Try.prog w r b0 41 v) (h : DataW.Trod enc Try.prog w base spare held 41 v d p) :
    ∃ A c xs, v = .slice A xs.length c ∧ U32W w w.heap.size A xs ∧ xs.length ≤ 9223372036854775807 ∧ ∀ y ∈ xs, 0 ≤ y ∧ y ≤ 4294967295 := by
  obtain ⟨a, len, cap, rfl⟩ := okWide_slice Try.underlying41 hv
  obtain ⟨n, hn⟩ := h
  obtain ⟨A, len', cap', e, hl, hc⟩ := open_introw Try.underlying41 Try.underlying79 cells79 hn
  injection e with e1 e2 e3
  subst e1 e2 e3
  rcases Nat.eq_zero_or_pos len with h0 | h0
  · subst h0
    exact ⟨a, cap, [], rfl, fun h => by simp at h, by simp, fun y h => by cases h⟩
  · obtain ⟨b, off, rfl, hb, hcs⟩ := hc h0
    have key : ∀ i, i < len → w.cell? ⟨b, off + i, none⟩ = some (.int .u32 (numAt w b (off + i))) ∧ 0 ≤ numAt w b (off + i) ∧ numAt w b (off + i) ≤ 4294967295 := fun i hi => by
      obtain ⟨z, hz, hwf⟩ := hcs i hi
      have e := numAt_of hz
      have e2 : numAt w b (off + i) = z := by rw [hz] at e; injection e with e; injection e with _ e; exact e.symm
      rw [e2]
      exact ⟨hz, by simpa [Lit.wf, IntKind.min, IntKind.max, IntKind.signed, IntKind.bits] using hwf⟩
    refine ⟨_, cap, (List.range len).map fun i => numAt w b (off + i), by simp, fun _ => ⟨b, off, rfl, hb, fun k hk => ?_⟩, by simpa using hl, fun y hy => ?_⟩
    · have hk' : k < len := by simpa using hk
      rw [List.getElem_map, List.getElem_range]
      exact (key k hk').1
    · obtain ⟨i, hi, rfl⟩ := List.mem_map.1 hy
      exact (key i (List.mem_range.1 hi)).2
set_option maxRecDepth 100000 in
theorem open_u8 {H : Type} {enc : TypeId × Value → H} {w : World} {base : Nat} {r : Reach} {b0 : Nat} {v : Value} {d : DataW H} {p : List MemPlace} {spare : Nat → Bool} {held : Bool} (hv : Value.okWide Try.prog w r b0 5 v) (h : DataW.Trod enc Try.prog w base spare held 5 v d p) :
    ∃ z, v = .int .u8 z ∧ 0 ≤ z ∧ z ≤ 255 := by
  obtain ⟨a, h1, _, _, h2⟩ := open_int Try.underlying5 hv h
  exact ⟨a, h1, by simpa [Lit.wf, IntKind.min, IntKind.max, IntKind.signed, IntKind.bits] using h2⟩
end Go.Proofs.Ytfebhofihioaoaa
