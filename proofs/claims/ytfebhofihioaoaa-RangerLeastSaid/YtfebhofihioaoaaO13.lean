/- The bytes that come in. -/
import Derived.Test.YtfebhofihioaoaaO12
namespace Go.Proofs.Ytfebhofihioaoaa
set_option linter.unusedVariables false
set_option linter.unusedSimpArgs false
open Go Go.ChangeShapes Go.WideShapes Go.ChangeAt Go.RowKit

def BytesW (w : World) (B : Nat) (A : Option Addr) (ys : List Int) : Prop := 0 < ys.length → ∃ b off, A = some ⟨b, off, none⟩ ∧ b < B ∧ ∀ k (h : k < ys.length), w.cell? ⟨b, off + k, none⟩ = some (.int .u8 ys[k])
theorem BytesW.below {w w' : World} {B : Nat} {A : Option Addr} {ys : List Int} (h : BytesW w B A ys) (hb : Below B w w') : BytesW w' B A ys := fun h0 => by
  obtain ⟨b, off, e, hbz, hc⟩ := h h0
  exact ⟨b, off, e, hbz, fun k hk => (hb.cell (p := ⟨_, _, none⟩) hbz).trans (hc k hk)⟩
theorem BytesW.more {w : World} {B B' : Nat} {A : Option Addr} {ys : List Int} (h : BytesW w B A ys) (hB : B ≤ B') : BytesW w B' A ys := fun h0 => by
  obtain ⟨b, off, e, hbz, hc⟩ := h h0
  exact ⟨b, off, e, by omega, hc⟩
theorem cells5 : Try.prog.cellsOf 5 = 1 := by kernel_rfl
set_option maxRecDepth 100000 in
theorem open_u8s {H : Type} {enc : TypeId × Value → H} {w : World} {base : Nat} {r : Reach} {b0 : Nat} {v : Value} {d : DataW H} {p : List MemPlace} {spare : Nat → Bool} {held : Bool} (hv : Value.okWide Try.prog w r b0 54 v) (h : DataW.Trod enc Try.prog w base spare held 54 v d p) :
    ∃ A c xs, v = .slice A xs.length c ∧ BytesW w w.heap.size A xs ∧ xs.length ≤ 9223372036854775807 ∧ ∀ y ∈ xs, 0 ≤ y ∧ y ≤ 255 := by
  obtain ⟨a, len, cap, rfl⟩ := okWide_slice Try.underlying54 hv
  obtain ⟨n, hn⟩ := h
  obtain ⟨A, len', cap', e, hl, hc⟩ := open_introw Try.underlying54 Try.underlying5 cells5 hn
  injection e with e1 e2 e3
  subst e1 e2 e3
  rcases Nat.eq_zero_or_pos len with h0 | h0
  · subst h0
    exact ⟨a, cap, [], rfl, fun h => by simp at h, by simp, fun y h => by cases h⟩
  · obtain ⟨b, off, rfl, hb, hcs⟩ := hc h0
    have key : ∀ i, i < len → w.cell? ⟨b, off + i, none⟩ = some (.int .u8 (numAt w b (off + i))) ∧ 0 ≤ numAt w b (off + i) ∧ numAt w b (off + i) ≤ 255 := fun i hi => by
      obtain ⟨z, hz, hwf⟩ := hcs i hi
      have e := numAt_of hz
      have e2 : numAt w b (off + i) = z := by rw [hz] at e; injection e with e; injection e with _ e; exact e.symm
      rw [e2]
      exact ⟨hz, by simpa [Lit.wf, IntKind.min, IntKind.max, IntKind.signed, IntKind.bits] using hwf⟩
    refine ⟨_, cap, (List.range len).map fun i => numAt w b (off + i), by simp, fun _ => ⟨b, off, rfl, hb, fun k hk => ?_⟩, by simpa using hl, fun y hy => ?_⟩
    · have hk' : k < len := by simpa using hk
      rw [List.getElem_map, List.getElem_range]
      exact (key k hk').1
    · obtain ⟨i, hi, rfl⟩ := List.mem_map.1 hy
      exact (key i (List.mem_range.1 hi)).2
end Go.Proofs.Ytfebhofihioaoaa
