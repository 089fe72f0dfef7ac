/- The mains and the readings that come in; the library's table. -/
import Derived.Test.YtgdilbilhajgaaaDoorOp
import Derived.Test.YtgdilbilhajgaaaDoorE15
import Derived.LaidMore
import Derived.Stop.Joined
import Derived.SevenTiedAt
import Derived.Test.YtgdilbilhajgaaaDoorTie
import Derived.Test.YtgdilbilhajgaaaDoorCards
namespace Go.Proofs.YtgdilbilhajgaaaDoor
set_option linter.unusedVariables false
set_option linter.unusedSimpArgs false
open Go Go.ChangeShapes Go.WideShapes Go.ChangeAt Go.RowKit Go.Shelf

theorem seat_own : ownKnob Tryd.prog.godebug = none := by kernel_rfl
theorem seat_laid : laidOutB Tryd.prog = true := by kernel_rfl
theorem ints39 : AllInts Tryd.prog 39 2 := allInts_struct Tryd.underlying39 (by kernel_rfl) rfl (by kernel_rfl)
theorem ints55 : AllInts Tryd.prog 55 2 := allInts_struct Tryd.underlying55 (by kernel_rfl) rfl (by kernel_rfl)
theorem ints42 : AllInts Tryd.prog 42 3 := allInts_pair (k := 1) (m := 2) Tryd.underlying42 rfl (by kernel_rfl) rfl (by kernel_rfl) (allInts_int Tryd.underlying3) ints39

section
variable {H : Type} {enc : TypeId × Value → H} {w : World} {base : Nat}
set_option maxRecDepth 100000 in
theorem open_pairs {n : Nat} {v : Value} {x : DataW H × List MemPlace} {spare : Nat → Bool} {held : Bool} (h : DataW.trod enc Tryd.prog w base spare held n 22 [v] = some x) :
    ∃ A c xs, v = .slice A xs.length c ∧ Pairs w w.heap.size A xs ∧ xs.length ≤ 9223372036854775807 := by
  obtain ⟨A, len, cap, rfl, hl, hc⟩ := open_rows Tryd.underlying22 (by kernel_rfl) (by omega) ints55 h
  rcases Nat.eq_zero_or_pos len with h0 | h0
  · subst h0
    exact ⟨A, cap, [], rfl, fun h => by simp at h, by simp⟩
  · obtain ⟨b, off, rfl, hb, hcs⟩ := hc h0
    refine ⟨_, cap, (List.range len).map fun i => (numAt w b (off + i * 2), numAt w b (off + i * 2 + 1)), by simp, fun _ => ⟨b, off, rfl, hb, fun k hk => ?_⟩, by simpa using hl⟩
    have hk' : k < len := by simpa using hk
    obtain ⟨z, hz, _⟩ := hcs k hk' 0 (by omega)
    obtain ⟨z', hz', _⟩ := hcs k hk' 1 (by omega)
    rw [List.getElem_map, List.getElem_range]
    exact ⟨numAt_of hz, numAt_of hz'⟩
set_option maxRecDepth 100000 in
theorem open_threes {n : Nat} {v : Value} {x : DataW H × List MemPlace} {spare : Nat → Bool} {held : Bool} (h : DataW.trod enc Tryd.prog w base spare held n 23 [v] = some x) :
    ∃ A c xs, v = .slice A xs.length c ∧ Threes w w.heap.size A xs ∧ xs.length ≤ 9223372036854775807 := by
  obtain ⟨A, len, cap, rfl, hl, hc⟩ := open_rows Tryd.underlying23 (by kernel_rfl) (by omega) ints42 h
  rcases Nat.eq_zero_or_pos len with h0 | h0
  · subst h0
    exact ⟨A, cap, [], rfl, fun h => by simp at h, by simp⟩
  · obtain ⟨b, off, rfl, hb, hcs⟩ := hc h0
    refine ⟨_, cap, (List.range len).map fun i => (numAt w b (off + i * 3), numAt w b (off + i * 3 + 1), numAt w b (off + i * 3 + 2)), by simp, fun _ => ⟨b, off, rfl, hb, fun k hk => ?_⟩, by simpa using hl⟩
    have hk' : k < len := by simpa using hk
    obtain ⟨z, hz, _⟩ := hcs k hk' 0 (by omega)
    obtain ⟨z', hz', _⟩ := hcs k hk' 1 (by omega)
    obtain ⟨z'', hz'', _⟩ := hcs k hk' 2 (by omega)
    rw [List.getElem_map, List.getElem_range]
    exact ⟨numAt_of hz, numAt_of hz', numAt_of hz''⟩
set_option maxRecDepth 100000 in
theorem open_mains {r : Reach} {b0 : Nat} {v : Value} {d : DataW H} {p : List MemPlace} {spare : Nat → Bool} {held : Bool} (hv : Value.okWide Tryd.prog w r b0 22 v) (h : DataW.Trod enc Tryd.prog w base spare held 22 v d p) :
    ∃ A c xs, v = .slice A xs.length c ∧ Pairs w w.heap.size A xs ∧ xs.length ≤ 9223372036854775807 := by
  obtain ⟨a, len, cap, rfl⟩ := okWide_slice Tryd.underlying22 hv
  obtain ⟨n, hn⟩ := h
  exact open_pairs hn
set_option maxRecDepth 100000 in
theorem open_readings {r : Reach} {b0 : Nat} {v : Value} {d : DataW H} {p : List MemPlace} {spare : Nat → Bool} {held : Bool} (hv : Value.okWide Tryd.prog w r b0 23 v) (h : DataW.Trod enc Tryd.prog w base spare held 23 v d p) :
    ∃ A c xs, v = .slice A xs.length c ∧ Threes w w.heap.size A xs ∧ xs.length ≤ 9223372036854775807 := by
  obtain ⟨a, len, cap, rfl⟩ := okWide_slice Tryd.underlying23 hv
  obtain ⟨n, hn⟩ := h
  exact open_threes hn
set_option maxRecDepth 100000 in
theorem open_int3 {r : Reach} {b0 : Nat} {v : Value} {d : DataW H} {p : List MemPlace} {spare : Nat → Bool} {held : Bool} (hv : Value.okWide Tryd.prog w r b0 3 v) (h : DataW.Trod enc Tryd.prog w base spare held 3 v d p) :
    ∃ z : Int, v = I z ∧ (Lit.int .i64 z).wf = true := by
  obtain ⟨a, h1, _, _, h2⟩ := open_int Tryd.underlying3 hv h
  exact ⟨a, h1, h2⟩
end

/-! The table of the library. -/
abbrev laidT : List (String × DataW Unit) := [("math/bits.deBruijn32tab", Rows.laid_math_bits_deBruijn32tab), ("math/bits.deBruijn64tab", Rows.laid_math_bits_deBruijn64tab)]
theorem door_met (os : Os) (args : Array Value) : laidMetH Tryd.prog laidT ((World.doorLaid Tryd.prog 400 os).forCall (fun _ _ => 0) ⟨#[], args, []⟩).memory :=
  laidMetH_of_parts3 (fuel := 8) (laidMet_of_run' 8 (by kernel_rfl) (by kernel_rfl)) (by kernel_rfl) (by kernel_rfl)
theorem gTab : Tryd.prog.globalNamed "math/bits.deBruijn64tab" = some (Proofs.Tryd.ctzL_ren.g 1) := by kernel_rfl
theorem tTab : ((Tryd.prog.globals[Proofs.Tryd.ctzL_ren.g 1]?).map (·.type)).bind Tryd.prog.underlying = some (.array 64 5) := by kernel_rfl
theorem eTab : Tryd.prog.underlying 5 = some (.int .u8) := by kernel_rfl
theorem cTab : Tryd.prog.cellsOf 5 = 1 := by kernel_rfl
theorem dTab : (Rows.laid_math_bits_deBruijn64tab : DataW Unit) = .agg (Lib.deBruijn64tab.map fun k : Nat => .lit (.int .u8 (k : Int))) := rfl
set_option maxRecDepth 100000 in
theorem tab_of_laid {W : World} (h : laidMetH Tryd.prog laidT W) : TabOk W := by
  rw [MakeChecks.laidMetH_plain _ _ _ (by kernel_rfl)] at h
  obtain ⟨ps, ⟨g0, t0, cs0, f0, p0, q0, hg0, ht0, hv0, hd0, ⟨g1, t1, cs1, f1, p1, q1, hg1, ht1, hv1, hd1, _, _⟩, _⟩, _, _⟩ := h
  obtain rfl := Option.some.inj (gTab.symm.trans hg1)
  have ht : Tryd.prog.underlying t1 = some (.array 64 5) := by
    have := tTab
    rw [ht1] at this
    exact this
  obtain ⟨xs, m1, rfl, hx1, hlen, hn3, hel⟩ := DataW.trod_array ht hd1
  rw [dTab] at hx1
  simp only [Prod.mk.injEq, DataW.agg.injEq] at hx1
  have key : ∀ j, j < 64 → W.cell? ⟨Proofs.Tryd.ctzL_ren.g 1, j, none⟩ = some (.int .u8 (Lib.deBruijn64tab.getD j 0)) := fun j hj => by
    have h1 := hel j hj
    have hjx : j < xs.length := by omega
    rw [List.getElem?_eq_getElem hjx] at h1
    obtain ⟨z, e1, e2, _⟩ := DataW.trod_int eTab h1
    have hjl : j < Lib.deBruijn64tab.length := hj
    have e3 : (xs.map (·.1))[j]? = (Lib.deBruijn64tab.map fun k : Nat => (DataW.lit (.int .u8 (k : Int)) : DataW Unit))[j]? := by rw [hx1.1]
    rw [List.getElem?_map, List.getElem?_map, List.getElem?_eq_getElem hjx, List.getElem?_eq_getElem hjl, e2] at e3
    simp only [Option.map_some, Option.some.injEq, DataW.lit.injEq, Lit.int.injEq, true_and] at e3
    rw [World.var?_cell hg1 hv1 j]
    rw [cTab, Nat.mul_one] at e1
    have hc : j < cs1.toList.length := by
      rcases Nat.lt_or_ge j cs1.toList.length with h | h
      · exact h
      · rw [List.drop_eq_nil_of_le h] at e1
        simp at e1
    rw [List.drop_eq_getElem_cons hc] at e1
    simp at e1
    have hcs : j < cs1.size := by simpa using hc
    rw [Array.getElem?_eq_getElem hcs, e1, e3]
    simp [List.getD, hjl]
  exact ⟨key, by
    rcases Nat.lt_or_ge (Proofs.Tryd.ctzL_ren.g 1) W.heap.size with h | h
    · exact h
    · have := key 0 (by omega)
      simp [World.cell?, Array.getElem?_eq_none h] at this⟩
end Go.Proofs.YtgdilbilhajgaaaDoor
