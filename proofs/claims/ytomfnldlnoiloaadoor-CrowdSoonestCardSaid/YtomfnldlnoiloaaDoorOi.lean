/- The visit, the moves, the ints that come in; the two knots at the ends of the network. Printed by mkOi.py. -/
import Derived.Test.YtomfnldlnoiloaaDoorOp
import Derived.Test.YtomfnldlnoiloaaDoorS9
import Derived.LaidMore
import Derived.Stop.Joined
import Derived.SevenTiedAt
import Derived.Test.YtomfnldlnoiloaaDoorTie
import Derived.Test.YtomfnldlnoiloaaDoorCards
namespace Go.Proofs.YtomfnldlnoiloaaDoor
set_option linter.unusedVariables false
set_option linter.unusedSimpArgs false
open Go Go.ChangeShapes Go.WideShapes Go.ChangeAt Go.RowKit Go.Shelf

theorem in64_of {z : Int} (h : (Lit.int .i64 z).wf = true) : In64 z := by
  unfold In64
  simpa [Lit.wf, IntKind.min, IntKind.max, IntKind.signed, IntKind.bits] using h
theorem ints51 : AllInts Tryd.prog 51 4 := allInts_struct Tryd.underlying51 (by kernel_rfl) rfl (by kernel_rfl)
theorem ints49 : AllInts Tryd.prog 49 3 := allInts_struct Tryd.underlying49 (by kernel_rfl) rfl (by kernel_rfl)
theorem ints56 : AllInts Tryd.prog 56 3 := allInts_struct Tryd.underlying56 (by kernel_rfl) rfl (by kernel_rfl)
section
variable {H : Type} {enc : TypeId × Value → H} {w : World} {base : Nat}
set_option maxRecDepth 100000 in
theorem open_ones {n : Nat} {v : Value} {x : DataW H × List MemPlace} {spare : Nat → Bool} {held : Bool} (h : DataW.trod enc Tryd.prog w base spare held n 22 [v] = some x) :
    ∃ A c xs, v = .slice A xs.length c ∧ Ints w w.heap.size A xs ∧ xs.length ≤ 9223372036854775807 := by
  obtain ⟨A, len, cap, rfl, hl, hc⟩ := open_rows Tryd.underlying22 (by kernel_rfl) (by omega) (allInts_int Tryd.underlying3) h
  rcases Nat.eq_zero_or_pos len with h0 | h0
  · subst h0
    exact ⟨A, cap, [], rfl, (fun (h : 0 < ([] : List (Int)).length) => absurd h (by simp)), by simp⟩
  · obtain ⟨b, off, rfl, hb, hcs⟩ := hc h0
    refine ⟨_, cap, (List.range len).map fun i => numAt w b (off + i), by simp, fun _ => ⟨b, off, rfl, hb, fun k hk => ?_⟩, by simpa using hl⟩
    have hk' : k < len := by simpa using hk
    obtain ⟨z0, hz0, _⟩ := hcs k hk' 0 (by omega)
    rw [Nat.add_zero, Nat.mul_one] at hz0
    rw [List.getElem_map, List.getElem_range]
    exact numAt_of hz0
set_option maxRecDepth 100000 in
theorem open_tr {n : Nat} {v : Value} {x : DataW H × List MemPlace} {spare : Nat → Bool} {held : Bool} (h : DataW.trod enc Tryd.prog w base spare held n 23 [v] = some x) :
    ∃ A c xs, v = .slice A xs.length c ∧ Fours w w.heap.size A xs ∧ xs.length ≤ 9223372036854775807 := by
  obtain ⟨A, len, cap, rfl, hl, hc⟩ := open_rows Tryd.underlying23 (by kernel_rfl) (by omega) ints51 h
  rcases Nat.eq_zero_or_pos len with h0 | h0
  · subst h0
    exact ⟨A, cap, [], rfl, (fun (h : 0 < ([] : List (Int × Int × Int × Int)).length) => absurd h (by simp)), by simp⟩
  · obtain ⟨b, off, rfl, hb, hcs⟩ := hc h0
    refine ⟨_, cap, (List.range len).map fun i => (numAt w b (off + i * 4), numAt w b (off + i * 4 + 1), numAt w b (off + i * 4 + 2), numAt w b (off + i * 4 + 3)), by simp, fun _ => ⟨b, off, rfl, hb, fun k hk => ?_⟩, by simpa using hl⟩
    have hk' : k < len := by simpa using hk
    obtain ⟨z0, hz0, _⟩ := hcs k hk' 0 (by omega)
    obtain ⟨z1, hz1, _⟩ := hcs k hk' 1 (by omega)
    obtain ⟨z2, hz2, _⟩ := hcs k hk' 2 (by omega)
    obtain ⟨z3, hz3, _⟩ := hcs k hk' 3 (by omega)
    rw [List.getElem_map, List.getElem_range]
    exact ⟨numAt_of hz0, numAt_of hz1, numAt_of hz2, numAt_of hz3⟩
set_option maxRecDepth 100000 in
theorem open_ar {n : Nat} {v : Value} {x : DataW H × List MemPlace} {spare : Nat → Bool} {held : Bool} (h : DataW.trod enc Tryd.prog w base spare held n 24 [v] = some x) :
    ∃ A c xs, v = .slice A xs.length c ∧ Threes w w.heap.size A xs ∧ xs.length ≤ 9223372036854775807 := by
  obtain ⟨A, len, cap, rfl, hl, hc⟩ := open_rows Tryd.underlying24 (by kernel_rfl) (by omega) ints49 h
  rcases Nat.eq_zero_or_pos len with h0 | h0
  · subst h0
    exact ⟨A, cap, [], rfl, (fun (h : 0 < ([] : List (Int × Int × Int)).length) => absurd h (by simp)), by simp⟩
  · obtain ⟨b, off, rfl, hb, hcs⟩ := hc h0
    refine ⟨_, cap, (List.range len).map fun i => (numAt w b (off + i * 3), numAt w b (off + i * 3 + 1), numAt w b (off + i * 3 + 2)), by simp, fun _ => ⟨b, off, rfl, hb, fun k hk => ?_⟩, by simpa using hl⟩
    have hk' : k < len := by simpa using hk
    obtain ⟨z0, hz0, _⟩ := hcs k hk' 0 (by omega)
    obtain ⟨z1, hz1, _⟩ := hcs k hk' 1 (by omega)
    obtain ⟨z2, hz2, _⟩ := hcs k hk' 2 (by omega)
    rw [List.getElem_map, List.getElem_range]
    exact ⟨numAt_of hz0, numAt_of hz1, numAt_of hz2⟩
set_option maxRecDepth 100000 in
theorem open_mv {n : Nat} {v : Value} {x : DataW H × List MemPlace} {spare : Nat → Bool} {held : Bool} (h : DataW.trod enc Tryd.prog w base spare held n 27 [v] = some x) :
    ∃ A c xs, v = .slice A xs.length c ∧ Threes w w.heap.size A xs ∧ xs.length ≤ 9223372036854775807 := by
  obtain ⟨A, len, cap, rfl, hl, hc⟩ := open_rows Tryd.underlying27 (by kernel_rfl) (by omega) ints56 h
  rcases Nat.eq_zero_or_pos len with h0 | h0
  · subst h0
    exact ⟨A, cap, [], rfl, (fun (h : 0 < ([] : List (Int × Int × Int)).length) => absurd h (by simp)), by simp⟩
  · obtain ⟨b, off, rfl, hb, hcs⟩ := hc h0
    refine ⟨_, cap, (List.range len).map fun i => (numAt w b (off + i * 3), numAt w b (off + i * 3 + 1), numAt w b (off + i * 3 + 2)), by simp, fun _ => ⟨b, off, rfl, hb, fun k hk => ?_⟩, by simpa using hl⟩
    have hk' : k < len := by simpa using hk
    obtain ⟨z0, hz0, _⟩ := hcs k hk' 0 (by omega)
    obtain ⟨z1, hz1, _⟩ := hcs k hk' 1 (by omega)
    obtain ⟨z2, hz2, _⟩ := hcs k hk' 2 (by omega)
    rw [List.getElem_map, List.getElem_range]
    exact ⟨numAt_of hz0, numAt_of hz1, numAt_of hz2⟩
set_option maxRecDepth 100000 in
theorem open_visit {r : Reach} {b0 : Nat} {v : Value} {d : DataW H} {p : List MemPlace} {spare : Nat → Bool} {held : Bool} (hv : Value.okWide Tryd.prog w r b0 26 v) (h : DataW.Trod enc Tryd.prog w base spare held 26 v d p) :
    ∃ (x : Vis) (A1 A2 A3 : Option Addr) (c1 c2 c3 : Nat), v = visV x A1 A2 A3 c1 c2 c3 ∧ VisAt w w.heap.size x A1 A2 A3 ∧ Vis64 x := by
  obtain ⟨cs, rfl, hsz⟩ := okWide_struct Tryd.underlying26 hv
  obtain ⟨l⟩ := cs
  obtain ⟨fuel, hf⟩ := h
  obtain ⟨ys, n2, hn2, hy, hlen, hyl, hff⟩ := DataW.trod_struct Tryd.underlying26 hf
  have hl3 : l.length = 3 := by
    have : Tryd.prog.cellsOf 26 = 3 := by kernel_rfl
    simpa [this] using hsz
  match l, hl3 with
  | [v0, v1, v2], _ =>
    have hyl' : ys.length = 3 := by simpa using hyl
    have a1 := hff 0 _ rfl
    have a2 := hff 1 _ rfl
    have a3 := hff 2 _ rfl
    rw [List.getElem?_eq_getElem (show 0 < ys.length by omega)] at a1
    rw [List.getElem?_eq_getElem (show 1 < ys.length by omega)] at a2
    rw [List.getElem?_eq_getElem (show 2 < ys.length by omega)] at a3
    have c22 : Tryd.prog.cellsOf 22 = 1 := by kernel_rfl
    have c23 : Tryd.prog.cellsOf 23 = 1 := by kernel_rfl
    have c24 : Tryd.prog.cellsOf 24 = 1 := by kernel_rfl
    simp only [c22, c23, c24, Value.cells, List.drop_zero, List.take_succ_cons, List.take_zero, List.drop_succ_cons] at a1 a2 a3
    obtain ⟨A1, c1, x1, rfl, h1, l1⟩ := open_ones a1
    obtain ⟨A2, c2, x2, rfl, h2, l2⟩ := open_tr a2
    obtain ⟨A3, c3, x3, rfl, h3, l3⟩ := open_ar a3
    exact ⟨⟨x1, x2, x3⟩, A1, A2, A3, c1, c2, c3, rfl, ⟨h1, h2, h3⟩, ⟨l1, l2, l3⟩⟩
set_option maxRecDepth 100000 in
theorem open_moves {r : Reach} {b0 : Nat} {v : Value} {d : DataW H} {p : List MemPlace} {spare : Nat → Bool} {held : Bool} (hv : Value.okWide Tryd.prog w r b0 27 v) (h : DataW.Trod enc Tryd.prog w base spare held 27 v d p) :
    ∃ A c xs, v = .slice A xs.length c ∧ Threes w w.heap.size A xs ∧ xs.length ≤ 9223372036854775807 := by
  obtain ⟨a, len, cap, rfl⟩ := okWide_slice Tryd.underlying27 hv
  obtain ⟨n, hn⟩ := h
  exact open_mv hn
set_option maxRecDepth 100000 in
theorem open_int3 {r : Reach} {b0 : Nat} {v : Value} {d : DataW H} {p : List MemPlace} {spare : Nat → Bool} {held : Bool} (hv : Value.okWide Tryd.prog w r b0 3 v) (h : DataW.Trod enc Tryd.prog w base spare held 3 v d p) :
    ∃ z : Int, v = I z ∧ In64 z := by
  obtain ⟨a, h1, _, _, h2⟩ := open_int Tryd.underlying3 hv h
  exact ⟨a, h1, in64_of h2⟩
end

/-! The two ends of the network. -/
abbrev laidT : List (String × DataW Unit) := [("geyserite/crowd.source", Rows.laid_geyserite_crowd_source), ("geyserite/crowd.sink", Rows.laid_geyserite_crowd_sink)]
theorem door_met (os : Os) (args : Array Value) : laidMetH Tryd.prog laidT ((World.doorLaid Tryd.prog 400 os).forCall (fun _ _ => 0) ⟨#[], args, []⟩).memory :=
  laidMetH_of_parts3 (fuel := 8) (laidMet_of_run' 8 (by kernel_rfl) (by kernel_rfl)) (by kernel_rfl) (by kernel_rfl)
theorem gSrc : Tryd.prog.globalNamed "geyserite/crowd.source" = some 0 := by kernel_rfl
theorem gSnk : Tryd.prog.globalNamed "geyserite/crowd.sink" = some 1 := by kernel_rfl
theorem tSrc : (Tryd.prog.globals[0]?).map (·.type) = some 89 := by kernel_rfl
theorem tSnk : (Tryd.prog.globals[1]?).map (·.type) = some 89 := by kernel_rfl

end Go.Proofs.YtomfnldlnoiloaaDoor
