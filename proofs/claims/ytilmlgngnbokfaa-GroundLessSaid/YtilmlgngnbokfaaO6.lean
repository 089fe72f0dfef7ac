/- The ground, the soundings and the deck that come in. -/
import Derived.Test.YtilmlgngnbokfaaOp
import Derived.Test.YtilmlgngnbokfaaMo
namespace Go.Proofs.Ytilmlgngnbokfaa
set_option linter.unusedVariables false
set_option linter.unusedSimpArgs false
open Go Go.ChangeShapes Go.WideShapes Go.ChangeAt Go.RowKit

theorem ints53 : AllInts Try.prog 53 2 := allInts_struct Try.underlying53 (by kernel_rfl) rfl (by kernel_rfl)
theorem ints55 : AllInts Try.prog 55 3 := allInts_pair (k := 1) (m := 2) Try.underlying55 rfl (by kernel_rfl) rfl (by kernel_rfl) (allInts_int Try.underlying3) ints53

section
variable {H : Type} {enc : TypeId × Value → H} {w : World} {base : Nat}
set_option maxRecDepth 100000 in
theorem open_pairs {n : Nat} {v : Value} {x : DataW H × List MemPlace} {spare : Nat → Bool} {held : Bool} (h : DataW.trod enc Try.prog w base spare held n 27 [v] = some x) :
    ∃ A c xs, v = .slice A xs.length c ∧ Pairs w w.heap.size A xs ∧ xs.length ≤ 9223372036854775807 := by
  obtain ⟨A, len, cap, rfl, hl, hc⟩ := open_rows Try.underlying27 (by kernel_rfl) (by omega) ints53 h
  rcases Nat.eq_zero_or_pos len with h0 | h0
  · subst h0
    exact ⟨A, cap, [], rfl, fun h => by simp at h, by simp⟩
  · obtain ⟨b, off, rfl, hb, hcs⟩ := hc h0
    refine ⟨_, cap, (List.range len).map fun i => (numAt w b (off + i * 2), numAt w b (off + i * 2 + 1)), by simp, fun _ => ⟨b, off, rfl, hb, fun k hk => ?_⟩, by simpa using hl⟩
    have hk' : k < len := by simpa using hk
    obtain ⟨z, hz, _⟩ := hcs k hk' 0 (by omega)
    obtain ⟨z', hz', _⟩ := hcs k hk' 1 (by omega)
    rw [List.getElem_map, List.getElem_range]
    exact ⟨numAt_of hz, numAt_of hz'⟩
set_option maxRecDepth 100000 in
theorem open_threes {n : Nat} {v : Value} {x : DataW H × List MemPlace} {spare : Nat → Bool} {held : Bool} (h : DataW.trod enc Try.prog w base spare held n 45 [v] = some x) :
    ∃ A c xs, v = .slice A xs.length c ∧ Threes w w.heap.size A xs ∧ xs.length ≤ 9223372036854775807 := by
  obtain ⟨A, len, cap, rfl, hl, hc⟩ := open_rows Try.underlying45 (by kernel_rfl) (by omega) ints55 h
  rcases Nat.eq_zero_or_pos len with h0 | h0
  · subst h0
    exact ⟨A, cap, [], rfl, fun h => by simp at h, by simp⟩
  · obtain ⟨b, off, rfl, hb, hcs⟩ := hc h0
    refine ⟨_, cap, (List.range len).map fun i => (numAt w b (off + i * 3), numAt w b (off + i * 3 + 1), numAt w b (off + i * 3 + 2)), by simp, fun _ => ⟨b, off, rfl, hb, fun k hk => ?_⟩, by simpa using hl⟩
    have hk' : k < len := by simpa using hk
    obtain ⟨z, hz, _⟩ := hcs k hk' 0 (by omega)
    obtain ⟨z', hz', _⟩ := hcs k hk' 1 (by omega)
    obtain ⟨z'', hz'', _⟩ := hcs k hk' 2 (by omega)
    rw [List.getElem_map, List.getElem_range]
    exact ⟨numAt_of hz, numAt_of hz', numAt_of hz''⟩
set_option maxRecDepth 100000 in
theorem open_is {n : Nat} {v : Value} {x : DataW H × List MemPlace} {spare : Nat → Bool} {held : Bool} (h : DataW.trod enc Try.prog w base spare held n 22 [v] = some x) :
    ∃ A c xs, v = .slice A xs.length c ∧ Ints w w.heap.size A xs ∧ xs.length ≤ 9223372036854775807 := by
  obtain ⟨A, len, cap, rfl, hl, hc⟩ := open_introw Try.underlying22 Try.underlying3 (by kernel_rfl) h
  rcases Nat.eq_zero_or_pos len with h0 | h0
  · subst h0
    exact ⟨A, cap, [], rfl, fun h => by simp at h, by simp⟩
  · obtain ⟨b, off, rfl, hb, hcs⟩ := hc h0
    refine ⟨_, cap, (List.range len).map fun i => numAt w b (off + i), by simp, fun _ => ⟨b, off, rfl, hb, fun k hk => ?_⟩, by simpa using hl⟩
    have hk' : k < len := by simpa using hk
    obtain ⟨z, hz, _⟩ := hcs k hk'
    rw [List.getElem_map, List.getElem_range]
    exact numAt_of hz

set_option maxRecDepth 100000 in
theorem open_snd {r : Reach} {b0 : Nat} {v : Value} {d : DataW H} {p : List MemPlace} {spare : Nat → Bool} {held : Bool} (hv : Value.okWide Try.prog w r b0 45 v) (h : DataW.Trod enc Try.prog w base spare held 45 v d p) :
    ∃ A c xs, v = .slice A xs.length c ∧ Threes w w.heap.size A xs ∧ xs.length ≤ 9223372036854775807 := by
  obtain ⟨a, len, cap, rfl⟩ := okWide_slice Try.underlying45 hv
  obtain ⟨n, hn⟩ := h
  exact open_threes hn
set_option maxRecDepth 100000 in
theorem open_int3 {r : Reach} {b0 : Nat} {v : Value} {d : DataW H} {p : List MemPlace} {spare : Nat → Bool} {held : Bool} (hv : Value.okWide Try.prog w r b0 3 v) (h : DataW.Trod enc Try.prog w base spare held 3 v d p) :
    ∃ z : Int, v = I z ∧ (Lit.int .i64 z).wf = true := by
  obtain ⟨a, h1, _, _, h2⟩ := open_int Try.underlying3 hv h
  exact ⟨a, h1, h2⟩
set_option maxRecDepth 100000 in
theorem open_grd {r : Reach} {b0 : Nat} {v : Value} {d : DataW H} {p : List MemPlace} {spare : Nat → Bool} {held : Bool} (hv : Value.okWide Try.prog w r b0 29 v) (h : DataW.Trod enc Try.prog w base spare held 29 v d p) :
    ∃ A c g, v = Grd.val g A c ∧ Pairs w w.heap.size A g.radar ∧ g.radar.length ≤ 9223372036854775807 := by
  obtain ⟨l, n, rfl, hl, hf⟩ := open_struct (k := 3) Try.underlying29 (by kernel_rfl) (by kernel_rfl) rfl hv h
  match l, hl with
  | [v0, v1, v2], _ =>
    obtain ⟨y0, h0⟩ := hf 0 _ v0 rfl rfl
    obtain ⟨y1, h1⟩ := hf 1 _ v1 rfl rfl
    obtain ⟨y2, h2⟩ := hf 2 _ v2 rfl rfl
    obtain ⟨z0, rfl, _⟩ := open_intf Try.underlying3 h0
    obtain ⟨z1, rfl, _⟩ := open_intf Try.underlying3 h1
    obtain ⟨A, c, xs, rfl, hp, hx⟩ := open_pairs h2
    exact ⟨A, c, ⟨z0, z1, xs⟩, rfl, hp, hx⟩
set_option maxRecDepth 100000 in
theorem open_deck {r : Reach} {b0 : Nat} {v : Value} {d : DataW H} {p : List MemPlace} {spare : Nat → Bool} {held : Bool} (hv : Value.okWide Try.prog w r b0 24 v) (h : DataW.Trod enc Try.prog w base spare held 24 v d p) :
    ∃ Ap Al cp cl g, v = Deck.val g Ap Al cp cl ∧ Ints w w.heap.size Ap g.posts ∧ Ints w w.heap.size Al g.lengths ∧ g.posts.length ≤ 9223372036854775807 ∧ g.lengths.length ≤ 9223372036854775807 := by
  obtain ⟨l, n, rfl, hl, hf⟩ := open_struct (k := 6) Try.underlying24 (by kernel_rfl) (by kernel_rfl) rfl hv h
  match l, hl with
  | [v0, v1, v2, v3, v4, v5], _ =>
    obtain ⟨y0, h0⟩ := hf 0 _ v0 rfl rfl
    obtain ⟨y1, h1⟩ := hf 1 _ v1 rfl rfl
    obtain ⟨y2, h2⟩ := hf 2 _ v2 rfl rfl
    obtain ⟨y3, h3⟩ := hf 3 _ v3 rfl rfl
    obtain ⟨y4, h4⟩ := hf 4 _ v4 rfl rfl
    obtain ⟨y5, h5⟩ := hf 5 _ v5 rfl rfl
    obtain ⟨A, c, xs, rfl, hp, hx⟩ := open_is h0
    obtain ⟨B, c', ys, rfl, hq, hy⟩ := open_is h1
    obtain ⟨z2, rfl, _⟩ := open_intf Try.underlying3 h2
    obtain ⟨z3, rfl, _⟩ := open_intf Try.underlying3 h3
    obtain ⟨z4, rfl, _⟩ := open_intf Try.underlying3 h4
    obtain ⟨z5, rfl, _⟩ := open_intf Try.underlying3 h5
    exact ⟨A, B, c, c', ⟨xs, ys, z2, z3, z4, z5⟩, rfl, hp, hq, hx, hy⟩
end
theorem seat_own : ownKnob Try.prog.godebug = none := by kernel_rfl
theorem seat_laid : laidOutB Try.prog = true := by kernel_rfl
end Go.Proofs.Ytilmlgngnbokfaa
