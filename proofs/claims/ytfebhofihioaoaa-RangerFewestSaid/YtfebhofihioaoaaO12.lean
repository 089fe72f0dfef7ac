/- The park, the posts and the bytes that come in. -/
import Derived.Test.YtfebhofihioaoaaOp
import Derived.Test.YtfebhofihioaoaaS27
namespace Go.Proofs.Ytfebhofihioaoaa
set_option linter.unusedVariables false
set_option linter.unusedSimpArgs false
open Go Go.ChangeShapes Go.WideShapes Go.ChangeAt Go.RowKit

def In64 (z : Int) : Prop := -9223372036854775808 ≤ z ∧ z ≤ 9223372036854775807
theorem in64_of {z : Int} (h : (Lit.int .i64 z).wf = true) : In64 z := by
  unfold In64
  simpa [Lit.wf, IntKind.min, IntKind.max, IntKind.signed, IntKind.bits] using h
/-- A struct of a part whose cells are all ints, and two ints. -/
theorem allInts_triple {P : Program} {e : TypeId} {f g l : Field} {k m n : Nat} (he : P.underlying e = some (.struct #[f, g, l])) (hf : f.offset = 0) (hfc : P.cellsOf f.type = k) (hg : g.offset = k) (hgc : P.cellsOf g.type = m) (hl : l.offset = k + m) (hlc : P.cellsOf l.type = n)
    (h1 : AllInts P f.type k) (h2 : AllInts P g.type m) (h3 : AllInts P l.type n) : AllInts P e (k + m + n) := by
  intro H enc w base spare held nn cs y h hcl j hj
  obtain ⟨ys, n2, hn2, hy, hlen, hyl, hff⟩ := DataW.trod_struct he h
  have a1 := hff 0 f rfl
  have a2 := hff 1 g rfl
  have a3 := hff 2 l rfl
  rw [hf, hfc, List.drop_zero] at a1
  rw [hg, hgc] at a2
  rw [hl, hlc] at a3
  have hyl' : ys.length = 3 := by simpa using hyl
  rw [List.getElem?_eq_getElem (show 0 < ys.length by omega)] at a1
  rw [List.getElem?_eq_getElem (show 1 < ys.length by omega)] at a2
  rw [List.getElem?_eq_getElem (show 2 < ys.length by omega)] at a3
  by_cases hjk : j < k
  · obtain ⟨z, hz, hwf⟩ := h1 H enc w base spare held _ _ _ a1 (by simp; omega) j hjk
    exact ⟨z, by rw [← hz, List.getElem?_take_of_lt hjk], hwf⟩
  · by_cases hjm : j < k + m
    · obtain ⟨z, hz, hwf⟩ := h2 H enc w base spare held _ _ _ a2 (by simp; omega) (j - k) (by omega)
      refine ⟨z, ?_, hwf⟩
      rw [← hz, List.getElem?_take_of_lt (by omega), List.getElem?_drop]
      congr 1
      omega
    · obtain ⟨z, hz, hwf⟩ := h3 H enc w base spare held _ _ _ a3 (by simp; omega) (j - (k + m)) (by omega)
      refine ⟨z, ?_, hwf⟩
      rw [← hz, List.getElem?_take_of_lt (by omega), List.getElem?_drop]
      congr 1
      omega
theorem ints24 : AllInts Try.prog 24 2 := allInts_struct Try.underlying24 (by kernel_rfl) rfl (by kernel_rfl)
theorem ints48 : AllInts Try.prog 48 4 := allInts_triple (k := 2) (m := 1) (n := 1) Try.underlying48 rfl (by kernel_rfl) rfl (by kernel_rfl) rfl (by kernel_rfl) ints24 (allInts_int Try.underlying3) (allInts_int Try.underlying3)

section
variable {H : Type} {enc : TypeId × Value → H} {w : World} {base : Nat}
/-- All numbers of a park are of 64 bits. -/
structure Prk64 (x : Prk) : Prop where
  alo : In64 x.alo
  ahi : In64 x.ahi
  sp : ∀ k (h : k < x.sp.length), In64 x.sp[k].1 ∧ In64 x.sp[k].2.1 ∧ In64 x.sp[k].2.2.1 ∧ In64 x.sp[k].2.2.2
  len : x.sp.length ≤ 9223372036854775807
set_option maxRecDepth 100000 in
theorem open_fours {n : Nat} {v : Value} {x : DataW H × List MemPlace} {spare : Nat → Bool} {held : Bool} (h : DataW.trod enc Try.prog w base spare held n 22 [v] = some x) :
    ∃ A c xs, v = .slice A xs.length c ∧ Fours w w.heap.size A xs ∧ xs.length ≤ 9223372036854775807 ∧ ∀ k (h : k < xs.length), In64 xs[k].1 ∧ In64 xs[k].2.1 ∧ In64 xs[k].2.2.1 ∧ In64 xs[k].2.2.2 := by
  obtain ⟨A, len, cap, rfl, hl, hc⟩ := open_rows Try.underlying22 (by kernel_rfl) (by omega) ints48 h
  rcases Nat.eq_zero_or_pos len with h0 | h0
  · subst h0
    exact ⟨A, cap, [], rfl, (fun (h : 0 < ([] : List (Int × Int × Int × Int)).length) => absurd h (by simp)), by simp, fun k h => absurd h (by simp)⟩
  · obtain ⟨b, off, rfl, hb, hcs⟩ := hc h0
    refine ⟨_, cap, (List.range len).map fun i => (numAt w b (off + i * 4), numAt w b (off + i * 4 + 1), numAt w b (off + i * 4 + 2), numAt w b (off + i * 4 + 3)), by simp, fun _ => ⟨b, off, rfl, hb, fun k hk => ?_⟩, by simpa using hl, fun k hk => ?_⟩
    all_goals
      have hk' : k < len := by simpa using hk
      obtain ⟨z, hz, hw⟩ := hcs k hk' 0 (by omega)
      obtain ⟨z', hz', hw'⟩ := hcs k hk' 1 (by omega)
      obtain ⟨z'', hz'', hw''⟩ := hcs k hk' 2 (by omega)
      obtain ⟨y, hy, hwy⟩ := hcs k hk' 3 (by omega)
      rw [List.getElem_map, List.getElem_range]
    · exact ⟨numAt_of hz, numAt_of hz', numAt_of hz'', numAt_of hy⟩
    · have e0 := numAt_of hz
      have e1 := numAt_of hz'
      have e2 := numAt_of hz''
      have e3 := numAt_of hy
      rw [Nat.add_zero] at hz e0
      rw [hz] at e0
      rw [hz'] at e1
      rw [hz''] at e2
      rw [hy] at e3
      simp only [Option.some.injEq, Value.int.injEq, true_and] at e0 e1 e2 e3
      rw [← e0, ← e1, ← e2, ← e3]
      exact ⟨in64_of hw, in64_of hw', in64_of hw'', in64_of hwy⟩
set_option maxRecDepth 100000 in
theorem open_park {r : Reach} {b0 : Nat} {v : Value} {d : DataW H} {p : List MemPlace} {spare : Nat → Bool} {held : Bool} (hv : Value.okWide Try.prog w r b0 26 v) (h : DataW.Trod enc Try.prog w base spare held 26 v d p) :
    ∃ (x : Prk) (A : Option Addr) (c : Nat), v = x.val A c ∧ Fours w w.heap.size A x.sp ∧ Prk64 x := by
  obtain ⟨cs, rfl, hsz⟩ := okWide_struct Try.underlying26 hv
  obtain ⟨l⟩ := cs
  obtain ⟨fuel, hf⟩ := h
  obtain ⟨ys, n2, hn2, hy, hlen, hyl, hff⟩ := DataW.trod_struct Try.underlying26 hf
  have hl3 : l.length = 3 := by
    have : Try.prog.cellsOf 26 = 3 := by kernel_rfl
    simpa [this] using hsz
  match l, hl3 with
  | [v0, v1, v2], _ =>
    have hyl' : ys.length = 2 := by simpa using hyl
    have a1 := hff 0 _ rfl
    have a2 := hff 1 _ rfl
    rw [List.getElem?_eq_getElem (show 0 < ys.length by omega)] at a1
    rw [List.getElem?_eq_getElem (show 1 < ys.length by omega)] at a2
    have c22 : Try.prog.cellsOf 22 = 1 := by kernel_rfl
    have c24 : Try.prog.cellsOf 24 = 2 := by kernel_rfl
    simp only [c22, c24, Value.cells, List.drop_zero, List.take_succ_cons, List.take_zero, List.drop_succ_cons] at a1 a2
    obtain ⟨A, c, xs, rfl, hF, hx, hw⟩ := open_fours a1
    obtain ⟨z, hz, hwz⟩ := ints24 H enc w base spare held _ _ _ a2 rfl 0 (by omega)
    obtain ⟨y, hy', hwy⟩ := ints24 H enc w base spare held _ _ _ a2 rfl 1 (by omega)
    simp [c24] at hz hy'
    subst hz hy'
    exact ⟨⟨xs, z, y⟩, A, c, rfl, hF, ⟨in64_of hwz, in64_of hwy, hw, hx⟩⟩
set_option maxRecDepth 100000 in
theorem open_is {r : Reach} {b0 : Nat} {v : Value} {d : DataW H} {p : List MemPlace} {spare : Nat → Bool} {held : Bool} (hv : Value.okWide Try.prog w r b0 27 v) (h : DataW.Trod enc Try.prog w base spare held 27 v d p) :
    ∃ A c xs, v = .slice A xs.length c ∧ Ints w w.heap.size A xs ∧ xs.length ≤ 9223372036854775807 := by
  obtain ⟨a, len, cap, rfl⟩ := okWide_slice Try.underlying27 hv
  obtain ⟨n, hn⟩ := h
  obtain ⟨A, len, cap, he, hl, hc⟩ := open_introw Try.underlying27 Try.underlying3 (by kernel_rfl) hn
  rw [he]
  rcases Nat.eq_zero_or_pos len with h0 | h0
  · subst h0
    exact ⟨A, cap, [], rfl, (fun (h : 0 < ([] : List Int).length) => absurd h (by simp)), by simp⟩
  · obtain ⟨b, off, rfl, hb, hcs⟩ := hc h0
    refine ⟨_, cap, (List.range len).map fun i => numAt w b (off + i), by simp, fun _ => ⟨b, off, rfl, hb, fun k hk => ?_⟩, by simpa using hl⟩
    have hk' : k < len := by simpa using hk
    obtain ⟨z, hz, _⟩ := hcs k hk'
    rw [List.getElem_map, List.getElem_range]
    exact numAt_of hz
set_option maxRecDepth 100000 in
theorem open_int3 {r : Reach} {b0 : Nat} {v : Value} {d : DataW H} {p : List MemPlace} {spare : Nat → Bool} {held : Bool} (hv : Value.okWide Try.prog w r b0 3 v) (h : DataW.Trod enc Try.prog w base spare held 3 v d p) :
    ∃ z : Int, v = I z ∧ (Lit.int .i64 z).wf = true := by
  obtain ⟨a, h1, _, _, h2⟩ := open_int Try.underlying3 hv h
  exact ⟨a, h1, h2⟩
end
theorem seat_own : ownKnob Try.prog.godebug = none := by kernel_rfl
theorem seat_laid : laidOutB Try.prog = true := by kernel_rfl
end Go.Proofs.Ytfebhofihioaoaa
