/- Openings: the watch and the pair that come in; law 3. -/
import Derived.Test.YtijgfdncocjncaaG3
import Derived.Test.YtijgfdncocjncaaOp
namespace Go.Proofs.Ytijgfdncocjncaa
set_option linter.unusedVariables false
set_option linter.unusedSimpArgs false
open Go Go.ChangeShapes Go.WideShapes Go.ChangeAt Go.RowKit

theorem in64_of {z : Int} (h : (Lit.int .i64 z).wf = true) : In64 z := by
  unfold In64
  simpa [Lit.wf, IntKind.min, IntKind.max, IntKind.signed, IntKind.bits] using h
theorem ints50 : AllInts Try.prog 50 2 := allInts_struct Try.underlying50 (by kernel_rfl) rfl (by kernel_rfl)
theorem ints27 : AllInts Try.prog 27 2 := allInts_struct Try.underlying27 (by kernel_rfl) rfl (by kernel_rfl)
theorem ints52 : AllInts Try.prog 52 2 := allInts_struct Try.underlying52 (by kernel_rfl) rfl (by kernel_rfl)
theorem ints54 : AllInts Try.prog 54 4 := allInts_pair (k := 2) (m := 2) Try.underlying54 rfl (by kernel_rfl) rfl (by kernel_rfl) ints52 ints52
section
variable {H : Type} {enc : TypeId × Value → H} {w : World} {base : Nat}
set_option maxRecDepth 100000 in
theorem open_fours {n : Nat} {v : Value} {x : DataW H × List MemPlace} {spare : Nat → Bool} {held : Bool} (h : DataW.trod enc Try.prog w base spare held n 22 [v] = some x) :
    ∃ A c xs, v = .slice A xs.length c ∧ Fours w w.heap.size A xs ∧ xs.length ≤ 9223372036854775807 ∧ ∀ k (h : k < xs.length), In64 xs[k].1 ∧ In64 xs[k].2.1 ∧ In64 xs[k].2.2.1 ∧ In64 xs[k].2.2.2 := by
  obtain ⟨A, len, cap, rfl, hl, hc⟩ := open_rows Try.underlying22 (by kernel_rfl) (by omega) ints54 h
  rcases Nat.eq_zero_or_pos len with h0 | h0
  · subst h0
    exact ⟨A, cap, [], rfl, (fun (h : 0 < ([] : List (Int × Int × Int × Int)).length) => absurd h (by simp)), by simp, fun k h => absurd h (by simp)⟩
  · obtain ⟨b, off, rfl, hb, hcs⟩ := hc h0
    refine ⟨_, cap, (List.range len).map fun i => (numAt w b (off + i * 4), numAt w b (off + i * 4 + 1), numAt w b (off + i * 4 + 2), numAt w b (off + i * 4 + 3)), by simp, fun _ => ⟨b, off, rfl, hb, fun k hk => ?_⟩, by simpa using hl, fun k hk => ?_⟩
    all_goals
      have hk' : k < len := by simpa using hk
      obtain ⟨z, hz, hw⟩ := hcs k hk' 0 (by omega)
      obtain ⟨z', hz', hw'⟩ := hcs k hk' 1 (by omega)
      obtain ⟨z'', hz'', hw''⟩ := hcs k hk' 2 (by omega)
      obtain ⟨y, hy, hwy⟩ := hcs k hk' 3 (by omega)
      rw [List.getElem_map, List.getElem_range]
    · exact ⟨numAt_of hz, numAt_of hz', numAt_of hz'', numAt_of hy⟩
    · have e0 := numAt_of hz
      have e1 := numAt_of hz'
      have e2 := numAt_of hz''
      have e3 := numAt_of hy
      rw [Nat.add_zero] at hz e0
      rw [hz] at e0
      rw [hz'] at e1
      rw [hz''] at e2
      rw [hy] at e3
      simp only [Option.some.injEq, Value.int.injEq, true_and] at e0 e1 e2 e3
      rw [← e0, ← e1, ← e2, ← e3]
      exact ⟨in64_of hw, in64_of hw', in64_of hw'', in64_of hwy⟩
set_option maxRecDepth 100000 in
theorem open_twos {n : Nat} {v : Value} {x : DataW H × List MemPlace} {spare : Nat → Bool} {held : Bool} (h : DataW.trod enc Try.prog w base spare held n 23 [v] = some x) :
    ∃ A c xs, v = .slice A xs.length c ∧ Twos w w.heap.size A xs ∧ xs.length ≤ 9223372036854775807 ∧ ∀ k (h : k < xs.length), In64 xs[k].1 ∧ In64 xs[k].2 := by
  obtain ⟨A, len, cap, rfl, hl, hc⟩ := open_rows Try.underlying23 (by kernel_rfl) (by omega) ints50 h
  rcases Nat.eq_zero_or_pos len with h0 | h0
  · subst h0
    exact ⟨A, cap, [], rfl, (fun (h : 0 < ([] : List (Int × Int)).length) => absurd h (by simp)), by simp, fun k h => absurd h (by simp)⟩
  · obtain ⟨b, off, rfl, hb, hcs⟩ := hc h0
    refine ⟨_, cap, (List.range len).map fun i => (numAt w b (off + i * 2), numAt w b (off + i * 2 + 1)), by simp, fun _ => ⟨b, off, rfl, hb, fun k hk => ?_⟩, by simpa using hl, fun k hk => ?_⟩
    all_goals
      have hk' : k < len := by simpa using hk
      obtain ⟨z, hz, hw⟩ := hcs k hk' 0 (by omega)
      obtain ⟨z', hz', hw'⟩ := hcs k hk' 1 (by omega)
      rw [List.getElem_map, List.getElem_range]
    · exact ⟨numAt_of hz, numAt_of hz'⟩
    · have e0 := numAt_of hz
      have e1 := numAt_of hz'
      rw [Nat.add_zero] at hz e0
      rw [hz] at e0
      rw [hz'] at e1
      simp only [Option.some.injEq, Value.int.injEq, true_and] at e0 e1
      rw [← e0, ← e1]
      exact ⟨in64_of hw, in64_of hw'⟩
set_option maxRecDepth 100000 in
theorem open_watch {r : Reach} {b0 : Nat} {v : Value} {d : DataW H} {p : List MemPlace} {spare : Nat → Bool} {held : Bool} (hv : Value.okWide Try.prog w r b0 25 v) (h : DataW.Trod enc Try.prog w base spare held 25 v d p) :
    ∃ (x : Wat) (A B : Option Addr) (c e : Nat), v = x.val A c B e ∧ WatAt w x A B ∧ Wat64 x := by
  obtain ⟨cs, rfl, hsz⟩ := okWide_struct Try.underlying25 hv
  obtain ⟨l⟩ := cs
  obtain ⟨fuel, hf⟩ := h
  obtain ⟨ys, n2, hn2, hy, hlen, hyl, hff⟩ := DataW.trod_struct Try.underlying25 hf
  have hl3 : l.length = 3 := by
    have : Try.prog.cellsOf 25 = 3 := by kernel_rfl
    simpa [this] using hsz
  match l, hl3 with
  | [v0, v1, v2], _ =>
    have hyl' : ys.length = 3 := by simpa using hyl
    have a1 := hff 0 _ rfl
    have a2 := hff 1 _ rfl
    have a3 := hff 2 _ rfl
    rw [List.getElem?_eq_getElem (show 0 < ys.length by omega)] at a1
    rw [List.getElem?_eq_getElem (show 1 < ys.length by omega)] at a2
    rw [List.getElem?_eq_getElem (show 2 < ys.length by omega)] at a3
    have c22 : Try.prog.cellsOf 22 = 1 := by kernel_rfl
    have c23 : Try.prog.cellsOf 23 = 1 := by kernel_rfl
    have c3 : Try.prog.cellsOf 3 = 1 := by kernel_rfl
    simp only [c22, c23, c3, Value.cells, List.drop_zero, List.take_succ_cons, List.take_zero, List.drop_succ_cons] at a1 a2 a3
    obtain ⟨A, c, xs, rfl, hF, hx, hw⟩ := open_fours a1
    obtain ⟨B, e, ys', rfl, hG, hy2, hw2⟩ := open_twos a2
    obtain ⟨z, hz, hwz⟩ := allInts_int Try.underlying3 H enc w base spare held _ _ _ a3 rfl 0 (by omega)
    simp [c3] at hz
    subst hz
    exact ⟨⟨xs, ys', z⟩, A, B, c, e, rfl, ⟨hF, hG⟩, ⟨in64_of hwz, hw, hw2, hx, hy2⟩⟩
set_option maxRecDepth 100000 in
theorem open_lnk {r : Reach} {b0 : Nat} {v : Value} {d : DataW H} {p : List MemPlace} {spare : Nat → Bool} {held : Bool} (hv : Value.okWide Try.prog w r b0 27 v) (h : DataW.Trod enc Try.prog w base spare held 27 v d p) :
    ∃ f t : Int, v = .agg #[I f, I t] ∧ In64 f ∧ In64 t := by
  obtain ⟨cs, rfl, hsz⟩ := okWide_struct Try.underlying27 hv
  obtain ⟨l⟩ := cs
  obtain ⟨fuel, hf⟩ := h
  have hl2 : l.length = 2 := by
    have : Try.prog.cellsOf 27 = 2 := by kernel_rfl
    simpa [this] using hsz
  match l, hl2 with
  | [v0, v1], _ =>
    obtain ⟨z, hz, hwz⟩ := ints27 H enc w base spare held _ _ _ hf rfl 0 (by omega)
    obtain ⟨y, hy, hwy⟩ := ints27 H enc w base spare held _ _ _ hf rfl 1 (by omega)
    simp [Value.cells] at hz hy
    subst hz hy
    exact ⟨z, y, rfl, in64_of hwz, in64_of hwy⟩
end
end Go.Proofs.Ytijgfdncocjncaa
