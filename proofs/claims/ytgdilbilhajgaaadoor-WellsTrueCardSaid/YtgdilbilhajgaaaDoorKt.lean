/- WellsTrue: the cases joined; bytes that come in. -/
import Derived.Test.YtgdilbilhajgaaaDoorTt
import Derived.Test.YtgdilbilhajgaaaDoorOi
namespace Go.Proofs.YtgdilbilhajgaaaDoor
set_option linter.unusedVariables false
set_option linter.unusedSimpArgs false
open Go Go.ChangeShapes Go.WideShapes Go.ChangeAt Go.RowKit

theorem cells5 : Tryd.prog.cellsOf 5 = 1 := by kernel_rfl
set_option maxRecDepth 100000 in
theorem open_bytes {H : Type} {enc : TypeId × Value → H} {w : World} {base : Nat} {r : Reach} {b0 : Nat} {v : Value} {d : DataW H} {p : List MemPlace} {spare : Nat → Bool} {held : Bool} (hv : Value.okWide Tryd.prog w r b0 51 v) (h : DataW.Trod enc Tryd.prog w base spare held 51 v d p) :
    ∃ A c xs, v = .slice A xs.length c ∧ BytesW w w.heap.size A xs ∧ xs.length ≤ 9223372036854775807 ∧ ∀ y ∈ xs, 0 ≤ y ∧ y ≤ 255 := by
  obtain ⟨a, len, cap, rfl⟩ := okWide_slice Tryd.underlying51 hv
  obtain ⟨n, hn⟩ := h
  obtain ⟨A, len', cap', e, hl, hc⟩ := open_introw Tryd.underlying51 Tryd.underlying5 cells5 hn
  injection e with e1 e2 e3
  subst e1 e2 e3
  rcases Nat.eq_zero_or_pos len with h0 | h0
  · subst h0
    exact ⟨a, cap, [], rfl, fun h => by simp at h, by simp, fun y h => by cases h⟩
  · obtain ⟨b, off, rfl, hb, hcs⟩ := hc h0
    have key : ∀ i, i < len → w.cell? ⟨b, off + i, none⟩ = some (.int .u8 (numAt w b (off + i))) ∧ 0 ≤ numAt w b (off + i) ∧ numAt w b (off + i) ≤ 255 := fun i hi => by
      obtain ⟨z, hz, hwf⟩ := hcs i hi
      have e := numAt_of hz
      have e2 : numAt w b (off + i) = z := by rw [hz] at e; injection e with e; injection e with _ e; exact e.symm
      rw [e2]
      exact ⟨hz, by simpa [Lit.wf, IntKind.min, IntKind.max, IntKind.signed, IntKind.bits] using hwf⟩
    refine ⟨_, cap, (List.range len).map fun i => numAt w b (off + i), by simp, fun _ => ⟨b, off, rfl, hb, fun k hk => ?_⟩, by simpa using hl, fun y hy => ?_⟩
    · have hk' : k < len := by simpa using hk
      rw [List.getElem_map, List.getElem_range]
      exact (key k hk').1
    · obtain ⟨i, hi, rfl⟩ := List.mem_map.1 hy
      exact (key i (List.mem_range.1 hi)).2
theorem wtrue_any (A : Option Addr) (c : Nat) (m : List (Int × Int)) (C : Option Addr) (cc : Nat) (ws : List Int) (B : Option Addr) (cb : Nat) (ys : List Int) (w : World) (hT : TabOk w) (hm : Pairs w w.heap.size A m) (hml : m.length ≤ 9223372036854775807)
    (hc : BytesW w w.heap.size C ws) (hcl : ws.length ≤ 9223372036854775807 ∧ ∀ y ∈ ws, 0 ≤ y ∧ y ≤ 255) (hy : BytesW w w.heap.size B ys) (hyl : ys.length ≤ 9223372036854775807 ∧ ∀ y ∈ ys, 0 ≤ y ∧ y ≤ 255) :
    Calls Tryd.prog 7 #[.slice A m.length c, .slice C ws.length cc, .slice B ys.length cb] w fun e w' => e = .returned (.bool true) ∧ Below w.heap.size w w' := by
  by_cases h : greatB m.length 0 10 = true ∨ ys.length = 0 ∨ 12 < ws.length ∨ ¬ MOk m
  · exact true_alive A C B c cc cb m ws.length ys.length w hT hm hml h
  · have h1 : greatB m.length 0 10 = false := by
      cases e : greatB m.length 0 10
      · rfl
      · exact absurd (.inl e) h
    have h2 : ys.length ≠ 0 := fun e => h (.inr (.inl e))
    have h3 : ¬ 12 < ws.length := fun e => h (.inr (.inr (.inl e)))
    have h4 : MOk m := Classical.byContradiction fun e => h (.inr (.inr (.inr e)))
    exact true_ok A C B c cc cb m ws ys w hT hm hml h4 h1 (by omega) (by omega) hyl.1 hc hcl.2 hy hyl.2
end Go.Proofs.YtgdilbilhajgaaaDoor
/- WellsTrue: for every input the law returns true, and each argument reads behind the call as it read before. -/
namespace Go.Proofs.YtgdilbilhajgaaaDoor
set_option linter.unusedVariables false
set_option linter.unusedSimpArgs false
open Go Go.ChangeShapes Go.WideShapes Go.ChangeAt Go.RowKit

set_option maxRecDepth 100000 in
theorem wellsTrue_lifted (os : Os) (started : os.Started) (H : Type) (enc : TypeId × Value → H) :
    ReturnsInHanded {} Tryd.checked os 7 .any (fun w args => (Rows.wellsTrueSpec.pre enc Tryd.prog Tryd.f7 [] false w args ∧ laidMetH Tryd.prog laidT w) ∧ sizedMet enc Tryd.prog Tryd.f7 (OpenSpec.ofChange Rows.wellsTrueSpec) false w args)
      (Rows.wellsTrueSpec.post enc Tryd.prog Tryd.f7 false true false false) := by
  refine returnsInHanded_of_change_and (C := Tryd.checked) (X := fun w _ => laidMetH Tryd.prog laidT w) (fun _ _ _ hh h => h.of_heap hh) seat_own started (by kernel_rfl) Tryd.func7
    (ChangeSpec.witness_shaped (enc := enc) (C := Tryd.checked) (os := os) (X := fun w _ => laidMetH Tryd.prog laidT w) false (World.doorLaid Tryd.prog 400 os) #[.slice none 0 0, .slice none 0 0, .slice none 0 0] 8 rfl (World.shaped_of_RefB (by kernel_rfl) (by kernel_rfl)) (by kernel_rfl) (by kernel_rfl) (by kernel_rfl) (door_met os _)) ?_
  intro W base args ds gs before hval0 hW _ _ hL _
  have hval : ∀ (j : Nat) t v, Tryd.f7.params[j]? = some t → args[j]? = some v → Value.okWide Tryd.prog W .any base t v := hval0
  have hW' := hW
  obtain ⟨p, q, hA0, hV, rfl, _, _⟩ := hW
  have hA : DataW.TrodAll enc Tryd.prog W 0 (fun _ => true) true Tryd.f7.params.toList args.toList ds p := hA0
  rw [Tryd.params7] at hA hval
  obtain ⟨v0, vs0, d0, ds0, p0, q0, hargs, rfl, rfl, h0, r0⟩ := trodAll_cons hA
  obtain ⟨v1, vs1, d1, ds1, p1, q1, rfl, rfl, rfl, h1, r1⟩ := trodAll_cons r0
  obtain ⟨v2, vs2, d2, ds2, p2, q2, rfl, rfl, rfl, h2, r2⟩ := trodAll_cons r1
  obtain ⟨rfl, rfl, rfl⟩ := trodAll_nil r2
  obtain rfl : args = #[v0, v1, v2] := by cases args; simp_all
  obtain ⟨A0, c0, x0, rfl, hx0, hl0⟩ := open_mains (hval 0 22 v0 rfl rfl) h0
  obtain ⟨A1, c1, x1, rfl, hx1, hl1⟩ := open_bytes (hval 1 51 v1 rfl rfl) h1
  obtain ⟨A2, c2, x2, rfl, hx2, hl2⟩ := open_bytes (hval 2 51 v2 rfl rfl) h2
  obtain ⟨rfl, rfl⟩ := trodVars_none hV
  refine (wtrue_any A0 c0 x0 A1 c1 x1 A2 c2 x2 W (tab_of_laid hL) hx0 hl0 hx1 hl1 hx2 hl2).mono fun e W' ⟨he, hB⟩ => ?_
  subst he
  exact ⟨_, rfl, law_post seat_laid rfl rfl (tb := 4) (by kernel_rfl) Tryd.underlying4 (by rw [Tryd.params7]; decide +kernel) hW' hB⟩

theorem wellsTrue_holds : Rows.WellsTrueSaid :=
  OpenClaim.holds_of_wide 7 Tryd.f7 rfl rfl rfl rfl rfl rfl rfl ⟨rfl, rfl, rfl, rfl, rfl⟩ rfl rfl rfl rfl rfl (by kernel_rfl) Tryd.func7 (by kernel_rfl)
    (of_decide_eq_true (by kernel_rfl)) (by unfold Func.isWrapper; first | (rw [if_pos (by decide +kernel)]; kernel_rfl) | (rw [if_neg (by decide +kernel)]; exact ⟨rfl, rfl⟩))
    (fun os started H enc _ => wellsTrue_lifted os started H enc)
theorem wellsTrue_card : Rows.WellsTrueCardSaid :=
  Claim7.holds_tied_plain_at .later [] [.data, .data] true (true, "cf23d6eef2d89d246ff42f08651cc99453d119ee63c643524cb4f2ea551eeb6c") false
    wellsTrue_holds (fun _ h => by cases h) (by kernel_rfl) (fun _ h => by cases h) wellsTrue_row_tie rfl ⟨rfl, rfl⟩ (by kernel_rfl) rfl
    (fun f fn hf hfn => by
      obtain rfl : f = 7 := Option.some.inj ((show Tryd.prog.funcNamed "geyserite/geyseritelaw08.WellsTrue" = some 7 by kernel_rfl).symm.trans hf) |>.symm
      obtain rfl : fn = Tryd.f7 := (Option.some.inj (Tryd.func7.symm.trans hfn)).symm
      exact ⟨by kernel_rfl, fun j t ht => by
        rw [Tryd.params7] at ht
        have hm : t ∈ [22, 51, 51] := by simpa using Array.mem_of_getElem? ht
        have hall : ([22, 51, 51].all fun u => !Tryd.prog.wantsStandIn u) = true := by kernel_rfl
        exact (show Tryd.prog.wantsStandIn t = false by simpa using List.all_eq_true.1 hall t hm)⟩)
    (by kernel_rfl)
end Go.Proofs.YtgdilbilhajgaaaDoor
