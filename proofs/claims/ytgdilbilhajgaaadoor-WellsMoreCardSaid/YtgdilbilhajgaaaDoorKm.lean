/- WellsMore: for every input the law returns true, and each argument reads behind the call as it read before. -/
import Derived.Test.YtgdilbilhajgaaaDoorTj
import Derived.Test.YtgdilbilhajgaaaDoorOi
namespace Go.Proofs.YtgdilbilhajgaaaDoor
set_option linter.unusedVariables false
set_option linter.unusedSimpArgs false
open Go Go.ChangeShapes Go.WideShapes Go.ChangeAt Go.RowKit

theorem cells42 : Tryd.prog.cellsOf 42 = 3 := by kernel_rfl
set_option maxRecDepth 100000 in
theorem open_reading {H : Type} {enc : TypeId × Value → H} {w : World} {base : Nat} {r : Reach} {b0 : Nat} {v : Value} {d : DataW H} {p : List MemPlace} {spare : Nat → Bool} {held : Bool} (hv : Value.okWide Tryd.prog w r b0 42 v) (h : DataW.Trod enc Tryd.prog w base spare held 42 v d p) :
    ∃ r : Int × Int × Int, v = .agg #[I r.1, I r.2.1, I r.2.2] ∧ True := by
  obtain ⟨cs, rfl, hsz⟩ := okWide_struct Tryd.underlying42 hv
  obtain ⟨fuel, hf⟩ := h
  have hc : cs.toList.length = 3 := by
    rw [cells42] at hsz
    simpa using hsz
  have key := ints42 H enc w base spare held fuel cs.toList _ hf hc
  obtain ⟨a, ha, _⟩ := key 0 (by omega)
  obtain ⟨b, hb, _⟩ := key 1 (by omega)
  obtain ⟨c, hc', _⟩ := key 2 (by omega)
  obtain ⟨l⟩ := cs
  match l, hc with
  | [u0, u1, u2], _ =>
    simp at ha hb hc'
    subst ha hb hc'
    exact ⟨(a, b, c), rfl, trivial⟩
set_option maxRecDepth 100000 in
theorem wellsMore_lifted (os : Os) (started : os.Started) (H : Type) (enc : TypeId × Value → H) :
    ReturnsInHanded {} Tryd.checked os 9 .any (fun w args => (Rows.wellsMoreSpec.pre enc Tryd.prog Tryd.f9 [] false w args ∧ laidMetH Tryd.prog laidT w) ∧ sizedMet enc Tryd.prog Tryd.f9 (OpenSpec.ofChange Rows.wellsMoreSpec) false w args)
      (Rows.wellsMoreSpec.post enc Tryd.prog Tryd.f9 false true false false) := by
  refine returnsInHanded_of_change_and (C := Tryd.checked) (X := fun w _ => laidMetH Tryd.prog laidT w) (fun _ _ _ hh h => h.of_heap hh) seat_own started (by kernel_rfl) Tryd.func9
    (ChangeSpec.witness_shaped (enc := enc) (C := Tryd.checked) (os := os) (X := fun w _ => laidMetH Tryd.prog laidT w) false (World.doorLaid Tryd.prog 400 os) #[.slice none 0 0, .slice none 0 0, .agg #[I 0, I 0, I 0], I 0, .int .u8 0, .int .u8 0] 8 rfl (World.shaped_of_RefB (by kernel_rfl) (by kernel_rfl)) (by kernel_rfl) (by kernel_rfl) (by kernel_rfl) (door_met os _)) ?_
  intro W base args ds gs before hval0 hW _ _ hL _
  have hval : ∀ (j : Nat) t v, Tryd.f9.params[j]? = some t → args[j]? = some v → Value.okWide Tryd.prog W .any base t v := hval0
  have hW' := hW
  obtain ⟨p, q, hA0, hV, rfl, _, _⟩ := hW
  have hA : DataW.TrodAll enc Tryd.prog W 0 (fun _ => true) true Tryd.f9.params.toList args.toList ds p := hA0
  rw [Tryd.params9] at hA hval
  obtain ⟨v0, vs0, d0, ds0, p0, q0, hargs, rfl, rfl, h0, r0⟩ := trodAll_cons hA
  obtain ⟨v1, vs1, d1, ds1, p1, q1, rfl, rfl, rfl, h1, r1⟩ := trodAll_cons r0
  obtain ⟨v2, vs2, d2, ds2, p2, q2, rfl, rfl, rfl, h2, r2⟩ := trodAll_cons r1
  obtain ⟨v3, vs3, d3, ds3, p3, q3, rfl, rfl, rfl, h3, r3⟩ := trodAll_cons r2
  obtain ⟨v4, vs4, d4, ds4, p4, q4, rfl, rfl, rfl, h4, r4⟩ := trodAll_cons r3
  obtain ⟨v5, vs5, d5, ds5, p5, q5, rfl, rfl, rfl, h5, r5⟩ := trodAll_cons r4
  obtain ⟨rfl, rfl, rfl⟩ := trodAll_nil r5
  obtain rfl : args = #[v0, v1, v2, v3, v4, v5] := by cases args; simp_all
  obtain ⟨A0, c0, x0, rfl, hx0, hl0⟩ := open_mains (hval 0 22 v0 rfl rfl) h0
  obtain ⟨A1, c1, x1, rfl, hx1, hl1⟩ := open_readings (hval 1 23 v1 rfl rfl) h1
  obtain ⟨x2, rfl, hj2⟩ := open_reading (hval 2 42 v2 rfl rfl) h2
  obtain ⟨x3, rfl, hi3⟩ := open_int3 (hval 3 3 v3 rfl rfl) h3
  have hj3 : -9223372036854775808 ≤ x3 ∧ x3 ≤ 9223372036854775807 := by simpa [Lit.wf, IntKind.min, IntKind.max, IntKind.signed, IntKind.bits] using hi3
  obtain ⟨x4, rfl, _, _, hi4⟩ := open_int Tryd.underlying5 (hval 4 5 v4 rfl rfl) h4
  have hj4 : 0 ≤ x4 ∧ x4 ≤ 255 := by simpa [Lit.wf, IntKind.min, IntKind.max, IntKind.signed, IntKind.bits] using hi4
  obtain ⟨x5, rfl, _, _, hi5⟩ := open_int Tryd.underlying5 (hval 5 5 v5 rfl rfl) h5
  have hj5 : 0 ≤ x5 ∧ x5 ≤ 255 := by simpa [Lit.wf, IntKind.min, IntKind.max, IntKind.signed, IntKind.bits] using hi5
  obtain ⟨rfl, rfl⟩ := trodVars_none hV
  refine (wmore_any A0 c0 x0 A1 c1 x1 x2 x3 x4 x5 W (tab_of_laid hL) hx0 hl0 hx1 hl1 hj2 hj3.1 hj3.2 hj4.1 hj4.2 hj5.1 hj5.2).mono fun e W' ⟨he, hB⟩ => ?_
  subst he
  exact ⟨_, rfl, law_post seat_laid rfl rfl (tb := 4) (by kernel_rfl) Tryd.underlying4 (by rw [Tryd.params9]; decide +kernel) hW' hB⟩

theorem wellsMore_holds : Rows.WellsMoreSaid :=
  OpenClaim.holds_of_wide 9 Tryd.f9 rfl rfl rfl rfl rfl rfl rfl ⟨rfl, rfl, rfl, rfl, rfl⟩ rfl rfl rfl rfl rfl (by kernel_rfl) Tryd.func9 (by kernel_rfl)
    (of_decide_eq_true (by kernel_rfl)) (by unfold Func.isWrapper; first | (rw [if_pos (by decide +kernel)]; kernel_rfl) | (rw [if_neg (by decide +kernel)]; exact ⟨rfl, rfl⟩))
    (fun os started H enc _ => wellsMore_lifted os started H enc)
theorem wellsMore_card : Rows.WellsMoreCardSaid :=
  Claim7.holds_tied_plain_at .later [] [.data, .data] true (true, "cf23d6eef2d89d246ff42f08651cc99453d119ee63c643524cb4f2ea551eeb6c") false
    wellsMore_holds (fun _ h => by cases h) (by kernel_rfl) (fun _ h => by cases h) wellsMore_row_tie rfl ⟨rfl, rfl⟩ (by kernel_rfl) rfl
    (fun f fn hf hfn => by
      obtain rfl : f = 9 := Option.some.inj ((show Tryd.prog.funcNamed "geyserite/geyseritelaw08.WellsMore" = some 9 by kernel_rfl).symm.trans hf) |>.symm
      obtain rfl : fn = Tryd.f9 := (Option.some.inj (Tryd.func9.symm.trans hfn)).symm
      exact ⟨by kernel_rfl, fun j t ht => by
        rw [Tryd.params9] at ht
        have hm : t ∈ [22, 23, 42, 3, 5, 5] := by simpa using Array.mem_of_getElem? ht
        have hall : ([22, 23, 42, 3, 5, 5].all fun u => !Tryd.prog.wantsStandIn u) = true := by kernel_rfl
        exact (show Tryd.prog.wantsStandIn t = false by simpa using List.all_eq_true.1 hall t hm)⟩)
    (by kernel_rfl)
end Go.Proofs.YtgdilbilhajgaaaDoor
