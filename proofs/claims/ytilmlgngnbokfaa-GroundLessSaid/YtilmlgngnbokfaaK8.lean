/- GroundLess: with fewer or lighter persons, a lighter deck, or persons farther apart no pressure is more; with one sounding more, or a firmer ground, no deck breaks that did not break before; a deck that Most and Apart allow does not break; for all ground, soundings and decks. -/
import Derived.Test.YtilmlgngnbokfaaT8a
import Derived.Test.YtilmlgngnbokfaaT8b
import Derived.Test.YtilmlgngnbokfaaT8c
import Derived.Test.YtilmlgngnbokfaaO6
namespace Go.Proofs.Ytilmlgngnbokfaa
set_option linter.unusedVariables false
set_option linter.unusedSimpArgs false
open Go Go.ChangeShapes Go.WideShapes Go.ChangeAt Go.RowKit

theorem less_any8 (A : Option Addr) (c : Nat) (g : Grd) (B : Option Addr) (cb : Nat) (l : List (Int × Int × Int)) (Ap Al : Option Addr) (cp cl : Nat) (d : Deck) (y s1 s2 s3 : Int) (w : World) (ha : Args w A g B l Ap Al d) (hy : 0 ≤ y ∧ y ≤ 255) :
    Calls Try.prog 8 #[g.val A c, .slice B l.length cb, d.val Ap Al cp cl, .int .u8 y, .agg #[I s1, I s2, I s3]] w fun e w' => e = .returned (.bool true) ∧ Below w.heap.size w w' := by
  by_cases h : AllOk g l d ∧ wrongI g.radar l < 0
  · cases hb : bearsB d (crustL g.radar l) g.firm
    · exact less_no A c g B cb l Ap Al cp cl d y s1 s2 s3 w ha hy h.1 h.2 hb
    · exact less_yes A c g B cb l Ap Al cp cl d y s1 s2 s3 w ha hy h.1 h.2 hb
  · exact less_bad A c g B cb l Ap Al cp cl d y s1 s2 s3 w ha h

set_option maxRecDepth 100000 in
theorem open_sound {H : Type} {enc : TypeId × Value → H} {w : World} {base : Nat} {r : Reach} {b0 : Nat} {v : Value} {d : DataW H} {p : List MemPlace} {spare : Nat → Bool} {held : Bool} (hv : Value.okWide Try.prog w r b0 55 v) (h : DataW.Trod enc Try.prog w base spare held 55 v d p) :
    ∃ s1 s2 s3 : Int, v = .agg #[I s1, I s2, I s3] := by
  obtain ⟨cs, rfl, hsz⟩ := okWide_struct Try.underlying55 hv
  obtain ⟨l⟩ := cs
  obtain ⟨fuel, hf⟩ := h
  have hl : l.length = 3 := hsz.trans (by kernel_rfl)
  have hi := ints55 H enc w base spare held fuel l _ hf hl
  obtain ⟨z0, h0, _⟩ := hi 0 (by decide)
  obtain ⟨z1, h1, _⟩ := hi 1 (by decide)
  obtain ⟨z2, h2, _⟩ := hi 2 (by decide)
  match l, hl with
  | [x0, x1, x2], _ =>
    simp at h0 h1 h2
    exact ⟨z0, z1, z2, by rw [h0, h1, h2]⟩

set_option maxRecDepth 100000 in
theorem groundLess_lifted (os : Os) (started : os.Started) (H : Type) (enc : TypeId × Value → H) :
    ReturnsInHanded {} Try.checked os 8 .any (Rows.groundLessSpec.pre6 enc Try.prog Try.f8 Rows.groundLessRow.domain false) (Rows.groundLessSpec.post enc Try.prog Try.f8 false true false false) := by
  refine returnsInHanded_of_change (C := Try.checked) seat_own started (by kernel_rfl) Try.func8
    (ChangeSpec.witness6 (enc := enc) (C := Try.checked) false ⟨#[], #[.agg #[I 0, I 0, .slice none 0 0], .slice none 0 0, .agg #[.slice none 0 0, .slice none 0 0, I 0, I 0, I 0, I 0], .int .u8 0, .agg #[I 0, I 0, I 0]], []⟩ 8 (by kernel_rfl) (by kernel_rfl) (by kernel_rfl) (by kernel_rfl)) ?_
  intro W base args ds gs before hval0 hW _ _
  have hval : ∀ (j : Nat) t v, Try.f8.params[j]? = some t → args[j]? = some v → Value.okWide Try.prog W .any base t v := hval0
  have hW' := hW
  obtain ⟨p, q, hA0, hV, rfl, _, _⟩ := hW
  have hA : DataW.TrodAll enc Try.prog W 0 (fun _ => true) true Try.f8.params.toList args.toList ds p := hA0
  rw [Try.params8] at hA hval
  obtain ⟨v0, vs0, d0, ds0, p0, q0, hargs, rfl, rfl, h0, r0⟩ := trodAll_cons hA
  obtain ⟨v1, vs1, d1, ds1, p1, q1, rfl, rfl, rfl, h1, r1⟩ := trodAll_cons r0
  obtain ⟨v2, vs2, d2, ds2, p2, q2, rfl, rfl, rfl, h2, r2⟩ := trodAll_cons r1
  obtain ⟨v3, vs3, d3, ds3, p3, q3, rfl, rfl, rfl, h3, r3⟩ := trodAll_cons r2
  obtain ⟨v4, vs4, d4, ds4, p4, q4, rfl, rfl, rfl, h4, r4⟩ := trodAll_cons r3
  obtain ⟨rfl, rfl, rfl⟩ := trodAll_nil r4
  obtain rfl : args = #[v0, v1, v2, v3, v4] := by cases args; simp_all
  obtain ⟨A, c, g, rfl, hg, hgl⟩ := open_grd (hval 0 29 v0 rfl rfl) h0
  obtain ⟨B, cb, l, rfl, hl, hll⟩ := open_snd (hval 1 45 v1 rfl rfl) h1
  obtain ⟨Ap, Al, cp, cl, d, rfl, hp, hb, hpl, hbl⟩ := open_deck (hval 2 24 v2 rfl rfl) h2
  obtain ⟨y, rfl, _, _, hy⟩ := open_int Try.underlying5 (hval 3 5 v3 rfl rfl) h3
  have hy' : 0 ≤ y ∧ y ≤ 255 := by simpa [Lit.wf, IntKind.min, IntKind.max, IntKind.signed, IntKind.bits] using hy
  obtain ⟨s1, s2, s3, rfl⟩ := open_sound (hval 4 55 v4 rfl rfl) h4
  obtain ⟨rfl, rfl⟩ := trodVars_none hV
  refine (less_any8 A c g B cb l Ap Al cp cl d y s1 s2 s3 W ⟨hg, hl, hgl, hll, hp, hb, hpl, hbl⟩ hy').mono fun e W' ⟨he, hB⟩ => ?_
  subst he
  exact ⟨_, rfl, law_post seat_laid rfl rfl (tb := 4) (by kernel_rfl) Try.underlying4 (by rw [Try.params8]; decide +kernel) hW' hB⟩

theorem groundLess_holds : Rows.GroundLessSaid :=
  OpenClaim.holds_of_wide 8 Try.f8 rfl rfl rfl rfl rfl rfl rfl ⟨rfl, rfl, rfl, rfl, rfl⟩ rfl rfl rfl rfl rfl (by kernel_rfl) Try.func8 (by kernel_rfl)
    (of_decide_eq_true (by kernel_rfl)) (by unfold Func.isWrapper; first | (rw [if_pos (by decide +kernel)]; kernel_rfl) | (rw [if_neg (by decide +kernel)]; exact ⟨rfl, rfl⟩))
    (fun os started H enc _ => groundLess_lifted os started H enc)
end Go.Proofs.Ytilmlgngnbokfaa
