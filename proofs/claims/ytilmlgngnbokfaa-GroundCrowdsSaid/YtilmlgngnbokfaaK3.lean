/- GroundCrowds: no crowd that keeps its distance makes a post bear more than its pressure, for all decks and bytes. -/
import Derived.Test.YtilmlgngnbokfaaT3
import Derived.Test.YtilmlgngnbokfaaO6
namespace Go.Proofs.Ytilmlgngnbokfaa
set_option linter.unusedVariables false
set_option linter.unusedSimpArgs false
open Go Go.ChangeShapes Go.WideShapes Go.ChangeAt Go.RowKit

set_option maxRecDepth 100000 in
theorem open_bytes {H : Type} {enc : TypeId × Value → H} {w : World} {base : Nat} {r : Reach} {b0 : Nat} {v : Value} {d : DataW H} {p : List MemPlace} {spare : Nat → Bool} {held : Bool} (hv : Value.okWide Try.prog w r b0 25 v) (h : DataW.Trod enc Try.prog w base spare held 25 v d p) :
    ∃ A c ys, v = .slice A ys.length c ∧ Bytes w w.heap.size A ys ∧ ys.length ≤ 9223372036854775807 := by
  obtain ⟨a, len, cap, rfl⟩ := okWide_slice Try.underlying25 hv
  obtain ⟨n, hn⟩ := h
  obtain ⟨A, len', cap', he, hl, hc⟩ := open_introw Try.underlying25 Try.underlying5 (by kernel_rfl) hn
  rw [he]
  rcases Nat.eq_zero_or_pos len' with h0 | h0
  · subst h0
    exact ⟨A, cap', [], rfl, ⟨fun h => by simp at h, by simp⟩, by simp⟩
  · obtain ⟨b, off, rfl, hb, hcs⟩ := hc h0
    refine ⟨_, cap', List.ofFn fun i : Fin len' => Classical.choose (hcs i.1 i.2), by simp, ⟨fun _ => ⟨b, off, rfl, hb, fun k hk => ?_⟩, fun y hy => ?_⟩, by simpa using hl⟩
    · have hk' : k < len' := by simpa using hk
      rw [List.getElem_ofFn]
      exact (Classical.choose_spec (hcs k hk')).1
    · rw [List.mem_ofFn] at hy
      obtain ⟨i, rfl⟩ := hy
      have := (Classical.choose_spec (hcs i.1 i.2)).2
      simpa [Lit.wf, IntKind.min, IntKind.max, IntKind.signed, IntKind.bits] using this

set_option maxRecDepth 100000 in
theorem groundCrowds_lifted (os : Os) (started : os.Started) (H : Type) (enc : TypeId × Value → H) :
    ReturnsInHanded {} Try.checked os 3 .any (Rows.groundCrowdsSpec.pre6 enc Try.prog Try.f3 Rows.groundCrowdsRow.domain false) (Rows.groundCrowdsSpec.post enc Try.prog Try.f3 false true false false) := by
  refine returnsInHanded_of_change (C := Try.checked) seat_own started (by kernel_rfl) Try.func3
    (ChangeSpec.witness6 (enc := enc) (C := Try.checked) false ⟨#[], #[.agg #[.slice none 0 0, .slice none 0 0, I 0, I 0, I 0, I 0], .slice none 0 0], []⟩ 8 (by kernel_rfl) (by kernel_rfl) (by kernel_rfl) (by kernel_rfl)) ?_
  intro W base args ds gs before hval0 hW _ _
  have hval : ∀ (j : Nat) t v, Try.f3.params[j]? = some t → args[j]? = some v → Value.okWide Try.prog W .any base t v := hval0
  have hW' := hW
  obtain ⟨p, q, hA0, hV, rfl, _, _⟩ := hW
  have hA : DataW.TrodAll enc Try.prog W 0 (fun _ => true) true Try.f3.params.toList args.toList ds p := hA0
  rw [Try.params3] at hA hval
  obtain ⟨v0, vs0, d0, ds0, p0, q0, hargs, rfl, rfl, h0, r0⟩ := trodAll_cons hA
  obtain ⟨v1, vs1, d1, ds1, p1, q1, rfl, rfl, rfl, h1, r1⟩ := trodAll_cons r0
  obtain ⟨rfl, rfl, rfl⟩ := trodAll_nil r1
  obtain rfl : args = #[v0, v1] := by cases args; simp_all
  obtain ⟨Ap, Al, cp, cl, d, rfl, hp, hb, hpl, hbl⟩ := open_deck (hval 0 24 v0 rfl rfl) h0
  obtain ⟨B, cb, ys, rfl, hy, hyl⟩ := open_bytes (hval 1 25 v1 rfl rfl) h1
  obtain ⟨rfl, rfl⟩ := trodVars_none hV
  refine (crowds_any Ap Al cp cl d B cb ys W hp hb hpl hbl hy hyl).mono fun e W' ⟨he, hB⟩ => ?_
  subst he
  exact ⟨_, rfl, law_post seat_laid rfl rfl (tb := 4) (by kernel_rfl) Try.underlying4 (by rw [Try.params3]; decide +kernel) hW' hB⟩

theorem groundCrowds_holds : Rows.GroundCrowdsSaid :=
  OpenClaim.holds_of_wide 3 Try.f3 rfl rfl rfl rfl rfl rfl rfl ⟨rfl, rfl, rfl, rfl, rfl⟩ rfl rfl rfl rfl rfl (by kernel_rfl) Try.func3 (by kernel_rfl)
    (of_decide_eq_true (by kernel_rfl)) (by unfold Func.isWrapper; first | (rw [if_pos (by decide +kernel)]; kernel_rfl) | (rw [if_neg (by decide +kernel)]; exact ⟨rfl, rfl⟩))
    (fun os started H enc _ => groundCrowds_lifted os started H enc)
end Go.Proofs.Ytilmlgngnbokfaa
