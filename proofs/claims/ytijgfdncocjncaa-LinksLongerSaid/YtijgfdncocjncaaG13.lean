/- Law 7, whole. -/
import Derived.Test.YtijgfdncocjncaaG12
namespace Go.Proofs.Ytijgfdncocjncaa
set_option linter.unusedVariables false
set_option linter.unusedSimpArgs false
open Go Go.RowKit

theorem any7 (x : Wat) (A B : Option Addr) (c d : Nat) (f t : Int) (wh by_ : Nat) (w : World) (h64 : Wat64 x) (hW : WatAt w x A B) (hwh : wh < 256) (hby : by_ < 256) :
    Calls Try.prog 7 #[x.val A c B d, .agg #[I f, I t], .int .u8 wh, .int .u8 by_] w fun e w' => e = .returned (.bool true) ∧ Below w.heap.size w w' := by
  cases hlg : lrgB x 40
  · cases hwb : watB x
    · exact any7_err x A B c d f t wh by_ w h64 hW hwh hby hlg (z2 := 1) (by unfold hldR; rw [hwb]; rfl) (by decide)
    · by_cases hof : 0 ≤ f ∧ f < x.hb.length ∧ 0 ≤ t ∧ t < x.hb.length ∧ f ≠ t
      · obtain ⟨h1, h2, h3, h4, h5⟩ := hof
        obtain ⟨fn, rfl⟩ : ∃ n : Nat, f = (n : Int) := ⟨f.toNat, by omega⟩
        obtain ⟨tn, rfl⟩ : ∃ n : Nat, t = (n : Int) := ⟨t.toNat, by omega⟩
        exact any7_ok x A B c d fn tn wh by_ w h64 hW hwh hby hlg hwb (by omega) (by omega) (by omega)
      · refine any7_err x A B c d f t wh by_ w h64 hW hwh hby hlg (z2 := 2) ?_ (by decide)
        unfold hldR
        have hn : x.n = x.hb.length := rfl
        rw [hwb, if_pos rfl, if_neg]
        unfold inB
        intro h
        simp only [Bool.and_eq_true, decide_eq_true_eq, Bool.not_eq_true', beq_eq_false_iff_ne] at h
        exact hof ⟨h.1.1.1, by omega, h.1.2.1, by omega, h.2⟩
  · exact any7_large x A B c d f t wh by_ w h64 hW hwh hby hlg
end Go.Proofs.Ytijgfdncocjncaa
