/- The library's functions: products, the lowest bit. -/
import Derived.Test.YtgdilbilhajgaaaDoorSh
import Derived.Test.YtgdilbilhajgaaaDoorE4
import Derived.Shelf.Bits.Mul64
import Derived.Shelf.Spec.TrailingZeros
namespace Go.Proofs.YtgdilbilhajgaaaDoor
set_option linter.unusedVariables false
set_option linter.unusedSimpArgs false
open Go Go.RowKit Go.Shelf

theorem mulOk : MulOk := fun n hn W => by
  have h := Proofs.Any.bits_Mul Proofs.Tryd.mulL 1 n (by omega) (by omega) W
  refine (show Calls Tryd.prog 90 _ W _ from h).mono fun e w' ⟨h1, h2⟩ => ⟨?_, h2.symm⟩
  rw [h1]
  have e1 : 1 * n / 18446744073709551616 = 0 := by omega
  have e2 : 1 * n % 18446744073709551616 = n := by omega
  rw [e1, e2]
  rfl
theorem ctz58 (x : Nat) (hx : x < 18446744073709551616) (w : World) (hT : x ≠ 0 → TabAt (Proofs.Tryd.ctzL_ren.g 1) Lib.deBruijn64tab w) :
    Calls Tryd.prog 58 #[.int .u64 x] w fun e w' => e = .returned (.int .i64 (Lib.ctz 64 x)) ∧ w = w' :=
  (show Calls Tryd.prog 58 _ w _ from Proofs.Any7.bits_TrailingZeros Proofs.Tryd.ctzL x hx w hT).mono fun e w' ⟨h1, h2⟩ => ⟨h1, h2.symm⟩
end Go.Proofs.YtgdilbilhajgaaaDoor
