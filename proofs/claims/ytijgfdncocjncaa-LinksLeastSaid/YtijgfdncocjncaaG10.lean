/- Law 5, whole. -/
import Derived.Test.YtijgfdncocjncaaG9
namespace Go.Proofs.Ytijgfdncocjncaa
set_option linter.unusedVariables false
set_option linter.unusedSimpArgs false
open Go Go.RowKit

theorem any5 (x : Wat) (A B : Option Addr) (c d b : Nat) (w : World) (h64 : Wat64 x) (hW : WatAt w x A B) (hb : b < 4294967296) :
    Calls Try.prog 5 #[x.val A c B d, .int .u32 b] w fun e w' => e = .returned (.bool true) ∧ Below w.heap.size w w' := by
  cases hlg : lrgB x 40
  · cases hwb : watB x
    · exact any5_bad x A B c d b w h64 hW hb hlg hwb
    · cases ho : fewTo x x.n with
      | none => exact any5_none x A B c d b w h64 hW hb hlg hwb ho
      | some o => exact any5_ok x A B c d b w h64 hW hb hlg hwb ho
  · exact any5_large x A B c d b w h64 hW hb hlg
end Go.Proofs.Ytijgfdncocjncaa
