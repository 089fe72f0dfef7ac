/- Law 6, whole. -/
import Derived.Test.YtijgfdncocjncaaG15
namespace Go.Proofs.Ytijgfdncocjncaa
set_option linter.unusedVariables false
set_option linter.unusedSimpArgs false
open Go Go.RowKit

theorem any6 (x : Wat) (A B : Option Addr) (c d : Nat) (f t : Int) (la tu : Nat) (w : World) (h64 : Wat64 x) (hW : WatAt w x A B) (hla : la < 65536) (htu : tu < 256) :
    Calls Try.prog 6 #[x.val A c B d, .agg #[I f, I t], .int .u16 la, .int .u8 tu] w fun e w' => e = .returned (.bool true) ∧ Below w.heap.size w w' := by
  cases hlg : lrgB x 40
  · cases hwb : watB x
    · exact any6_bad x A B c d f t la tu w h64 hW hla htu hlg hwb
    · by_cases hov : x.en + la ≤ 1048576
      · exact any6_ok x A B c d f t la tu w h64 hW hla htu hlg hwb hov
      · exact any6_over x A B c d f t la tu w h64 hW hla htu hlg hwb (by omega)
  · exact any6_large x A B c d f t la tu w h64 hW hla htu hlg
end Go.Proofs.Ytijgfdncocjncaa
