/-
  No cell of these rows narrows 'for every input' (looked for: loops, veiled, ifaces, maps, wideKeys, modest, calm, conditions, laid).
  DERIVED. THE GIVEN ROWS OF THIS SEAT. 5 by the template 'for every input the law returns true; each argument reads behind the call as it read before'; 0 by the template 'total and deterministic' (their statements: YtijgfdncocjncaaTotals.lean).
  GIVEN WITH THE SEED: the statements are not yours to turn. If you find one false, say at which input.
  Laid BY PROGRAM, IN A SANDBOX (cutbox-rows.mjs): the forced cells as the released guide's own fill.sh prints them over the translation 3afe8444a75c28ce… (all of the seat's roots in one cut). By AI agents, Wed Nov 11 2026. No macro, syntax, notation, axiom, sorry.
-/
import Derived.Test.YtijgfdncocjncaaChecked
import GoSem.Claim
import GoSem.ClaimJoined
import GoSem.ClaimMapViews
import Derived.JoinedTies
import Derived.KernelRfl
namespace Go.Proofs.Ytijgfdncocjncaa
/- THE CELL 'sum', in the pinned program and in every row, IS THE sha256 OF THE DUMP (.gsa) THAT YtijgfdncocjncaaProg.lean LOADS. Nothing in Lean hashes anything: it is a label: what it is worth is what the hold of that sum in a sandbox is worth. -/
noncomputable def Try.pinned : Pinned := { name := "ytijgfdncocjncaa", sum := "3afe8444a75c28cec3c20cf78673fbd81db07d2df623a317256fbacf13872d08", checked := Try.checked }
namespace Rows
def none {H : Type} : Left H := { results := [], args := [] }

/-- 'geyseritelaw05.LinksHolds': WHATEVER THE INPUT: true; the input reads as it did. -/
def linksHoldsSpec : ChangeSpec := { name := "linksHolds", fn := fun _ => fun
  | [d1, d2] => { results := [.lit (.bool true)], args := [d1, d2] }
  | _ => none }
def linksHoldsRow : OpenClaim := { program := "ytijgfdncocjncaa", sum := "3afe8444a75c28cec3c20cf78673fbd81db07d2df623a317256fbacf13872d08", func := "geyserite/geyseritelaw05.LinksHolds", spec := "linksHolds", unfollowed := true, recurses := true, plainKeys := false, apart := false }
def LinksHoldsSaid : Prop := linksHoldsRow.holds Try.pinned (OpenSpec.ofChange linksHoldsSpec)

/-- ITS FALSE NEIGHBOUR: 'it returns false'. Refute it at one input. -/
def linksHoldsWrong : ChangeSpec := { name := "linksHolds", fn := fun _ => fun
  | [d1, d2] => { results := [.lit (.bool false)], args := [d1, d2] }
  | _ => none }
def LinksHoldsWrongFalsely : Prop := linksHoldsRow.holds Try.pinned (OpenSpec.ofChange linksHoldsWrong)

/-- 'geyseritelaw05.LinksFewest': WHATEVER THE INPUT: true; the input reads as it did. -/
def linksFewestSpec : ChangeSpec := { name := "linksFewest", fn := fun _ => fun
  | [d] => { results := [.lit (.bool true)], args := [d] }
  | _ => none }
def linksFewestRow : OpenClaim := { program := "ytijgfdncocjncaa", sum := "3afe8444a75c28cec3c20cf78673fbd81db07d2df623a317256fbacf13872d08", func := "geyserite/geyseritelaw05.LinksFewest", spec := "linksFewest", unfollowed := true, recurses := true, plainKeys := false, apart := false }
def LinksFewestSaid : Prop := linksFewestRow.holds Try.pinned (OpenSpec.ofChange linksFewestSpec)

/-- ITS FALSE NEIGHBOUR: 'it returns false'. Refute it at one input. -/
def linksFewestWrong : ChangeSpec := { name := "linksFewest", fn := fun _ => fun
  | [d] => { results := [.lit (.bool false)], args := [d] }
  | _ => none }
def LinksFewestWrongFalsely : Prop := linksFewestRow.holds Try.pinned (OpenSpec.ofChange linksFewestWrong)

/-- 'geyseritelaw05.LinksLeast': WHATEVER THE INPUT: true; the input reads as it did. -/
def linksLeastSpec : ChangeSpec := { name := "linksLeast", fn := fun _ => fun
  | [d1, d2] => { results := [.lit (.bool true)], args := [d1, d2] }
  | _ => none }
def linksLeastRow : OpenClaim := { program := "ytijgfdncocjncaa", sum := "3afe8444a75c28cec3c20cf78673fbd81db07d2df623a317256fbacf13872d08", func := "geyserite/geyseritelaw05.LinksLeast", spec := "linksLeast", unfollowed := true, recurses := true, plainKeys := false, apart := false }
def LinksLeastSaid : Prop := linksLeastRow.holds Try.pinned (OpenSpec.ofChange linksLeastSpec)

/-- ITS FALSE NEIGHBOUR: 'it returns false'. Refute it at one input. -/
def linksLeastWrong : ChangeSpec := { name := "linksLeast", fn := fun _ => fun
  | [d1, d2] => { results := [.lit (.bool false)], args := [d1, d2] }
  | _ => none }
def LinksLeastWrongFalsely : Prop := linksLeastRow.holds Try.pinned (OpenSpec.ofChange linksLeastWrong)

/-- 'geyseritelaw05.LinksShift': WHATEVER THE INPUT: true; the input reads as it did. -/
def linksShiftSpec : ChangeSpec := { name := "linksShift", fn := fun _ => fun
  | [d1, d2, d3, d4] => { results := [.lit (.bool true)], args := [d1, d2, d3, d4] }
  | _ => none }
def linksShiftRow : OpenClaim := { program := "ytijgfdncocjncaa", sum := "3afe8444a75c28cec3c20cf78673fbd81db07d2df623a317256fbacf13872d08", func := "geyserite/geyseritelaw05.LinksShift", spec := "linksShift", unfollowed := true, recurses := true, plainKeys := false, apart := false }
def LinksShiftSaid : Prop := linksShiftRow.holds Try.pinned (OpenSpec.ofChange linksShiftSpec)

/-- ITS FALSE NEIGHBOUR: 'it returns false'. Refute it at one input. -/
def linksShiftWrong : ChangeSpec := { name := "linksShift", fn := fun _ => fun
  | [d1, d2, d3, d4] => { results := [.lit (.bool false)], args := [d1, d2, d3, d4] }
  | _ => none }
def LinksShiftWrongFalsely : Prop := linksShiftRow.holds Try.pinned (OpenSpec.ofChange linksShiftWrong)

/-- 'geyseritelaw05.LinksLonger': WHATEVER THE INPUT: true; the input reads as it did. -/
def linksLongerSpec : ChangeSpec := { name := "linksLonger", fn := fun _ => fun
  | [d1, d2, d3, d4] => { results := [.lit (.bool true)], args := [d1, d2, d3, d4] }
  | _ => none }
def linksLongerRow : OpenClaim := { program := "ytijgfdncocjncaa", sum := "3afe8444a75c28cec3c20cf78673fbd81db07d2df623a317256fbacf13872d08", func := "geyserite/geyseritelaw05.LinksLonger", spec := "linksLonger", unfollowed := true, recurses := true, plainKeys := false, apart := false }
def LinksLongerSaid : Prop := linksLongerRow.holds Try.pinned (OpenSpec.ofChange linksLongerSpec)

/-- ITS FALSE NEIGHBOUR: 'it returns false'. Refute it at one input. -/
def linksLongerWrong : ChangeSpec := { name := "linksLonger", fn := fun _ => fun
  | [d1, d2, d3, d4] => { results := [.lit (.bool false)], args := [d1, d2, d3, d4] }
  | _ => none }
def LinksLongerWrongFalsely : Prop := linksLongerRow.holds Try.pinned (OpenSpec.ofChange linksLongerWrong)

/- THE SECOND FORM. 'bulk': how many values and letters a reading holds, each counted each time it is reached (what is shared counts as often as it is met; a slice's spare places count too). A statement '..UptoSaid' is the law's where the arguments, and the package variables that the reading takes, are together of bulk at most 1048576: NARROWER than '..Said'. Prove '..Said' where nothing that the law and all that it calls make is longer than what came in: it says more and counts as full. Else prove '..UptoSaid'. A law counts once. -/
mutual
def uptoBulk {H : Type} : DataW H → Nat
  | .lit (.string bytes) => bytes.length + 1
  | .lit _ => 1
  | .nil => 1
  | .ptr d => uptoBulk d + 1
  | .slice elems spare => uptoBulkAll elems + uptoBulkAll spare + 1
  | .agg parts => uptoBulkAll parts + 1
  | .iface _ d => uptoBulk d + 1
  | .map entries => uptoBulkEntries entries + 1
  | .held _ => 1
def uptoBulkAll {H : Type} : List (DataW H) → Nat
  | [] => 0
  | d :: r => uptoBulk d + uptoBulkAll r
def uptoBulkEntries {H : Type} : List (Lit × DataW H) → Nat
  | [] => 0
  | x :: r => uptoBulkEntry x + uptoBulkEntries r
def uptoBulkEntry {H : Type} : Lit × DataW H → Nat
  | (.string bytes, d) => bytes.length + uptoBulk d + 1
  | (_, d) => uptoBulk d + 1
 end
def uptoSmall : (H : Type) → List (DataW H) → Bool := fun _ ds => decide (uptoBulkAll ds ≤ 1048576)
def OpenSpec.upto (s : _root_.Go.ChangeSpec) : _root_.Go.OpenSpec := { _root_.Go.OpenSpec.ofChange s with cond := some uptoSmall }

/-- 'geyseritelaw05.LinksHolds', WHERE WHAT IT READS IS OF BULK AT MOST 1048576: true; the input reads as it did. -/
def linksHoldsUptoRow : OpenClaim := { program := "ytijgfdncocjncaa", sum := "3afe8444a75c28cec3c20cf78673fbd81db07d2df623a317256fbacf13872d08", func := "geyserite/geyseritelaw05.LinksHolds", spec := "linksHolds", unfollowed := true, recurses := true, plainKeys := false, apart := false, narrowed := true }
def LinksHoldsUptoSaid : Prop := linksHoldsUptoRow.holds Try.pinned (OpenSpec.upto linksHoldsSpec)

/-- 'geyseritelaw05.LinksFewest', WHERE WHAT IT READS IS OF BULK AT MOST 1048576: true; the input reads as it did. -/
def linksFewestUptoRow : OpenClaim := { program := "ytijgfdncocjncaa", sum := "3afe8444a75c28cec3c20cf78673fbd81db07d2df623a317256fbacf13872d08", func := "geyserite/geyseritelaw05.LinksFewest", spec := "linksFewest", unfollowed := true, recurses := true, plainKeys := false, apart := false, narrowed := true }
def LinksFewestUptoSaid : Prop := linksFewestUptoRow.holds Try.pinned (OpenSpec.upto linksFewestSpec)

/-- 'geyseritelaw05.LinksLeast', WHERE WHAT IT READS IS OF BULK AT MOST 1048576: true; the input reads as it did. -/
def linksLeastUptoRow : OpenClaim := { program := "ytijgfdncocjncaa", sum := "3afe8444a75c28cec3c20cf78673fbd81db07d2df623a317256fbacf13872d08", func := "geyserite/geyseritelaw05.LinksLeast", spec := "linksLeast", unfollowed := true, recurses := true, plainKeys := false, apart := false, narrowed := true }
def LinksLeastUptoSaid : Prop := linksLeastUptoRow.holds Try.pinned (OpenSpec.upto linksLeastSpec)

/-- 'geyseritelaw05.LinksShift', WHERE WHAT IT READS IS OF BULK AT MOST 1048576: true; the input reads as it did. -/
def linksShiftUptoRow : OpenClaim := { program := "ytijgfdncocjncaa", sum := "3afe8444a75c28cec3c20cf78673fbd81db07d2df623a317256fbacf13872d08", func := "geyserite/geyseritelaw05.LinksShift", spec := "linksShift", unfollowed := true, recurses := true, plainKeys := false, apart := false, narrowed := true }
def LinksShiftUptoSaid : Prop := linksShiftUptoRow.holds Try.pinned (OpenSpec.upto linksShiftSpec)

/-- 'geyseritelaw05.LinksLonger', WHERE WHAT IT READS IS OF BULK AT MOST 1048576: true; the input reads as it did. -/
def linksLongerUptoRow : OpenClaim := { program := "ytijgfdncocjncaa", sum := "3afe8444a75c28cec3c20cf78673fbd81db07d2df623a317256fbacf13872d08", func := "geyserite/geyseritelaw05.LinksLonger", spec := "linksLonger", unfollowed := true, recurses := true, plainKeys := false, apart := false, narrowed := true }
def LinksLongerUptoSaid : Prop := linksLongerUptoRow.holds Try.pinned (OpenSpec.upto linksLongerSpec)

end Rows
end Go.Proofs.Ytijgfdncocjncaa
