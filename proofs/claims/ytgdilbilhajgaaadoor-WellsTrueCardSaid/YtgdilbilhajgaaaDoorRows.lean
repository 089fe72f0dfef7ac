/-
  NARROWER THAN 'FOR EVERY INPUT', by the rows' own cells (each row's printed sentence says how): WellsProofs: laid · WellsEnds: laid · WellsFlows: laid · WellsNames: laid · WellsTrue: laid · WellsProof: laid · WellsMore: laid · WellsOwns: laid.
  DERIVED. THE GIVEN ROWS OF THIS SEAT. 8 by the template 'for every input the law returns true; each argument reads behind the call as it read before'; 0 by the template 'total and deterministic' (their statements: YtgdilbilhajgaaaDoorTotals.lean).
  GIVEN WITH THE SEED: the statements are not yours to turn. If you find one false, say at which input.
  Laid BY PROGRAM, IN A SANDBOX (cutbox-rows.mjs): the forced cells as the released guide's own fill.sh prints them over the translation 213024a081871943… (all of the seat's roots in one cut). By AI agents, Wed Nov 11 2026. No macro, syntax, notation, axiom, sorry.
-/
import Derived.Test.YtgdilbilhajgaaaDoorChecked
import GoSem.Claim
import GoSem.ClaimJoined
import GoSem.ClaimMapViews
import Derived.JoinedTies
import Derived.KernelRfl
namespace Go.Proofs.YtgdilbilhajgaaaDoor
/- THE CELL 'sum', in the pinned program and in every row, IS THE sha256 OF THE DUMP (.gsa) THAT YtgdilbilhajgaaaDoorProg.lean LOADS. Nothing in Lean hashes anything: it is a label: what it is worth is what the hold of that sum in a sandbox is worth. -/
noncomputable def Tryd.pinned : Pinned := { name := "ytgdilbilhajgaaadoor", sum := "213024a081871943a1925a2bb97fe7e1114a507f994bd2bc45f14ae90de66cb8", checked := Tryd.checked }
namespace Rows
def none {H : Type} : Left H := { results := [], args := [] }

/- WHAT THE LISTED PACKAGE-LEVEL VARIABLES READ AS WHEN THE CALL BEGINS. Each datum BY PROGRAM (the guide's laid-datum.mjs) off the statement by which the dump's own 'gosem.cut.vars' lays the variable. In a bare row this is a premise. The card (YtgdilbilhajgaaaDoorCards.lean) ties it to the program's text. -/
def laid_math_bits_deBruijn32tab {H : Type} : DataW H := .agg [.lit (.int .u8 0), .lit (.int .u8 1), .lit (.int .u8 28), .lit (.int .u8 2), .lit (.int .u8 29), .lit (.int .u8 14), .lit (.int .u8 24), .lit (.int .u8 3), .lit (.int .u8 30), .lit (.int .u8 22), .lit (.int .u8 20), .lit (.int .u8 15), .lit (.int .u8 25), .lit (.int .u8 17), .lit (.int .u8 4), .lit (.int .u8 8), .lit (.int .u8 31), .lit (.int .u8 27), .lit (.int .u8 13), .lit (.int .u8 23), .lit (.int .u8 21), .lit (.int .u8 19), .lit (.int .u8 16), .lit (.int .u8 7), .lit (.int .u8 26), .lit (.int .u8 12), .lit (.int .u8 18), .lit (.int .u8 6), .lit (.int .u8 11), .lit (.int .u8 5), .lit (.int .u8 10), .lit (.int .u8 9)]
def laid_math_bits_deBruijn64tab {H : Type} : DataW H := .agg [.lit (.int .u8 0), .lit (.int .u8 1), .lit (.int .u8 56), .lit (.int .u8 2), .lit (.int .u8 57), .lit (.int .u8 49), .lit (.int .u8 28), .lit (.int .u8 3), .lit (.int .u8 61), .lit (.int .u8 58), .lit (.int .u8 42), .lit (.int .u8 50), .lit (.int .u8 38), .lit (.int .u8 29), .lit (.int .u8 17), .lit (.int .u8 4), .lit (.int .u8 62), .lit (.int .u8 47), .lit (.int .u8 59), .lit (.int .u8 36), .lit (.int .u8 45), .lit (.int .u8 43), .lit (.int .u8 51), .lit (.int .u8 22), .lit (.int .u8 53), .lit (.int .u8 39), .lit (.int .u8 33), .lit (.int .u8 30), .lit (.int .u8 24), .lit (.int .u8 18), .lit (.int .u8 12), .lit (.int .u8 5), .lit (.int .u8 63), .lit (.int .u8 55), .lit (.int .u8 48), .lit (.int .u8 27), .lit (.int .u8 60), .lit (.int .u8 41), .lit (.int .u8 37), .lit (.int .u8 16), .lit (.int .u8 46), .lit (.int .u8 35), .lit (.int .u8 44), .lit (.int .u8 21), .lit (.int .u8 52), .lit (.int .u8 32), .lit (.int .u8 23), .lit (.int .u8 11), .lit (.int .u8 54), .lit (.int .u8 26), .lit (.int .u8 40), .lit (.int .u8 15), .lit (.int .u8 34), .lit (.int .u8 20), .lit (.int .u8 31), .lit (.int .u8 10), .lit (.int .u8 25), .lit (.int .u8 14), .lit (.int .u8 19), .lit (.int .u8 9), .lit (.int .u8 13), .lit (.int .u8 8), .lit (.int .u8 7), .lit (.int .u8 6)]

/-- 'geyseritelaw08.WellsProofs': WHATEVER THE INPUT: true; the input reads as it did. -/
def wellsProofsSpec : ChangeSpec := { name := "wellsProofs", fn := fun _ => fun
  | [d1, d2, d3] => { results := [.lit (.bool true)], args := [d1, d2, d3] }
  | _ => none }
def wellsProofsRow : OpenClaim := { program := "ytgdilbilhajgaaadoor", sum := "213024a081871943a1925a2bb97fe7e1114a507f994bd2bc45f14ae90de66cb8", func := "geyserite/geyseritelaw08.WellsProofs", spec := "wellsProofs", unfollowed := true, recurses := true, named := ["math/bits.deBruijn32tab", "math/bits.deBruijn64tab"], apart := false, laid := [("math/bits.deBruijn32tab", laid_math_bits_deBruijn32tab), ("math/bits.deBruijn64tab", laid_math_bits_deBruijn64tab)] }
def WellsProofsSaid : Prop := wellsProofsRow.holds Tryd.pinned (OpenSpec.ofChange wellsProofsSpec)

/-- ITS FALSE NEIGHBOUR: 'it returns false'. Refute it at one input. -/
def wellsProofsWrong : ChangeSpec := { name := "wellsProofs", fn := fun _ => fun
  | [d1, d2, d3] => { results := [.lit (.bool false)], args := [d1, d2, d3] }
  | _ => none }
def WellsProofsWrongFalsely : Prop := wellsProofsRow.holds Tryd.pinned (OpenSpec.ofChange wellsProofsWrong)

/-- 'geyseritelaw08.WellsEnds': WHATEVER THE INPUT: true; the input reads as it did. -/
def wellsEndsSpec : ChangeSpec := { name := "wellsEnds", fn := fun _ => fun
  | [d1, d2, d3, d4] => { results := [.lit (.bool true)], args := [d1, d2, d3, d4] }
  | _ => none }
def wellsEndsRow : OpenClaim := { program := "ytgdilbilhajgaaadoor", sum := "213024a081871943a1925a2bb97fe7e1114a507f994bd2bc45f14ae90de66cb8", func := "geyserite/geyseritelaw08.WellsEnds", spec := "wellsEnds", unfollowed := true, recurses := true, named := ["math/bits.deBruijn32tab", "math/bits.deBruijn64tab"], apart := false, laid := [("math/bits.deBruijn32tab", laid_math_bits_deBruijn32tab), ("math/bits.deBruijn64tab", laid_math_bits_deBruijn64tab)] }
def WellsEndsSaid : Prop := wellsEndsRow.holds Tryd.pinned (OpenSpec.ofChange wellsEndsSpec)

/-- ITS FALSE NEIGHBOUR: 'it returns false'. Refute it at one input. -/
def wellsEndsWrong : ChangeSpec := { name := "wellsEnds", fn := fun _ => fun
  | [d1, d2, d3, d4] => { results := [.lit (.bool false)], args := [d1, d2, d3, d4] }
  | _ => none }
def WellsEndsWrongFalsely : Prop := wellsEndsRow.holds Tryd.pinned (OpenSpec.ofChange wellsEndsWrong)

/-- 'geyseritelaw08.WellsFlows': WHATEVER THE INPUT: true; the input reads as it did. -/
def wellsFlowsSpec : ChangeSpec := { name := "wellsFlows", fn := fun _ => fun
  | [d1, d2] => { results := [.lit (.bool true)], args := [d1, d2] }
  | _ => none }
def wellsFlowsRow : OpenClaim := { program := "ytgdilbilhajgaaadoor", sum := "213024a081871943a1925a2bb97fe7e1114a507f994bd2bc45f14ae90de66cb8", func := "geyserite/geyseritelaw08.WellsFlows", spec := "wellsFlows", unfollowed := true, recurses := true, named := ["math/bits.deBruijn32tab", "math/bits.deBruijn64tab"], apart := false, laid := [("math/bits.deBruijn32tab", laid_math_bits_deBruijn32tab), ("math/bits.deBruijn64tab", laid_math_bits_deBruijn64tab)] }
def WellsFlowsSaid : Prop := wellsFlowsRow.holds Tryd.pinned (OpenSpec.ofChange wellsFlowsSpec)

/-- ITS FALSE NEIGHBOUR: 'it returns false'. Refute it at one input. -/
def wellsFlowsWrong : ChangeSpec := { name := "wellsFlows", fn := fun _ => fun
  | [d1, d2] => { results := [.lit (.bool false)], args := [d1, d2] }
  | _ => none }
def WellsFlowsWrongFalsely : Prop := wellsFlowsRow.holds Tryd.pinned (OpenSpec.ofChange wellsFlowsWrong)

/-- 'geyseritelaw08.WellsNames': WHATEVER THE INPUT: true; the input reads as it did. -/
def wellsNamesSpec : ChangeSpec := { name := "wellsNames", fn := fun _ => fun
  | [] => { results := [.lit (.bool true)], args := [] }
  | _ => none }
def wellsNamesRow : OpenClaim := { program := "ytgdilbilhajgaaadoor", sum := "213024a081871943a1925a2bb97fe7e1114a507f994bd2bc45f14ae90de66cb8", func := "geyserite/geyseritelaw08.WellsNames", spec := "wellsNames", unfollowed := true, recurses := true, named := ["math/bits.deBruijn32tab", "math/bits.deBruijn64tab"], apart := false, laid := [("math/bits.deBruijn32tab", laid_math_bits_deBruijn32tab), ("math/bits.deBruijn64tab", laid_math_bits_deBruijn64tab)] }
def WellsNamesSaid : Prop := wellsNamesRow.holds Tryd.pinned (OpenSpec.ofChange wellsNamesSpec)

/-- ITS FALSE NEIGHBOUR: 'it returns false'. Refute it at one input. -/
def wellsNamesWrong : ChangeSpec := { name := "wellsNames", fn := fun _ => fun
  | [] => { results := [.lit (.bool false)], args := [] }
  | _ => none }
def WellsNamesWrongFalsely : Prop := wellsNamesRow.holds Tryd.pinned (OpenSpec.ofChange wellsNamesWrong)

/-- 'geyseritelaw08.WellsTrue': WHATEVER THE INPUT: true; the input reads as it did. -/
def wellsTrueSpec : ChangeSpec := { name := "wellsTrue", fn := fun _ => fun
  | [d1, d2, d3] => { results := [.lit (.bool true)], args := [d1, d2, d3] }
  | _ => none }
def wellsTrueRow : OpenClaim := { program := "ytgdilbilhajgaaadoor", sum := "213024a081871943a1925a2bb97fe7e1114a507f994bd2bc45f14ae90de66cb8", func := "geyserite/geyseritelaw08.WellsTrue", spec := "wellsTrue", unfollowed := true, recurses := true, named := ["math/bits.deBruijn32tab", "math/bits.deBruijn64tab"], apart := false, laid := [("math/bits.deBruijn32tab", laid_math_bits_deBruijn32tab), ("math/bits.deBruijn64tab", laid_math_bits_deBruijn64tab)] }
def WellsTrueSaid : Prop := wellsTrueRow.holds Tryd.pinned (OpenSpec.ofChange wellsTrueSpec)

/-- ITS FALSE NEIGHBOUR: 'it returns false'. Refute it at one input. -/
def wellsTrueWrong : ChangeSpec := { name := "wellsTrue", fn := fun _ => fun
  | [d1, d2, d3] => { results := [.lit (.bool false)], args := [d1, d2, d3] }
  | _ => none }
def WellsTrueWrongFalsely : Prop := wellsTrueRow.holds Tryd.pinned (OpenSpec.ofChange wellsTrueWrong)

/-- 'geyseritelaw08.WellsProof': WHATEVER THE INPUT: true; the input reads as it did. -/
def wellsProofSpec : ChangeSpec := { name := "wellsProof", fn := fun _ => fun
  | [d1, d2, d3, d4] => { results := [.lit (.bool true)], args := [d1, d2, d3, d4] }
  | _ => none }
def wellsProofRow : OpenClaim := { program := "ytgdilbilhajgaaadoor", sum := "213024a081871943a1925a2bb97fe7e1114a507f994bd2bc45f14ae90de66cb8", func := "geyserite/geyseritelaw08.WellsProof", spec := "wellsProof", unfollowed := true, recurses := true, named := ["math/bits.deBruijn32tab", "math/bits.deBruijn64tab"], apart := false, laid := [("math/bits.deBruijn32tab", laid_math_bits_deBruijn32tab), ("math/bits.deBruijn64tab", laid_math_bits_deBruijn64tab)] }
def WellsProofSaid : Prop := wellsProofRow.holds Tryd.pinned (OpenSpec.ofChange wellsProofSpec)

/-- ITS FALSE NEIGHBOUR: 'it returns false'. Refute it at one input. -/
def wellsProofWrong : ChangeSpec := { name := "wellsProof", fn := fun _ => fun
  | [d1, d2, d3, d4] => { results := [.lit (.bool false)], args := [d1, d2, d3, d4] }
  | _ => none }
def WellsProofWrongFalsely : Prop := wellsProofRow.holds Tryd.pinned (OpenSpec.ofChange wellsProofWrong)

/-- 'geyseritelaw08.WellsMore': WHATEVER THE INPUT: true; the input reads as it did. -/
def wellsMoreSpec : ChangeSpec := { name := "wellsMore", fn := fun _ => fun
  | [d1, d2, d3, d4, d5, d6] => { results := [.lit (.bool true)], args := [d1, d2, d3, d4, d5, d6] }
  | _ => none }
def wellsMoreRow : OpenClaim := { program := "ytgdilbilhajgaaadoor", sum := "213024a081871943a1925a2bb97fe7e1114a507f994bd2bc45f14ae90de66cb8", func := "geyserite/geyseritelaw08.WellsMore", spec := "wellsMore", unfollowed := true, recurses := true, named := ["math/bits.deBruijn32tab", "math/bits.deBruijn64tab"], apart := false, laid := [("math/bits.deBruijn32tab", laid_math_bits_deBruijn32tab), ("math/bits.deBruijn64tab", laid_math_bits_deBruijn64tab)] }
def WellsMoreSaid : Prop := wellsMoreRow.holds Tryd.pinned (OpenSpec.ofChange wellsMoreSpec)

/-- ITS FALSE NEIGHBOUR: 'it returns false'. Refute it at one input. -/
def wellsMoreWrong : ChangeSpec := { name := "wellsMore", fn := fun _ => fun
  | [d1, d2, d3, d4, d5, d6] => { results := [.lit (.bool false)], args := [d1, d2, d3, d4, d5, d6] }
  | _ => none }
def WellsMoreWrongFalsely : Prop := wellsMoreRow.holds Tryd.pinned (OpenSpec.ofChange wellsMoreWrong)

/-- 'geyseritelaw08.WellsOwns': WHATEVER THE INPUT: true; the input reads as it did. -/
def wellsOwnsSpec : ChangeSpec := { name := "wellsOwns", fn := fun _ => fun
  | [d1, d2, d3] => { results := [.lit (.bool true)], args := [d1, d2, d3] }
  | _ => none }
def wellsOwnsRow : OpenClaim := { program := "ytgdilbilhajgaaadoor", sum := "213024a081871943a1925a2bb97fe7e1114a507f994bd2bc45f14ae90de66cb8", func := "geyserite/geyseritelaw08.WellsOwns", spec := "wellsOwns", unfollowed := true, recurses := true, named := ["math/bits.deBruijn32tab", "math/bits.deBruijn64tab"], apart := false, laid := [("math/bits.deBruijn32tab", laid_math_bits_deBruijn32tab), ("math/bits.deBruijn64tab", laid_math_bits_deBruijn64tab)] }
def WellsOwnsSaid : Prop := wellsOwnsRow.holds Tryd.pinned (OpenSpec.ofChange wellsOwnsSpec)

/-- ITS FALSE NEIGHBOUR: 'it returns false'. Refute it at one input. -/
def wellsOwnsWrong : ChangeSpec := { name := "wellsOwns", fn := fun _ => fun
  | [d1, d2, d3] => { results := [.lit (.bool false)], args := [d1, d2, d3] }
  | _ => none }
def WellsOwnsWrongFalsely : Prop := wellsOwnsRow.holds Tryd.pinned (OpenSpec.ofChange wellsOwnsWrong)

/- THE SECOND FORM. 'bulk': how many values and letters a reading holds, each counted each time it is reached (what is shared counts as often as it is met; a slice's spare places count too). A statement '..UptoSaid' is the law's where the arguments, and the package variables that the reading takes, are together of bulk at most 1048576: NARROWER than '..Said'. Prove '..Said' where nothing that the law and all that it calls make is longer than what came in: it says more and counts as full. Else prove '..UptoSaid'. A law counts once. -/
mutual
def uptoBulk {H : Type} : DataW H → Nat
  | .lit (.string bytes) => bytes.length + 1
  | .lit _ => 1
  | .nil => 1
  | .ptr d => uptoBulk d + 1
  | .slice elems spare => uptoBulkAll elems + uptoBulkAll spare + 1
  | .agg parts => uptoBulkAll parts + 1
  | .iface _ d => uptoBulk d + 1
  | .map entries => uptoBulkEntries entries + 1
  | .held _ => 1
def uptoBulkAll {H : Type} : List (DataW H) → Nat
  | [] => 0
  | d :: r => uptoBulk d + uptoBulkAll r
def uptoBulkEntries {H : Type} : List (Lit × DataW H) → Nat
  | [] => 0
  | x :: r => uptoBulkEntry x + uptoBulkEntries r
def uptoBulkEntry {H : Type} : Lit × DataW H → Nat
  | (.string bytes, d) => bytes.length + uptoBulk d + 1
  | (_, d) => uptoBulk d + 1
 end
def uptoSmall : (H : Type) → List (DataW H) → Bool := fun _ ds => decide (uptoBulkAll ds ≤ 1048576)
def OpenSpec.upto (s : _root_.Go.ChangeSpec) : _root_.Go.OpenSpec := { _root_.Go.OpenSpec.ofChange s with cond := some uptoSmall }

/-- 'geyseritelaw08.WellsProofs', WHERE WHAT IT READS IS OF BULK AT MOST 1048576: true; the input reads as it did. -/
def wellsProofsUptoRow : OpenClaim := { program := "ytgdilbilhajgaaadoor", sum := "213024a081871943a1925a2bb97fe7e1114a507f994bd2bc45f14ae90de66cb8", func := "geyserite/geyseritelaw08.WellsProofs", spec := "wellsProofs", unfollowed := true, recurses := true, named := ["math/bits.deBruijn32tab", "math/bits.deBruijn64tab"], apart := false, laid := [("math/bits.deBruijn32tab", laid_math_bits_deBruijn32tab), ("math/bits.deBruijn64tab", laid_math_bits_deBruijn64tab)], narrowed := true }
def WellsProofsUptoSaid : Prop := wellsProofsUptoRow.holds Tryd.pinned (OpenSpec.upto wellsProofsSpec)

/-- 'geyseritelaw08.WellsEnds', WHERE WHAT IT READS IS OF BULK AT MOST 1048576: true; the input reads as it did. -/
def wellsEndsUptoRow : OpenClaim := { program := "ytgdilbilhajgaaadoor", sum := "213024a081871943a1925a2bb97fe7e1114a507f994bd2bc45f14ae90de66cb8", func := "geyserite/geyseritelaw08.WellsEnds", spec := "wellsEnds", unfollowed := true, recurses := true, named := ["math/bits.deBruijn32tab", "math/bits.deBruijn64tab"], apart := false, laid := [("math/bits.deBruijn32tab", laid_math_bits_deBruijn32tab), ("math/bits.deBruijn64tab", laid_math_bits_deBruijn64tab)], narrowed := true }
def WellsEndsUptoSaid : Prop := wellsEndsUptoRow.holds Tryd.pinned (OpenSpec.upto wellsEndsSpec)

/-- 'geyseritelaw08.WellsFlows', WHERE WHAT IT READS IS OF BULK AT MOST 1048576: true; the input reads as it did. -/
def wellsFlowsUptoRow : OpenClaim := { program := "ytgdilbilhajgaaadoor", sum := "213024a081871943a1925a2bb97fe7e1114a507f994bd2bc45f14ae90de66cb8", func := "geyserite/geyseritelaw08.WellsFlows", spec := "wellsFlows", unfollowed := true, recurses := true, named := ["math/bits.deBruijn32tab", "math/bits.deBruijn64tab"], apart := false, laid := [("math/bits.deBruijn32tab", laid_math_bits_deBruijn32tab), ("math/bits.deBruijn64tab", laid_math_bits_deBruijn64tab)], narrowed := true }
def WellsFlowsUptoSaid : Prop := wellsFlowsUptoRow.holds Tryd.pinned (OpenSpec.upto wellsFlowsSpec)

/-- 'geyseritelaw08.WellsNames', WHERE WHAT IT READS IS OF BULK AT MOST 1048576: true; the input reads as it did. -/
def wellsNamesUptoRow : OpenClaim := { program := "ytgdilbilhajgaaadoor", sum := "213024a081871943a1925a2bb97fe7e1114a507f994bd2bc45f14ae90de66cb8", func := "geyserite/geyseritelaw08.WellsNames", spec := "wellsNames", unfollowed := true, recurses := true, named := ["math/bits.deBruijn32tab", "math/bits.deBruijn64tab"], apart := false, laid := [("math/bits.deBruijn32tab", laid_math_bits_deBruijn32tab), ("math/bits.deBruijn64tab", laid_math_bits_deBruijn64tab)], narrowed := true }
def WellsNamesUptoSaid : Prop := wellsNamesUptoRow.holds Tryd.pinned (OpenSpec.upto wellsNamesSpec)

/-- 'geyseritelaw08.WellsTrue', WHERE WHAT IT READS IS OF BULK AT MOST 1048576: true; the input reads as it did. -/
def wellsTrueUptoRow : OpenClaim := { program := "ytgdilbilhajgaaadoor", sum := "213024a081871943a1925a2bb97fe7e1114a507f994bd2bc45f14ae90de66cb8", func := "geyserite/geyseritelaw08.WellsTrue", spec := "wellsTrue", unfollowed := true, recurses := true, named := ["math/bits.deBruijn32tab", "math/bits.deBruijn64tab"], apart := false, laid := [("math/bits.deBruijn32tab", laid_math_bits_deBruijn32tab), ("math/bits.deBruijn64tab", laid_math_bits_deBruijn64tab)], narrowed := true }
def WellsTrueUptoSaid : Prop := wellsTrueUptoRow.holds Tryd.pinned (OpenSpec.upto wellsTrueSpec)

/-- 'geyseritelaw08.WellsProof', WHERE WHAT IT READS IS OF BULK AT MOST 1048576: true; the input reads as it did. -/
def wellsProofUptoRow : OpenClaim := { program := "ytgdilbilhajgaaadoor", sum := "213024a081871943a1925a2bb97fe7e1114a507f994bd2bc45f14ae90de66cb8", func := "geyserite/geyseritelaw08.WellsProof", spec := "wellsProof", unfollowed := true, recurses := true, named := ["math/bits.deBruijn32tab", "math/bits.deBruijn64tab"], apart := false, laid := [("math/bits.deBruijn32tab", laid_math_bits_deBruijn32tab), ("math/bits.deBruijn64tab", laid_math_bits_deBruijn64tab)], narrowed := true }
def WellsProofUptoSaid : Prop := wellsProofUptoRow.holds Tryd.pinned (OpenSpec.upto wellsProofSpec)

/-- 'geyseritelaw08.WellsMore', WHERE WHAT IT READS IS OF BULK AT MOST 1048576: true; the input reads as it did. -/
def wellsMoreUptoRow : OpenClaim := { program := "ytgdilbilhajgaaadoor", sum := "213024a081871943a1925a2bb97fe7e1114a507f994bd2bc45f14ae90de66cb8", func := "geyserite/geyseritelaw08.WellsMore", spec := "wellsMore", unfollowed := true, recurses := true, named := ["math/bits.deBruijn32tab", "math/bits.deBruijn64tab"], apart := false, laid := [("math/bits.deBruijn32tab", laid_math_bits_deBruijn32tab), ("math/bits.deBruijn64tab", laid_math_bits_deBruijn64tab)], narrowed := true }
def WellsMoreUptoSaid : Prop := wellsMoreUptoRow.holds Tryd.pinned (OpenSpec.upto wellsMoreSpec)

/-- 'geyseritelaw08.WellsOwns', WHERE WHAT IT READS IS OF BULK AT MOST 1048576: true; the input reads as it did. -/
def wellsOwnsUptoRow : OpenClaim := { program := "ytgdilbilhajgaaadoor", sum := "213024a081871943a1925a2bb97fe7e1114a507f994bd2bc45f14ae90de66cb8", func := "geyserite/geyseritelaw08.WellsOwns", spec := "wellsOwns", unfollowed := true, recurses := true, named := ["math/bits.deBruijn32tab", "math/bits.deBruijn64tab"], apart := false, laid := [("math/bits.deBruijn32tab", laid_math_bits_deBruijn32tab), ("math/bits.deBruijn64tab", laid_math_bits_deBruijn64tab)], narrowed := true }
def WellsOwnsUptoSaid : Prop := wellsOwnsUptoRow.holds Tryd.pinned (OpenSpec.upto wellsOwnsSpec)

end Rows
end Go.Proofs.YtgdilbilhajgaaaDoor
