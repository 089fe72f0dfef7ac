/-
  No cell of these rows narrows 'for every input' (looked for: loops, veiled, ifaces, maps, wideKeys, modest, calm, conditions, laid).
  DERIVED. THE GIVEN ROWS OF THIS SEAT. 8 by the template 'for every input the law returns true; each argument reads behind the call as it read before'; 0 by the template 'total and deterministic' (their statements: YtilmlgngnbokfaaTotals.lean).
  GIVEN WITH THE SEED: the statements are not yours to turn. If you find one false, say at which input.
  Laid BY PROGRAM, IN A SANDBOX (cutbox-rows.mjs): the forced cells as the released guide's own fill.sh prints them over the translation 911608d80a16ba46… (all of the seat's roots in one cut). By AI agents, Wed Nov 11 2026. No macro, syntax, notation, axiom, sorry.
-/
import Derived.Test.YtilmlgngnbokfaaChecked
import GoSem.Claim
import GoSem.ClaimJoined
import GoSem.ClaimMapViews
import Derived.JoinedTies
import Derived.KernelRfl
namespace Go.Proofs.Ytilmlgngnbokfaa
/- THE CELL 'sum', in the pinned program and in every row, IS THE sha256 OF THE DUMP (.gsa) THAT YtilmlgngnbokfaaProg.lean LOADS. Nothing in Lean hashes anything: it is a label: what it is worth is what the hold of that sum in a sandbox is worth. -/
noncomputable def Try.pinned : Pinned := { name := "ytilmlgngnbokfaa", sum := "911608d80a16ba46c4c8768078155ef5fa27b63920b2223764cfe3d11c470053", checked := Try.checked }
namespace Rows
def none {H : Type} : Left H := { results := [], args := [] }

/-- 'geyseritelaw06.GroundCrowds': WHATEVER THE INPUT: true; the input reads as it did. -/
def groundCrowdsSpec : ChangeSpec := { name := "groundCrowds", fn := fun _ => fun
  | [d1, d2] => { results := [.lit (.bool true)], args := [d1, d2] }
  | _ => none }
def groundCrowdsRow : OpenClaim := { program := "ytilmlgngnbokfaa", sum := "911608d80a16ba46c4c8768078155ef5fa27b63920b2223764cfe3d11c470053", func := "geyserite/geyseritelaw06.GroundCrowds", spec := "groundCrowds", unfollowed := true, recurses := true, apart := false }
def GroundCrowdsSaid : Prop := groundCrowdsRow.holds Try.pinned (OpenSpec.ofChange groundCrowdsSpec)

/-- ITS FALSE NEIGHBOUR: 'it returns false'. Refute it at one input. -/
def groundCrowdsWrong : ChangeSpec := { name := "groundCrowds", fn := fun _ => fun
  | [d1, d2] => { results := [.lit (.bool false)], args := [d1, d2] }
  | _ => none }
def GroundCrowdsWrongFalsely : Prop := groundCrowdsRow.holds Try.pinned (OpenSpec.ofChange groundCrowdsWrong)

/-- 'geyseritelaw06.GroundWorst': WHATEVER THE INPUT: true; the input reads as it did. -/
def groundWorstSpec : ChangeSpec := { name := "groundWorst", fn := fun _ => fun
  | [d1, d2] => { results := [.lit (.bool true)], args := [d1, d2] }
  | _ => none }
def groundWorstRow : OpenClaim := { program := "ytilmlgngnbokfaa", sum := "911608d80a16ba46c4c8768078155ef5fa27b63920b2223764cfe3d11c470053", func := "geyserite/geyseritelaw06.GroundWorst", spec := "groundWorst", unfollowed := true, recurses := true, apart := false }
def GroundWorstSaid : Prop := groundWorstRow.holds Try.pinned (OpenSpec.ofChange groundWorstSpec)

/-- ITS FALSE NEIGHBOUR: 'it returns false'. Refute it at one input. -/
def groundWorstWrong : ChangeSpec := { name := "groundWorst", fn := fun _ => fun
  | [d1, d2] => { results := [.lit (.bool false)], args := [d1, d2] }
  | _ => none }
def GroundWorstWrongFalsely : Prop := groundWorstRow.holds Try.pinned (OpenSpec.ofChange groundWorstWrong)

/-- 'geyseritelaw06.GroundTurned': WHATEVER THE INPUT: true; the input reads as it did. -/
def groundTurnedSpec : ChangeSpec := { name := "groundTurned", fn := fun _ => fun
  | [d1, d2, d3] => { results := [.lit (.bool true)], args := [d1, d2, d3] }
  | _ => none }
def groundTurnedRow : OpenClaim := { program := "ytilmlgngnbokfaa", sum := "911608d80a16ba46c4c8768078155ef5fa27b63920b2223764cfe3d11c470053", func := "geyserite/geyseritelaw06.GroundTurned", spec := "groundTurned", unfollowed := true, recurses := true, apart := false }
def GroundTurnedSaid : Prop := groundTurnedRow.holds Try.pinned (OpenSpec.ofChange groundTurnedSpec)

/-- ITS FALSE NEIGHBOUR: 'it returns false'. Refute it at one input. -/
def groundTurnedWrong : ChangeSpec := { name := "groundTurned", fn := fun _ => fun
  | [d1, d2, d3] => { results := [.lit (.bool false)], args := [d1, d2, d3] }
  | _ => none }
def GroundTurnedWrongFalsely : Prop := groundTurnedRow.holds Try.pinned (OpenSpec.ofChange groundTurnedWrong)

/-- 'geyseritelaw06.GroundLoads': WHATEVER THE INPUT: true; the input reads as it did. -/
def groundLoadsSpec : ChangeSpec := { name := "groundLoads", fn := fun _ => fun
  | [d1, d2, d3, d4] => { results := [.lit (.bool true)], args := [d1, d2, d3, d4] }
  | _ => none }
def groundLoadsRow : OpenClaim := { program := "ytilmlgngnbokfaa", sum := "911608d80a16ba46c4c8768078155ef5fa27b63920b2223764cfe3d11c470053", func := "geyserite/geyseritelaw06.GroundLoads", spec := "groundLoads", unfollowed := true, recurses := true, apart := false }
def GroundLoadsSaid : Prop := groundLoadsRow.holds Try.pinned (OpenSpec.ofChange groundLoadsSpec)

/-- ITS FALSE NEIGHBOUR: 'it returns false'. Refute it at one input. -/
def groundLoadsWrong : ChangeSpec := { name := "groundLoads", fn := fun _ => fun
  | [d1, d2, d3, d4] => { results := [.lit (.bool false)], args := [d1, d2, d3, d4] }
  | _ => none }
def GroundLoadsWrongFalsely : Prop := groundLoadsRow.holds Try.pinned (OpenSpec.ofChange groundLoadsWrong)

/-- 'geyseritelaw06.GroundBreaks': WHATEVER THE INPUT: true; the input reads as it did. -/
def groundBreaksSpec : ChangeSpec := { name := "groundBreaks", fn := fun _ => fun
  | [d1, d2, d3] => { results := [.lit (.bool true)], args := [d1, d2, d3] }
  | _ => none }
def groundBreaksRow : OpenClaim := { program := "ytilmlgngnbokfaa", sum := "911608d80a16ba46c4c8768078155ef5fa27b63920b2223764cfe3d11c470053", func := "geyserite/geyseritelaw06.GroundBreaks", spec := "groundBreaks", unfollowed := true, recurses := true, apart := false }
def GroundBreaksSaid : Prop := groundBreaksRow.holds Try.pinned (OpenSpec.ofChange groundBreaksSpec)

/-- ITS FALSE NEIGHBOUR: 'it returns false'. Refute it at one input. -/
def groundBreaksWrong : ChangeSpec := { name := "groundBreaks", fn := fun _ => fun
  | [d1, d2, d3] => { results := [.lit (.bool false)], args := [d1, d2, d3] }
  | _ => none }
def GroundBreaksWrongFalsely : Prop := groundBreaksRow.holds Try.pinned (OpenSpec.ofChange groundBreaksWrong)

/-- 'geyseritelaw06.GroundLess': WHATEVER THE INPUT: true; the input reads as it did. -/
def groundLessSpec : ChangeSpec := { name := "groundLess", fn := fun _ => fun
  | [d1, d2, d3, d4, d5] => { results := [.lit (.bool true)], args := [d1, d2, d3, d4, d5] }
  | _ => none }
def groundLessRow : OpenClaim := { program := "ytilmlgngnbokfaa", sum := "911608d80a16ba46c4c8768078155ef5fa27b63920b2223764cfe3d11c470053", func := "geyserite/geyseritelaw06.GroundLess", spec := "groundLess", unfollowed := true, recurses := true, apart := false }
def GroundLessSaid : Prop := groundLessRow.holds Try.pinned (OpenSpec.ofChange groundLessSpec)

/-- ITS FALSE NEIGHBOUR: 'it returns false'. Refute it at one input. -/
def groundLessWrong : ChangeSpec := { name := "groundLess", fn := fun _ => fun
  | [d1, d2, d3, d4, d5] => { results := [.lit (.bool false)], args := [d1, d2, d3, d4, d5] }
  | _ => none }
def GroundLessWrongFalsely : Prop := groundLessRow.holds Try.pinned (OpenSpec.ofChange groundLessWrong)

/-- 'geyseritelaw06.GroundOwns': WHATEVER THE INPUT: true; the input reads as it did. -/
def groundOwnsSpec : ChangeSpec := { name := "groundOwns", fn := fun _ => fun
  | [d1, d2, d3] => { results := [.lit (.bool true)], args := [d1, d2, d3] }
  | _ => none }
def groundOwnsRow : OpenClaim := { program := "ytilmlgngnbokfaa", sum := "911608d80a16ba46c4c8768078155ef5fa27b63920b2223764cfe3d11c470053", func := "geyserite/geyseritelaw06.GroundOwns", spec := "groundOwns", unfollowed := true, recurses := true, apart := false }
def GroundOwnsSaid : Prop := groundOwnsRow.holds Try.pinned (OpenSpec.ofChange groundOwnsSpec)

/-- ITS FALSE NEIGHBOUR: 'it returns false'. Refute it at one input. -/
def groundOwnsWrong : ChangeSpec := { name := "groundOwns", fn := fun _ => fun
  | [d1, d2, d3] => { results := [.lit (.bool false)], args := [d1, d2, d3] }
  | _ => none }
def GroundOwnsWrongFalsely : Prop := groundOwnsRow.holds Try.pinned (OpenSpec.ofChange groundOwnsWrong)

/-- 'geyseritelaw06.GroundNames': WHATEVER THE INPUT: true; the input reads as it did. -/
def groundNamesSpec : ChangeSpec := { name := "groundNames", fn := fun _ => fun
  | [] => { results := [.lit (.bool true)], args := [] }
  | _ => none }
def groundNamesRow : OpenClaim := { program := "ytilmlgngnbokfaa", sum := "911608d80a16ba46c4c8768078155ef5fa27b63920b2223764cfe3d11c470053", func := "geyserite/geyseritelaw06.GroundNames", spec := "groundNames", unfollowed := true, recurses := true, apart := false }
def GroundNamesSaid : Prop := groundNamesRow.holds Try.pinned (OpenSpec.ofChange groundNamesSpec)

/-- ITS FALSE NEIGHBOUR: 'it returns false'. Refute it at one input. -/
def groundNamesWrong : ChangeSpec := { name := "groundNames", fn := fun _ => fun
  | [] => { results := [.lit (.bool false)], args := [] }
  | _ => none }
def GroundNamesWrongFalsely : Prop := groundNamesRow.holds Try.pinned (OpenSpec.ofChange groundNamesWrong)

/- THE SECOND FORM. 'bulk': how many values and letters a reading holds, each counted each time it is reached (what is shared counts as often as it is met; a slice's spare places count too). A statement '..UptoSaid' is the law's where the arguments, and the package variables that the reading takes, are together of bulk at most 1048576: NARROWER than '..Said'. Prove '..Said' where nothing that the law and all that it calls make is longer than what came in: it says more and counts as full. Else prove '..UptoSaid'. A law counts once. -/
mutual
def uptoBulk {H : Type} : DataW H → Nat
  | .lit (.string bytes) => bytes.length + 1
  | .lit _ => 1
  | .nil => 1
  | .ptr d => uptoBulk d + 1
  | .slice elems spare => uptoBulkAll elems + uptoBulkAll spare + 1
  | .agg parts => uptoBulkAll parts + 1
  | .iface _ d => uptoBulk d + 1
  | .map entries => uptoBulkEntries entries + 1
  | .held _ => 1
def uptoBulkAll {H : Type} : List (DataW H) → Nat
  | [] => 0
  | d :: r => uptoBulk d + uptoBulkAll r
def uptoBulkEntries {H : Type} : List (Lit × DataW H) → Nat
  | [] => 0
  | x :: r => uptoBulkEntry x + uptoBulkEntries r
def uptoBulkEntry {H : Type} : Lit × DataW H → Nat
  | (.string bytes, d) => bytes.length + uptoBulk d + 1
  | (_, d) => uptoBulk d + 1
 end
def uptoSmall : (H : Type) → List (DataW H) → Bool := fun _ ds => decide (uptoBulkAll ds ≤ 1048576)
def OpenSpec.upto (s : _root_.Go.ChangeSpec) : _root_.Go.OpenSpec := { _root_.Go.OpenSpec.ofChange s with cond := some uptoSmall }

/-- 'geyseritelaw06.GroundCrowds', WHERE WHAT IT READS IS OF BULK AT MOST 1048576: true; the input reads as it did. -/
def groundCrowdsUptoRow : OpenClaim := { program := "ytilmlgngnbokfaa", sum := "911608d80a16ba46c4c8768078155ef5fa27b63920b2223764cfe3d11c470053", func := "geyserite/geyseritelaw06.GroundCrowds", spec := "groundCrowds", unfollowed := true, recurses := true, apart := false, narrowed := true }
def GroundCrowdsUptoSaid : Prop := groundCrowdsUptoRow.holds Try.pinned (OpenSpec.upto groundCrowdsSpec)

/-- 'geyseritelaw06.GroundWorst', WHERE WHAT IT READS IS OF BULK AT MOST 1048576: true; the input reads as it did. -/
def groundWorstUptoRow : OpenClaim := { program := "ytilmlgngnbokfaa", sum := "911608d80a16ba46c4c8768078155ef5fa27b63920b2223764cfe3d11c470053", func := "geyserite/geyseritelaw06.GroundWorst", spec := "groundWorst", unfollowed := true, recurses := true, apart := false, narrowed := true }
def GroundWorstUptoSaid : Prop := groundWorstUptoRow.holds Try.pinned (OpenSpec.upto groundWorstSpec)

/-- 'geyseritelaw06.GroundTurned', WHERE WHAT IT READS IS OF BULK AT MOST 1048576: true; the input reads as it did. -/
def groundTurnedUptoRow : OpenClaim := { program := "ytilmlgngnbokfaa", sum := "911608d80a16ba46c4c8768078155ef5fa27b63920b2223764cfe3d11c470053", func := "geyserite/geyseritelaw06.GroundTurned", spec := "groundTurned", unfollowed := true, recurses := true, apart := false, narrowed := true }
def GroundTurnedUptoSaid : Prop := groundTurnedUptoRow.holds Try.pinned (OpenSpec.upto groundTurnedSpec)

/-- 'geyseritelaw06.GroundLoads', WHERE WHAT IT READS IS OF BULK AT MOST 1048576: true; the input reads as it did. -/
def groundLoadsUptoRow : OpenClaim := { program := "ytilmlgngnbokfaa", sum := "911608d80a16ba46c4c8768078155ef5fa27b63920b2223764cfe3d11c470053", func := "geyserite/geyseritelaw06.GroundLoads", spec := "groundLoads", unfollowed := true, recurses := true, apart := false, narrowed := true }
def GroundLoadsUptoSaid : Prop := groundLoadsUptoRow.holds Try.pinned (OpenSpec.upto groundLoadsSpec)

/-- 'geyseritelaw06.GroundBreaks', WHERE WHAT IT READS IS OF BULK AT MOST 1048576: true; the input reads as it did. -/
def groundBreaksUptoRow : OpenClaim := { program := "ytilmlgngnbokfaa", sum := "911608d80a16ba46c4c8768078155ef5fa27b63920b2223764cfe3d11c470053", func := "geyserite/geyseritelaw06.GroundBreaks", spec := "groundBreaks", unfollowed := true, recurses := true, apart := false, narrowed := true }
def GroundBreaksUptoSaid : Prop := groundBreaksUptoRow.holds Try.pinned (OpenSpec.upto groundBreaksSpec)

/-- 'geyseritelaw06.GroundLess', WHERE WHAT IT READS IS OF BULK AT MOST 1048576: true; the input reads as it did. -/
def groundLessUptoRow : OpenClaim := { program := "ytilmlgngnbokfaa", sum := "911608d80a16ba46c4c8768078155ef5fa27b63920b2223764cfe3d11c470053", func := "geyserite/geyseritelaw06.GroundLess", spec := "groundLess", unfollowed := true, recurses := true, apart := false, narrowed := true }
def GroundLessUptoSaid : Prop := groundLessUptoRow.holds Try.pinned (OpenSpec.upto groundLessSpec)

/-- 'geyseritelaw06.GroundOwns', WHERE WHAT IT READS IS OF BULK AT MOST 1048576: true; the input reads as it did. -/
def groundOwnsUptoRow : OpenClaim := { program := "ytilmlgngnbokfaa", sum := "911608d80a16ba46c4c8768078155ef5fa27b63920b2223764cfe3d11c470053", func := "geyserite/geyseritelaw06.GroundOwns", spec := "groundOwns", unfollowed := true, recurses := true, apart := false, narrowed := true }
def GroundOwnsUptoSaid : Prop := groundOwnsUptoRow.holds Try.pinned (OpenSpec.upto groundOwnsSpec)

/-- 'geyseritelaw06.GroundNames', WHERE WHAT IT READS IS OF BULK AT MOST 1048576: true; the input reads as it did. -/
def groundNamesUptoRow : OpenClaim := { program := "ytilmlgngnbokfaa", sum := "911608d80a16ba46c4c8768078155ef5fa27b63920b2223764cfe3d11c470053", func := "geyserite/geyseritelaw06.GroundNames", spec := "groundNames", unfollowed := true, recurses := true, apart := false, narrowed := true }
def GroundNamesUptoSaid : Prop := groundNamesUptoRow.holds Try.pinned (OpenSpec.upto groundNamesSpec)

end Rows
end Go.Proofs.Ytilmlgngnbokfaa
