/-
  No cell of these rows narrows 'for every input' (looked for: loops, veiled, ifaces, maps, wideKeys, modest, calm, conditions, laid).
  DERIVED. THE GIVEN ROWS OF THIS SEAT. 6 by the template 'for every input the law returns true; each argument reads behind the call as it read before'; 0 by the template 'total and deterministic' (their statements: YtfebhofihioaoaaTotals.lean).
  GIVEN WITH THE SEED: the statements are not yours to turn. If you find one false, say at which input.
  Laid BY PROGRAM, IN A SANDBOX (cutbox-rows.mjs): the forced cells as the released guide's own fill.sh prints them over the translation c5254cea557068c4… (all of the seat's roots in one cut). By AI agents, Wed Nov 11 2026. No macro, syntax, notation, axiom, sorry.
-/
import Derived.Test.YtfebhofihioaoaaChecked
import GoSem.Claim
import GoSem.ClaimJoined
import GoSem.ClaimMapViews
import Derived.JoinedTies
import Derived.KernelRfl
namespace Go.Proofs.Ytfebhofihioaoaa
/- THE CELL 'sum', in the pinned program and in every row, IS THE sha256 OF THE DUMP (.gsa) THAT YtfebhofihioaoaaProg.lean LOADS. Nothing in Lean hashes anything: it is a label: what it is worth is what the hold of that sum in a sandbox is worth. -/
noncomputable def Try.pinned : Pinned := { name := "ytfebhofihioaoaa", sum := "c5254cea557068c49e2d2edb22ab88b1d67666dbe64604a92b3dc04f56ec7b02", checked := Try.checked }
namespace Rows
def none {H : Type} : Left H := { results := [], args := [] }

/-- 'geyseritelaw12.RangerNeeds': WHATEVER THE INPUT: true; the input reads as it did. -/
def rangerNeedsSpec : ChangeSpec := { name := "rangerNeeds", fn := fun _ => fun
  | [d1, d2, d3, d4] => { results := [.lit (.bool true)], args := [d1, d2, d3, d4] }
  | _ => none }
def rangerNeedsRow : OpenClaim := { program := "ytfebhofihioaoaa", sum := "c5254cea557068c49e2d2edb22ab88b1d67666dbe64604a92b3dc04f56ec7b02", func := "geyserite/geyseritelaw12.RangerNeeds", spec := "rangerNeeds", unfollowed := true, recurses := true, apart := false }
def RangerNeedsSaid : Prop := rangerNeedsRow.holds Try.pinned (OpenSpec.ofChange rangerNeedsSpec)

/-- ITS FALSE NEIGHBOUR: 'it returns false'. Refute it at one input. -/
def rangerNeedsWrong : ChangeSpec := { name := "rangerNeeds", fn := fun _ => fun
  | [d1, d2, d3, d4] => { results := [.lit (.bool false)], args := [d1, d2, d3, d4] }
  | _ => none }
def RangerNeedsWrongFalsely : Prop := rangerNeedsRow.holds Try.pinned (OpenSpec.ofChange rangerNeedsWrong)

/-- 'geyseritelaw12.RangerFewest': WHATEVER THE INPUT: true; the input reads as it did. -/
def rangerFewestSpec : ChangeSpec := { name := "rangerFewest", fn := fun _ => fun
  | [d] => { results := [.lit (.bool true)], args := [d] }
  | _ => none }
def rangerFewestRow : OpenClaim := { program := "ytfebhofihioaoaa", sum := "c5254cea557068c49e2d2edb22ab88b1d67666dbe64604a92b3dc04f56ec7b02", func := "geyserite/geyseritelaw12.RangerFewest", spec := "rangerFewest", unfollowed := true, recurses := true, apart := false }
def RangerFewestSaid : Prop := rangerFewestRow.holds Try.pinned (OpenSpec.ofChange rangerFewestSpec)

/-- ITS FALSE NEIGHBOUR: 'it returns false'. Refute it at one input. -/
def rangerFewestWrong : ChangeSpec := { name := "rangerFewest", fn := fun _ => fun
  | [d] => { results := [.lit (.bool false)], args := [d] }
  | _ => none }
def RangerFewestWrongFalsely : Prop := rangerFewestRow.holds Try.pinned (OpenSpec.ofChange rangerFewestWrong)

/-- 'geyseritelaw12.RangerTrue': WHATEVER THE INPUT: true; the input reads as it did. -/
def rangerTrueSpec : ChangeSpec := { name := "rangerTrue", fn := fun _ => fun
  | [d1, d2, d3] => { results := [.lit (.bool true)], args := [d1, d2, d3] }
  | _ => none }
def rangerTrueRow : OpenClaim := { program := "ytfebhofihioaoaa", sum := "c5254cea557068c49e2d2edb22ab88b1d67666dbe64604a92b3dc04f56ec7b02", func := "geyserite/geyseritelaw12.RangerTrue", spec := "rangerTrue", unfollowed := true, recurses := true, apart := false }
def RangerTrueSaid : Prop := rangerTrueRow.holds Try.pinned (OpenSpec.ofChange rangerTrueSpec)

/-- ITS FALSE NEIGHBOUR: 'it returns false'. Refute it at one input. -/
def rangerTrueWrong : ChangeSpec := { name := "rangerTrue", fn := fun _ => fun
  | [d1, d2, d3] => { results := [.lit (.bool false)], args := [d1, d2, d3] }
  | _ => none }
def RangerTrueWrongFalsely : Prop := rangerTrueRow.holds Try.pinned (OpenSpec.ofChange rangerTrueWrong)

/-- 'geyseritelaw12.RangerNeed': WHATEVER THE INPUT: true; the input reads as it did. -/
def rangerNeedSpec : ChangeSpec := { name := "rangerNeed", fn := fun _ => fun
  | [d1, d2, d3, d4] => { results := [.lit (.bool true)], args := [d1, d2, d3, d4] }
  | _ => none }
def rangerNeedRow : OpenClaim := { program := "ytfebhofihioaoaa", sum := "c5254cea557068c49e2d2edb22ab88b1d67666dbe64604a92b3dc04f56ec7b02", func := "geyserite/geyseritelaw12.RangerNeed", spec := "rangerNeed", unfollowed := true, recurses := true, apart := false }
def RangerNeedSaid : Prop := rangerNeedRow.holds Try.pinned (OpenSpec.ofChange rangerNeedSpec)

/-- ITS FALSE NEIGHBOUR: 'it returns false'. Refute it at one input. -/
def rangerNeedWrong : ChangeSpec := { name := "rangerNeed", fn := fun _ => fun
  | [d1, d2, d3, d4] => { results := [.lit (.bool false)], args := [d1, d2, d3, d4] }
  | _ => none }
def RangerNeedWrongFalsely : Prop := rangerNeedRow.holds Try.pinned (OpenSpec.ofChange rangerNeedWrong)

/-- 'geyseritelaw12.RangerMore': WHATEVER THE INPUT: true; the input reads as it did. -/
def rangerMoreSpec : ChangeSpec := { name := "rangerMore", fn := fun _ => fun
  | [d1, d2, d3, d4, d5] => { results := [.lit (.bool true)], args := [d1, d2, d3, d4, d5] }
  | _ => none }
def rangerMoreRow : OpenClaim := { program := "ytfebhofihioaoaa", sum := "c5254cea557068c49e2d2edb22ab88b1d67666dbe64604a92b3dc04f56ec7b02", func := "geyserite/geyseritelaw12.RangerMore", spec := "rangerMore", unfollowed := true, recurses := true, apart := false }
def RangerMoreSaid : Prop := rangerMoreRow.holds Try.pinned (OpenSpec.ofChange rangerMoreSpec)

/-- ITS FALSE NEIGHBOUR: 'it returns false'. Refute it at one input. -/
def rangerMoreWrong : ChangeSpec := { name := "rangerMore", fn := fun _ => fun
  | [d1, d2, d3, d4, d5] => { results := [.lit (.bool false)], args := [d1, d2, d3, d4, d5] }
  | _ => none }
def RangerMoreWrongFalsely : Prop := rangerMoreRow.holds Try.pinned (OpenSpec.ofChange rangerMoreWrong)

/-- 'geyseritelaw12.RangerLeast': WHATEVER THE INPUT: true; the input reads as it did. -/
def rangerLeastSpec : ChangeSpec := { name := "rangerLeast", fn := fun _ => fun
  | [d1, d2] => { results := [.lit (.bool true)], args := [d1, d2] }
  | _ => none }
def rangerLeastRow : OpenClaim := { program := "ytfebhofihioaoaa", sum := "c5254cea557068c49e2d2edb22ab88b1d67666dbe64604a92b3dc04f56ec7b02", func := "geyserite/geyseritelaw12.RangerLeast", spec := "rangerLeast", unfollowed := true, recurses := true, apart := false }
def RangerLeastSaid : Prop := rangerLeastRow.holds Try.pinned (OpenSpec.ofChange rangerLeastSpec)

/-- ITS FALSE NEIGHBOUR: 'it returns false'. Refute it at one input. -/
def rangerLeastWrong : ChangeSpec := { name := "rangerLeast", fn := fun _ => fun
  | [d1, d2] => { results := [.lit (.bool false)], args := [d1, d2] }
  | _ => none }
def RangerLeastWrongFalsely : Prop := rangerLeastRow.holds Try.pinned (OpenSpec.ofChange rangerLeastWrong)

/- THE SECOND FORM. 'bulk': how many values and letters a reading holds, each counted each time it is reached (what is shared counts as often as it is met; a slice's spare places count too). A statement '..UptoSaid' is the law's where the arguments, and the package variables that the reading takes, are together of bulk at most 1048576: NARROWER than '..Said'. Prove '..Said' where nothing that the law and all that it calls make is longer than what came in: it says more and counts as full. Else prove '..UptoSaid'. A law counts once. -/
mutual
def uptoBulk {H : Type} : DataW H → Nat
  | .lit (.string bytes) => bytes.length + 1
  | .lit _ => 1
  | .nil => 1
  | .ptr d => uptoBulk d + 1
  | .slice elems spare => uptoBulkAll elems + uptoBulkAll spare + 1
  | .agg parts => uptoBulkAll parts + 1
  | .iface _ d => uptoBulk d + 1
  | .map entries => uptoBulkEntries entries + 1
  | .held _ => 1
def uptoBulkAll {H : Type} : List (DataW H) → Nat
  | [] => 0
  | d :: r => uptoBulk d + uptoBulkAll r
def uptoBulkEntries {H : Type} : List (Lit × DataW H) → Nat
  | [] => 0
  | x :: r => uptoBulkEntry x + uptoBulkEntries r
def uptoBulkEntry {H : Type} : Lit × DataW H → Nat
  | (.string bytes, d) => bytes.length + uptoBulk d + 1
  | (_, d) => uptoBulk d + 1
 end
def uptoSmall : (H : Type) → List (DataW H) → Bool := fun _ ds => decide (uptoBulkAll ds ≤ 1048576)
def OpenSpec.upto (s : _root_.Go.ChangeSpec) : _root_.Go.OpenSpec := { _root_.Go.OpenSpec.ofChange s with cond := some uptoSmall }

/-- 'geyseritelaw12.RangerNeeds', WHERE WHAT IT READS IS OF BULK AT MOST 1048576: true; the input reads as it did. -/
def rangerNeedsUptoRow : OpenClaim := { program := "ytfebhofihioaoaa", sum := "c5254cea557068c49e2d2edb22ab88b1d67666dbe64604a92b3dc04f56ec7b02", func := "geyserite/geyseritelaw12.RangerNeeds", spec := "rangerNeeds", unfollowed := true, recurses := true, apart := false, narrowed := true }
def RangerNeedsUptoSaid : Prop := rangerNeedsUptoRow.holds Try.pinned (OpenSpec.upto rangerNeedsSpec)

/-- 'geyseritelaw12.RangerFewest', WHERE WHAT IT READS IS OF BULK AT MOST 1048576: true; the input reads as it did. -/
def rangerFewestUptoRow : OpenClaim := { program := "ytfebhofihioaoaa", sum := "c5254cea557068c49e2d2edb22ab88b1d67666dbe64604a92b3dc04f56ec7b02", func := "geyserite/geyseritelaw12.RangerFewest", spec := "rangerFewest", unfollowed := true, recurses := true, apart := false, narrowed := true }
def RangerFewestUptoSaid : Prop := rangerFewestUptoRow.holds Try.pinned (OpenSpec.upto rangerFewestSpec)

/-- 'geyseritelaw12.RangerTrue', WHERE WHAT IT READS IS OF BULK AT MOST 1048576: true; the input reads as it did. -/
def rangerTrueUptoRow : OpenClaim := { program := "ytfebhofihioaoaa", sum := "c5254cea557068c49e2d2edb22ab88b1d67666dbe64604a92b3dc04f56ec7b02", func := "geyserite/geyseritelaw12.RangerTrue", spec := "rangerTrue", unfollowed := true, recurses := true, apart := false, narrowed := true }
def RangerTrueUptoSaid : Prop := rangerTrueUptoRow.holds Try.pinned (OpenSpec.upto rangerTrueSpec)

/-- 'geyseritelaw12.RangerNeed', WHERE WHAT IT READS IS OF BULK AT MOST 1048576: true; the input reads as it did. -/
def rangerNeedUptoRow : OpenClaim := { program := "ytfebhofihioaoaa", sum := "c5254cea557068c49e2d2edb22ab88b1d67666dbe64604a92b3dc04f56ec7b02", func := "geyserite/geyseritelaw12.RangerNeed", spec := "rangerNeed", unfollowed := true, recurses := true, apart := false, narrowed := true }
def RangerNeedUptoSaid : Prop := rangerNeedUptoRow.holds Try.pinned (OpenSpec.upto rangerNeedSpec)

/-- 'geyseritelaw12.RangerMore', WHERE WHAT IT READS IS OF BULK AT MOST 1048576: true; the input reads as it did. -/
def rangerMoreUptoRow : OpenClaim := { program := "ytfebhofihioaoaa", sum := "c5254cea557068c49e2d2edb22ab88b1d67666dbe64604a92b3dc04f56ec7b02", func := "geyserite/geyseritelaw12.RangerMore", spec := "rangerMore", unfollowed := true, recurses := true, apart := false, narrowed := true }
def RangerMoreUptoSaid : Prop := rangerMoreUptoRow.holds Try.pinned (OpenSpec.upto rangerMoreSpec)

/-- 'geyseritelaw12.RangerLeast', WHERE WHAT IT READS IS OF BULK AT MOST 1048576: true; the input reads as it did. -/
def rangerLeastUptoRow : OpenClaim := { program := "ytfebhofihioaoaa", sum := "c5254cea557068c49e2d2edb22ab88b1d67666dbe64604a92b3dc04f56ec7b02", func := "geyserite/geyseritelaw12.RangerLeast", spec := "rangerLeast", unfollowed := true, recurses := true, apart := false, narrowed := true }
def RangerLeastUptoSaid : Prop := rangerLeastUptoRow.holds Try.pinned (OpenSpec.upto rangerLeastSpec)

end Rows
end Go.Proofs.Ytfebhofihioaoaa
