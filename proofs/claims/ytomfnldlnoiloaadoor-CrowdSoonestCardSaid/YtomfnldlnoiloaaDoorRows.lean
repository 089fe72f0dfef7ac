/-
  NARROWER THAN 'FOR EVERY INPUT', by the rows' own cells (each row's printed sentence says how): CrowdSees: laid · CrowdMost: laid · CrowdWalls: laid · CrowdFree: laid · CrowdMore: laid · CrowdMoves: laid · CrowdOwns: laid · CrowdSoonest: laid · CrowdNames: laid.
  DERIVED. THE GIVEN ROWS OF THIS SEAT. 9 by the template 'for every input the law returns true; each argument reads behind the call as it read before'; 0 by the template 'total and deterministic' (their statements: YtomfnldlnoiloaaDoorTotals.lean).
  GIVEN WITH THE SEED: the statements are not yours to turn. If you find one false, say at which input.
  Laid BY PROGRAM, IN A SANDBOX (cutbox-rows.mjs): the forced cells as the released guide's own fill.sh prints them over the translation e5a8d00e05ae80c0… (all of the seat's roots in one cut). By AI agents, Wed Nov 11 2026. No macro, syntax, notation, axiom, sorry.
-/
import Derived.Test.YtomfnldlnoiloaaDoorChecked
import GoSem.Claim
import GoSem.ClaimJoined
import GoSem.ClaimMapViews
import Derived.JoinedTies
import Derived.KernelRfl
namespace Go.Proofs.YtomfnldlnoiloaaDoor
/- THE CELL 'sum', in the pinned program and in every row, IS THE sha256 OF THE DUMP (.gsa) THAT YtomfnldlnoiloaaDoorProg.lean LOADS. Nothing in Lean hashes anything: it is a label: what it is worth is what the hold of that sum in a sandbox is worth. -/
noncomputable def Tryd.pinned : Pinned := { name := "ytomfnldlnoiloaadoor", sum := "e5a8d00e05ae80c06f013ce516322dcf588b114f8848c226f0aa1182bae7d442", checked := Tryd.checked }
namespace Rows
def none {H : Type} : Left H := { results := [], args := [] }

/- WHAT THE LISTED PACKAGE-LEVEL VARIABLES READ AS WHEN THE CALL BEGINS. Each datum BY PROGRAM (the guide's laid-datum.mjs) off the statement by which the dump's own 'gosem.cut.vars' lays the variable. In a bare row this is a premise. The card (YtomfnldlnoiloaaDoorCards.lean) ties it to the program's text. -/
def laid_geyserite_crowd_source {H : Type} : DataW H := .agg [.agg [.lit (.int .i64 0), .lit (.int .i64 0)], .lit (.int .i64 1)]
def laid_geyserite_crowd_sink {H : Type} : DataW H := .agg [.agg [.lit (.int .i64 0), .lit (.int .i64 0)], .lit (.int .i64 2)]

/-- 'geyseritelaw09.CrowdSees': WHATEVER THE INPUT: true; the input reads as it did. -/
def crowdSeesSpec : ChangeSpec := { name := "crowdSees", fn := fun _ => fun
  | [d1, d2, d3, d4] => { results := [.lit (.bool true)], args := [d1, d2, d3, d4] }
  | _ => none }
def crowdSeesRow : OpenClaim := { program := "ytomfnldlnoiloaadoor", sum := "e5a8d00e05ae80c06f013ce516322dcf588b114f8848c226f0aa1182bae7d442", func := "geyserite/geyseritelaw09.CrowdSees", spec := "crowdSees", unfollowed := true, recurses := true, named := ["geyserite/crowd.source", "geyserite/crowd.sink"], plainKeys := false, apart := false, laid := [("geyserite/crowd.source", laid_geyserite_crowd_source), ("geyserite/crowd.sink", laid_geyserite_crowd_sink)] }
def CrowdSeesSaid : Prop := crowdSeesRow.holds Tryd.pinned (OpenSpec.ofChange crowdSeesSpec)

/-- ITS FALSE NEIGHBOUR: 'it returns false'. Refute it at one input. -/
def crowdSeesWrong : ChangeSpec := { name := "crowdSees", fn := fun _ => fun
  | [d1, d2, d3, d4] => { results := [.lit (.bool false)], args := [d1, d2, d3, d4] }
  | _ => none }
def CrowdSeesWrongFalsely : Prop := crowdSeesRow.holds Tryd.pinned (OpenSpec.ofChange crowdSeesWrong)

/-- 'geyseritelaw09.CrowdMost': WHATEVER THE INPUT: true; the input reads as it did. -/
def crowdMostSpec : ChangeSpec := { name := "crowdMost", fn := fun _ => fun
  | [d1, d2, d3] => { results := [.lit (.bool true)], args := [d1, d2, d3] }
  | _ => none }
def crowdMostRow : OpenClaim := { program := "ytomfnldlnoiloaadoor", sum := "e5a8d00e05ae80c06f013ce516322dcf588b114f8848c226f0aa1182bae7d442", func := "geyserite/geyseritelaw09.CrowdMost", spec := "crowdMost", unfollowed := true, recurses := true, named := ["geyserite/crowd.source", "geyserite/crowd.sink"], plainKeys := false, apart := false, laid := [("geyserite/crowd.source", laid_geyserite_crowd_source), ("geyserite/crowd.sink", laid_geyserite_crowd_sink)] }
def CrowdMostSaid : Prop := crowdMostRow.holds Tryd.pinned (OpenSpec.ofChange crowdMostSpec)

/-- ITS FALSE NEIGHBOUR: 'it returns false'. Refute it at one input. -/
def crowdMostWrong : ChangeSpec := { name := "crowdMost", fn := fun _ => fun
  | [d1, d2, d3] => { results := [.lit (.bool false)], args := [d1, d2, d3] }
  | _ => none }
def CrowdMostWrongFalsely : Prop := crowdMostRow.holds Tryd.pinned (OpenSpec.ofChange crowdMostWrong)

/-- 'geyseritelaw09.CrowdWalls': WHATEVER THE INPUT: true; the input reads as it did. -/
def crowdWallsSpec : ChangeSpec := { name := "crowdWalls", fn := fun _ => fun
  | [d1, d2, d3, d4, d5] => { results := [.lit (.bool true)], args := [d1, d2, d3, d4, d5] }
  | _ => none }
def crowdWallsRow : OpenClaim := { program := "ytomfnldlnoiloaadoor", sum := "e5a8d00e05ae80c06f013ce516322dcf588b114f8848c226f0aa1182bae7d442", func := "geyserite/geyseritelaw09.CrowdWalls", spec := "crowdWalls", unfollowed := true, recurses := true, named := ["geyserite/crowd.source", "geyserite/crowd.sink"], plainKeys := false, apart := false, laid := [("geyserite/crowd.source", laid_geyserite_crowd_source), ("geyserite/crowd.sink", laid_geyserite_crowd_sink)] }
def CrowdWallsSaid : Prop := crowdWallsRow.holds Tryd.pinned (OpenSpec.ofChange crowdWallsSpec)

/-- ITS FALSE NEIGHBOUR: 'it returns false'. Refute it at one input. -/
def crowdWallsWrong : ChangeSpec := { name := "crowdWalls", fn := fun _ => fun
  | [d1, d2, d3, d4, d5] => { results := [.lit (.bool false)], args := [d1, d2, d3, d4, d5] }
  | _ => none }
def CrowdWallsWrongFalsely : Prop := crowdWallsRow.holds Tryd.pinned (OpenSpec.ofChange crowdWallsWrong)

/-- 'geyseritelaw09.CrowdFree': WHATEVER THE INPUT: true; the input reads as it did. -/
def crowdFreeSpec : ChangeSpec := { name := "crowdFree", fn := fun _ => fun
  | [d1, d2, d3] => { results := [.lit (.bool true)], args := [d1, d2, d3] }
  | _ => none }
def crowdFreeRow : OpenClaim := { program := "ytomfnldlnoiloaadoor", sum := "e5a8d00e05ae80c06f013ce516322dcf588b114f8848c226f0aa1182bae7d442", func := "geyserite/geyseritelaw09.CrowdFree", spec := "crowdFree", unfollowed := true, recurses := true, named := ["geyserite/crowd.source", "geyserite/crowd.sink"], plainKeys := false, apart := false, laid := [("geyserite/crowd.source", laid_geyserite_crowd_source), ("geyserite/crowd.sink", laid_geyserite_crowd_sink)] }
def CrowdFreeSaid : Prop := crowdFreeRow.holds Tryd.pinned (OpenSpec.ofChange crowdFreeSpec)

/-- ITS FALSE NEIGHBOUR: 'it returns false'. Refute it at one input. -/
def crowdFreeWrong : ChangeSpec := { name := "crowdFree", fn := fun _ => fun
  | [d1, d2, d3] => { results := [.lit (.bool false)], args := [d1, d2, d3] }
  | _ => none }
def CrowdFreeWrongFalsely : Prop := crowdFreeRow.holds Tryd.pinned (OpenSpec.ofChange crowdFreeWrong)

/-- 'geyseritelaw09.CrowdMore': WHATEVER THE INPUT: true; the input reads as it did. -/
def crowdMoreSpec : ChangeSpec := { name := "crowdMore", fn := fun _ => fun
  | [d1, d2, d3, d4, d5, d6] => { results := [.lit (.bool true)], args := [d1, d2, d3, d4, d5, d6] }
  | _ => none }
def crowdMoreRow : OpenClaim := { program := "ytomfnldlnoiloaadoor", sum := "e5a8d00e05ae80c06f013ce516322dcf588b114f8848c226f0aa1182bae7d442", func := "geyserite/geyseritelaw09.CrowdMore", spec := "crowdMore", unfollowed := true, recurses := true, named := ["geyserite/crowd.source", "geyserite/crowd.sink"], plainKeys := false, apart := false, laid := [("geyserite/crowd.source", laid_geyserite_crowd_source), ("geyserite/crowd.sink", laid_geyserite_crowd_sink)] }
def CrowdMoreSaid : Prop := crowdMoreRow.holds Tryd.pinned (OpenSpec.ofChange crowdMoreSpec)

/-- ITS FALSE NEIGHBOUR: 'it returns false'. Refute it at one input. -/
def crowdMoreWrong : ChangeSpec := { name := "crowdMore", fn := fun _ => fun
  | [d1, d2, d3, d4, d5, d6] => { results := [.lit (.bool false)], args := [d1, d2, d3, d4, d5, d6] }
  | _ => none }
def CrowdMoreWrongFalsely : Prop := crowdMoreRow.holds Tryd.pinned (OpenSpec.ofChange crowdMoreWrong)

/-- 'geyseritelaw09.CrowdMoves': WHATEVER THE INPUT: true; the input reads as it did. -/
def crowdMovesSpec : ChangeSpec := { name := "crowdMoves", fn := fun _ => fun
  | [d1, d2, d3, d4] => { results := [.lit (.bool true)], args := [d1, d2, d3, d4] }
  | _ => none }
def crowdMovesRow : OpenClaim := { program := "ytomfnldlnoiloaadoor", sum := "e5a8d00e05ae80c06f013ce516322dcf588b114f8848c226f0aa1182bae7d442", func := "geyserite/geyseritelaw09.CrowdMoves", spec := "crowdMoves", unfollowed := true, recurses := true, named := ["geyserite/crowd.source", "geyserite/crowd.sink"], plainKeys := false, apart := false, laid := [("geyserite/crowd.source", laid_geyserite_crowd_source), ("geyserite/crowd.sink", laid_geyserite_crowd_sink)] }
def CrowdMovesSaid : Prop := crowdMovesRow.holds Tryd.pinned (OpenSpec.ofChange crowdMovesSpec)

/-- ITS FALSE NEIGHBOUR: 'it returns false'. Refute it at one input. -/
def crowdMovesWrong : ChangeSpec := { name := "crowdMoves", fn := fun _ => fun
  | [d1, d2, d3, d4] => { results := [.lit (.bool false)], args := [d1, d2, d3, d4] }
  | _ => none }
def CrowdMovesWrongFalsely : Prop := crowdMovesRow.holds Tryd.pinned (OpenSpec.ofChange crowdMovesWrong)

/-- 'geyseritelaw09.CrowdOwns': WHATEVER THE INPUT: true; the input reads as it did. -/
def crowdOwnsSpec : ChangeSpec := { name := "crowdOwns", fn := fun _ => fun
  | [d1, d2, d3, d4] => { results := [.lit (.bool true)], args := [d1, d2, d3, d4] }
  | _ => none }
def crowdOwnsRow : OpenClaim := { program := "ytomfnldlnoiloaadoor", sum := "e5a8d00e05ae80c06f013ce516322dcf588b114f8848c226f0aa1182bae7d442", func := "geyserite/geyseritelaw09.CrowdOwns", spec := "crowdOwns", unfollowed := true, recurses := true, named := ["geyserite/crowd.source", "geyserite/crowd.sink"], plainKeys := false, apart := false, laid := [("geyserite/crowd.source", laid_geyserite_crowd_source), ("geyserite/crowd.sink", laid_geyserite_crowd_sink)] }
def CrowdOwnsSaid : Prop := crowdOwnsRow.holds Tryd.pinned (OpenSpec.ofChange crowdOwnsSpec)

/-- ITS FALSE NEIGHBOUR: 'it returns false'. Refute it at one input. -/
def crowdOwnsWrong : ChangeSpec := { name := "crowdOwns", fn := fun _ => fun
  | [d1, d2, d3, d4] => { results := [.lit (.bool false)], args := [d1, d2, d3, d4] }
  | _ => none }
def CrowdOwnsWrongFalsely : Prop := crowdOwnsRow.holds Tryd.pinned (OpenSpec.ofChange crowdOwnsWrong)

/-- 'geyseritelaw09.CrowdSoonest': WHATEVER THE INPUT: true; the input reads as it did. -/
def crowdSoonestSpec : ChangeSpec := { name := "crowdSoonest", fn := fun _ => fun
  | [d1, d2, d3] => { results := [.lit (.bool true)], args := [d1, d2, d3] }
  | _ => none }
def crowdSoonestRow : OpenClaim := { program := "ytomfnldlnoiloaadoor", sum := "e5a8d00e05ae80c06f013ce516322dcf588b114f8848c226f0aa1182bae7d442", func := "geyserite/geyseritelaw09.CrowdSoonest", spec := "crowdSoonest", unfollowed := true, recurses := true, named := ["geyserite/crowd.source", "geyserite/crowd.sink"], plainKeys := false, apart := false, laid := [("geyserite/crowd.source", laid_geyserite_crowd_source), ("geyserite/crowd.sink", laid_geyserite_crowd_sink)] }
def CrowdSoonestSaid : Prop := crowdSoonestRow.holds Tryd.pinned (OpenSpec.ofChange crowdSoonestSpec)

/-- ITS FALSE NEIGHBOUR: 'it returns false'. Refute it at one input. -/
def crowdSoonestWrong : ChangeSpec := { name := "crowdSoonest", fn := fun _ => fun
  | [d1, d2, d3] => { results := [.lit (.bool false)], args := [d1, d2, d3] }
  | _ => none }
def CrowdSoonestWrongFalsely : Prop := crowdSoonestRow.holds Tryd.pinned (OpenSpec.ofChange crowdSoonestWrong)

/-- 'geyseritelaw09.CrowdNames': WHATEVER THE INPUT: true; the input reads as it did. -/
def crowdNamesSpec : ChangeSpec := { name := "crowdNames", fn := fun _ => fun
  | [] => { results := [.lit (.bool true)], args := [] }
  | _ => none }
def crowdNamesRow : OpenClaim := { program := "ytomfnldlnoiloaadoor", sum := "e5a8d00e05ae80c06f013ce516322dcf588b114f8848c226f0aa1182bae7d442", func := "geyserite/geyseritelaw09.CrowdNames", spec := "crowdNames", unfollowed := true, recurses := true, named := ["geyserite/crowd.source", "geyserite/crowd.sink"], plainKeys := false, apart := false, laid := [("geyserite/crowd.source", laid_geyserite_crowd_source), ("geyserite/crowd.sink", laid_geyserite_crowd_sink)] }
def CrowdNamesSaid : Prop := crowdNamesRow.holds Tryd.pinned (OpenSpec.ofChange crowdNamesSpec)

/-- ITS FALSE NEIGHBOUR: 'it returns false'. Refute it at one input. -/
def crowdNamesWrong : ChangeSpec := { name := "crowdNames", fn := fun _ => fun
  | [] => { results := [.lit (.bool false)], args := [] }
  | _ => none }
def CrowdNamesWrongFalsely : Prop := crowdNamesRow.holds Tryd.pinned (OpenSpec.ofChange crowdNamesWrong)

/- THE SECOND FORM. 'bulk': how many values and letters a reading holds, each counted each time it is reached (what is shared counts as often as it is met; a slice's spare places count too). A statement '..UptoSaid' is the law's where the arguments, and the package variables that the reading takes, are together of bulk at most 1048576: NARROWER than '..Said'. Prove '..Said' where nothing that the law and all that it calls make is longer than what came in: it says more and counts as full. Else prove '..UptoSaid'. A law counts once. -/
mutual
def uptoBulk {H : Type} : DataW H → Nat
  | .lit (.string bytes) => bytes.length + 1
  | .lit _ => 1
  | .nil => 1
  | .ptr d => uptoBulk d + 1
  | .slice elems spare => uptoBulkAll elems + uptoBulkAll spare + 1
  | .agg parts => uptoBulkAll parts + 1
  | .iface _ d => uptoBulk d + 1
  | .map entries => uptoBulkEntries entries + 1
  | .held _ => 1
def uptoBulkAll {H : Type} : List (DataW H) → Nat
  | [] => 0
  | d :: r => uptoBulk d + uptoBulkAll r
def uptoBulkEntries {H : Type} : List (Lit × DataW H) → Nat
  | [] => 0
  | x :: r => uptoBulkEntry x + uptoBulkEntries r
def uptoBulkEntry {H : Type} : Lit × DataW H → Nat
  | (.string bytes, d) => bytes.length + uptoBulk d + 1
  | (_, d) => uptoBulk d + 1
 end
def uptoSmall : (H : Type) → List (DataW H) → Bool := fun _ ds => decide (uptoBulkAll ds ≤ 1048576)
def OpenSpec.upto (s : _root_.Go.ChangeSpec) : _root_.Go.OpenSpec := { _root_.Go.OpenSpec.ofChange s with cond := some uptoSmall }

/-- 'geyseritelaw09.CrowdSees', WHERE WHAT IT READS IS OF BULK AT MOST 1048576: true; the input reads as it did. -/
def crowdSeesUptoRow : OpenClaim := { program := "ytomfnldlnoiloaadoor", sum := "e5a8d00e05ae80c06f013ce516322dcf588b114f8848c226f0aa1182bae7d442", func := "geyserite/geyseritelaw09.CrowdSees", spec := "crowdSees", unfollowed := true, recurses := true, named := ["geyserite/crowd.source", "geyserite/crowd.sink"], plainKeys := false, apart := false, laid := [("geyserite/crowd.source", laid_geyserite_crowd_source), ("geyserite/crowd.sink", laid_geyserite_crowd_sink)], narrowed := true }
def CrowdSeesUptoSaid : Prop := crowdSeesUptoRow.holds Tryd.pinned (OpenSpec.upto crowdSeesSpec)

/-- 'geyseritelaw09.CrowdMost', WHERE WHAT IT READS IS OF BULK AT MOST 1048576: true; the input reads as it did. -/
def crowdMostUptoRow : OpenClaim := { program := "ytomfnldlnoiloaadoor", sum := "e5a8d00e05ae80c06f013ce516322dcf588b114f8848c226f0aa1182bae7d442", func := "geyserite/geyseritelaw09.CrowdMost", spec := "crowdMost", unfollowed := true, recurses := true, named := ["geyserite/crowd.source", "geyserite/crowd.sink"], plainKeys := false, apart := false, laid := [("geyserite/crowd.source", laid_geyserite_crowd_source), ("geyserite/crowd.sink", laid_geyserite_crowd_sink)], narrowed := true }
def CrowdMostUptoSaid : Prop := crowdMostUptoRow.holds Tryd.pinned (OpenSpec.upto crowdMostSpec)

/-- 'geyseritelaw09.CrowdWalls', WHERE WHAT IT READS IS OF BULK AT MOST 1048576: true; the input reads as it did. -/
def crowdWallsUptoRow : OpenClaim := { program := "ytomfnldlnoiloaadoor", sum := "e5a8d00e05ae80c06f013ce516322dcf588b114f8848c226f0aa1182bae7d442", func := "geyserite/geyseritelaw09.CrowdWalls", spec := "crowdWalls", unfollowed := true, recurses := true, named := ["geyserite/crowd.source", "geyserite/crowd.sink"], plainKeys := false, apart := false, laid := [("geyserite/crowd.source", laid_geyserite_crowd_source), ("geyserite/crowd.sink", laid_geyserite_crowd_sink)], narrowed := true }
def CrowdWallsUptoSaid : Prop := crowdWallsUptoRow.holds Tryd.pinned (OpenSpec.upto crowdWallsSpec)

/-- 'geyseritelaw09.CrowdFree', WHERE WHAT IT READS IS OF BULK AT MOST 1048576: true; the input reads as it did. -/
def crowdFreeUptoRow : OpenClaim := { program := "ytomfnldlnoiloaadoor", sum := "e5a8d00e05ae80c06f013ce516322dcf588b114f8848c226f0aa1182bae7d442", func := "geyserite/geyseritelaw09.CrowdFree", spec := "crowdFree", unfollowed := true, recurses := true, named := ["geyserite/crowd.source", "geyserite/crowd.sink"], plainKeys := false, apart := false, laid := [("geyserite/crowd.source", laid_geyserite_crowd_source), ("geyserite/crowd.sink", laid_geyserite_crowd_sink)], narrowed := true }
def CrowdFreeUptoSaid : Prop := crowdFreeUptoRow.holds Tryd.pinned (OpenSpec.upto crowdFreeSpec)

/-- 'geyseritelaw09.CrowdMore', WHERE WHAT IT READS IS OF BULK AT MOST 1048576: true; the input reads as it did. -/
def crowdMoreUptoRow : OpenClaim := { program := "ytomfnldlnoiloaadoor", sum := "e5a8d00e05ae80c06f013ce516322dcf588b114f8848c226f0aa1182bae7d442", func := "geyserite/geyseritelaw09.CrowdMore", spec := "crowdMore", unfollowed := true, recurses := true, named := ["geyserite/crowd.source", "geyserite/crowd.sink"], plainKeys := false, apart := false, laid := [("geyserite/crowd.source", laid_geyserite_crowd_source), ("geyserite/crowd.sink", laid_geyserite_crowd_sink)], narrowed := true }
def CrowdMoreUptoSaid : Prop := crowdMoreUptoRow.holds Tryd.pinned (OpenSpec.upto crowdMoreSpec)

/-- 'geyseritelaw09.CrowdMoves', WHERE WHAT IT READS IS OF BULK AT MOST 1048576: true; the input reads as it did. -/
def crowdMovesUptoRow : OpenClaim := { program := "ytomfnldlnoiloaadoor", sum := "e5a8d00e05ae80c06f013ce516322dcf588b114f8848c226f0aa1182bae7d442", func := "geyserite/geyseritelaw09.CrowdMoves", spec := "crowdMoves", unfollowed := true, recurses := true, named := ["geyserite/crowd.source", "geyserite/crowd.sink"], plainKeys := false, apart := false, laid := [("geyserite/crowd.source", laid_geyserite_crowd_source), ("geyserite/crowd.sink", laid_geyserite_crowd_sink)], narrowed := true }
def CrowdMovesUptoSaid : Prop := crowdMovesUptoRow.holds Tryd.pinned (OpenSpec.upto crowdMovesSpec)

/-- 'geyseritelaw09.CrowdOwns', WHERE WHAT IT READS IS OF BULK AT MOST 1048576: true; the input reads as it did. -/
def crowdOwnsUptoRow : OpenClaim := { program := "ytomfnldlnoiloaadoor", sum := "e5a8d00e05ae80c06f013ce516322dcf588b114f8848c226f0aa1182bae7d442", func := "geyserite/geyseritelaw09.CrowdOwns", spec := "crowdOwns", unfollowed := true, recurses := true, named := ["geyserite/crowd.source", "geyserite/crowd.sink"], plainKeys := false, apart := false, laid := [("geyserite/crowd.source", laid_geyserite_crowd_source), ("geyserite/crowd.sink", laid_geyserite_crowd_sink)], narrowed := true }
def CrowdOwnsUptoSaid : Prop := crowdOwnsUptoRow.holds Tryd.pinned (OpenSpec.upto crowdOwnsSpec)

/-- 'geyseritelaw09.CrowdSoonest', WHERE WHAT IT READS IS OF BULK AT MOST 1048576: true; the input reads as it did. -/
def crowdSoonestUptoRow : OpenClaim := { program := "ytomfnldlnoiloaadoor", sum := "e5a8d00e05ae80c06f013ce516322dcf588b114f8848c226f0aa1182bae7d442", func := "geyserite/geyseritelaw09.CrowdSoonest", spec := "crowdSoonest", unfollowed := true, recurses := true, named := ["geyserite/crowd.source", "geyserite/crowd.sink"], plainKeys := false, apart := false, laid := [("geyserite/crowd.source", laid_geyserite_crowd_source), ("geyserite/crowd.sink", laid_geyserite_crowd_sink)], narrowed := true }
def CrowdSoonestUptoSaid : Prop := crowdSoonestUptoRow.holds Tryd.pinned (OpenSpec.upto crowdSoonestSpec)

/-- 'geyseritelaw09.CrowdNames', WHERE WHAT IT READS IS OF BULK AT MOST 1048576: true; the input reads as it did. -/
def crowdNamesUptoRow : OpenClaim := { program := "ytomfnldlnoiloaadoor", sum := "e5a8d00e05ae80c06f013ce516322dcf588b114f8848c226f0aa1182bae7d442", func := "geyserite/geyseritelaw09.CrowdNames", spec := "crowdNames", unfollowed := true, recurses := true, named := ["geyserite/crowd.source", "geyserite/crowd.sink"], plainKeys := false, apart := false, laid := [("geyserite/crowd.source", laid_geyserite_crowd_source), ("geyserite/crowd.sink", laid_geyserite_crowd_sink)], narrowed := true }
def CrowdNamesUptoSaid : Prop := crowdNamesUptoRow.holds Tryd.pinned (OpenSpec.upto crowdNamesSpec)

end Rows
end Go.Proofs.YtomfnldlnoiloaaDoor
