/-
  DERIVED. GIVEN WITH THE SEED: THE CARDS: each row of YtgdilbilhajgaaaDoorRows.lean that lists a variable, with what it lists TIED to the program's text (the seventh form; the later family's looks); each row that meets fmt, with fmt's text TOLD by the authors' own Lean function (tested against real Go, not proved from fmt's source: count such statements apart). THE CARD IS WHAT COUNTS. Prove the row's statement (the work); the ties are given (YtgdilbilhajgaaaDoorTie.lean); close each card by the builder's one call (the guide's Derived/Test/ToyasCard.lean, 'card_holds'). Laid BY PROGRAM, IN A SANDBOX (cutbox-door.mjs). By AI agents, Wed Nov 11 2026. No macro, syntax, notation, axiom, sorry.
-/
import Derived.Test.YtgdilbilhajgaaaDoorRows
import GoSem.ClaimSeven
namespace Go.Proofs.YtgdilbilhajgaaaDoor
namespace Rows

/-- THE TIED CARD OF 'geyseritelaw08.WellsProofs'. -/
def wellsProofsCard : Claim7 := { stood := { row := wellsProofsRow, standIns := [], harness := (true, "cf23d6eef2d89d246ff42f08651cc99453d119ee63c643524cb4f2ea551eeb6c"), looks := false }, kinds := [], alts := [], laidByText := true, laidKinds := [.data, .data], laidTests := true, laidLooks := .later }
def WellsProofsCardSaid : Prop := Claim7.holds Tryd.pinned (.plain (OpenSpec.ofChange wellsProofsSpec)) wellsProofsCard

/-- THE TIED CARD OF 'geyseritelaw08.WellsEnds'. -/
def wellsEndsCard : Claim7 := { stood := { row := wellsEndsRow, standIns := [], harness := (true, "cf23d6eef2d89d246ff42f08651cc99453d119ee63c643524cb4f2ea551eeb6c"), looks := false }, kinds := [], alts := [], laidByText := true, laidKinds := [.data, .data], laidTests := true, laidLooks := .later }
def WellsEndsCardSaid : Prop := Claim7.holds Tryd.pinned (.plain (OpenSpec.ofChange wellsEndsSpec)) wellsEndsCard

/-- THE TIED CARD OF 'geyseritelaw08.WellsFlows'. -/
def wellsFlowsCard : Claim7 := { stood := { row := wellsFlowsRow, standIns := [], harness := (true, "cf23d6eef2d89d246ff42f08651cc99453d119ee63c643524cb4f2ea551eeb6c"), looks := false }, kinds := [], alts := [], laidByText := true, laidKinds := [.data, .data], laidTests := true, laidLooks := .later }
def WellsFlowsCardSaid : Prop := Claim7.holds Tryd.pinned (.plain (OpenSpec.ofChange wellsFlowsSpec)) wellsFlowsCard

/-- THE TIED CARD OF 'geyseritelaw08.WellsNames'. -/
def wellsNamesCard : Claim7 := { stood := { row := wellsNamesRow, standIns := [], harness := (true, "cf23d6eef2d89d246ff42f08651cc99453d119ee63c643524cb4f2ea551eeb6c"), looks := false }, kinds := [], alts := [], laidByText := true, laidKinds := [.data, .data], laidTests := true, laidLooks := .later }
def WellsNamesCardSaid : Prop := Claim7.holds Tryd.pinned (.plain (OpenSpec.ofChange wellsNamesSpec)) wellsNamesCard

/-- THE TIED CARD OF 'geyseritelaw08.WellsTrue'. -/
def wellsTrueCard : Claim7 := { stood := { row := wellsTrueRow, standIns := [], harness := (true, "cf23d6eef2d89d246ff42f08651cc99453d119ee63c643524cb4f2ea551eeb6c"), looks := false }, kinds := [], alts := [], laidByText := true, laidKinds := [.data, .data], laidTests := true, laidLooks := .later }
def WellsTrueCardSaid : Prop := Claim7.holds Tryd.pinned (.plain (OpenSpec.ofChange wellsTrueSpec)) wellsTrueCard

/-- THE TIED CARD OF 'geyseritelaw08.WellsProof'. -/
def wellsProofCard : Claim7 := { stood := { row := wellsProofRow, standIns := [], harness := (true, "cf23d6eef2d89d246ff42f08651cc99453d119ee63c643524cb4f2ea551eeb6c"), looks := false }, kinds := [], alts := [], laidByText := true, laidKinds := [.data, .data], laidTests := true, laidLooks := .later }
def WellsProofCardSaid : Prop := Claim7.holds Tryd.pinned (.plain (OpenSpec.ofChange wellsProofSpec)) wellsProofCard

/-- THE TIED CARD OF 'geyseritelaw08.WellsMore'. -/
def wellsMoreCard : Claim7 := { stood := { row := wellsMoreRow, standIns := [], harness := (true, "cf23d6eef2d89d246ff42f08651cc99453d119ee63c643524cb4f2ea551eeb6c"), looks := false }, kinds := [], alts := [], laidByText := true, laidKinds := [.data, .data], laidTests := true, laidLooks := .later }
def WellsMoreCardSaid : Prop := Claim7.holds Tryd.pinned (.plain (OpenSpec.ofChange wellsMoreSpec)) wellsMoreCard

/-- THE TIED CARD OF 'geyseritelaw08.WellsOwns'. -/
def wellsOwnsCard : Claim7 := { stood := { row := wellsOwnsRow, standIns := [], harness := (true, "cf23d6eef2d89d246ff42f08651cc99453d119ee63c643524cb4f2ea551eeb6c"), looks := false }, kinds := [], alts := [], laidByText := true, laidKinds := [.data, .data], laidTests := true, laidLooks := .later }
def WellsOwnsCardSaid : Prop := Claim7.holds Tryd.pinned (.plain (OpenSpec.ofChange wellsOwnsSpec)) wellsOwnsCard

/-- THE SECOND FORM's CARD OF 'geyseritelaw08.WellsProofs'. -/
def wellsProofsUptoCard : Claim7 := { stood := { row := wellsProofsUptoRow, standIns := [], harness := (true, "cf23d6eef2d89d246ff42f08651cc99453d119ee63c643524cb4f2ea551eeb6c"), looks := false }, kinds := [], alts := [], laidByText := true, laidKinds := [.data, .data], laidTests := true, laidLooks := .later }
def WellsProofsUptoCardSaid : Prop := Claim7.holds Tryd.pinned (.plain (OpenSpec.upto wellsProofsSpec)) wellsProofsUptoCard

/-- THE SECOND FORM's CARD OF 'geyseritelaw08.WellsEnds'. -/
def wellsEndsUptoCard : Claim7 := { stood := { row := wellsEndsUptoRow, standIns := [], harness := (true, "cf23d6eef2d89d246ff42f08651cc99453d119ee63c643524cb4f2ea551eeb6c"), looks := false }, kinds := [], alts := [], laidByText := true, laidKinds := [.data, .data], laidTests := true, laidLooks := .later }
def WellsEndsUptoCardSaid : Prop := Claim7.holds Tryd.pinned (.plain (OpenSpec.upto wellsEndsSpec)) wellsEndsUptoCard

/-- THE SECOND FORM's CARD OF 'geyseritelaw08.WellsFlows'. -/
def wellsFlowsUptoCard : Claim7 := { stood := { row := wellsFlowsUptoRow, standIns := [], harness := (true, "cf23d6eef2d89d246ff42f08651cc99453d119ee63c643524cb4f2ea551eeb6c"), looks := false }, kinds := [], alts := [], laidByText := true, laidKinds := [.data, .data], laidTests := true, laidLooks := .later }
def WellsFlowsUptoCardSaid : Prop := Claim7.holds Tryd.pinned (.plain (OpenSpec.upto wellsFlowsSpec)) wellsFlowsUptoCard

/-- THE SECOND FORM's CARD OF 'geyseritelaw08.WellsNames'. -/
def wellsNamesUptoCard : Claim7 := { stood := { row := wellsNamesUptoRow, standIns := [], harness := (true, "cf23d6eef2d89d246ff42f08651cc99453d119ee63c643524cb4f2ea551eeb6c"), looks := false }, kinds := [], alts := [], laidByText := true, laidKinds := [.data, .data], laidTests := true, laidLooks := .later }
def WellsNamesUptoCardSaid : Prop := Claim7.holds Tryd.pinned (.plain (OpenSpec.upto wellsNamesSpec)) wellsNamesUptoCard

/-- THE SECOND FORM's CARD OF 'geyseritelaw08.WellsTrue'. -/
def wellsTrueUptoCard : Claim7 := { stood := { row := wellsTrueUptoRow, standIns := [], harness := (true, "cf23d6eef2d89d246ff42f08651cc99453d119ee63c643524cb4f2ea551eeb6c"), looks := false }, kinds := [], alts := [], laidByText := true, laidKinds := [.data, .data], laidTests := true, laidLooks := .later }
def WellsTrueUptoCardSaid : Prop := Claim7.holds Tryd.pinned (.plain (OpenSpec.upto wellsTrueSpec)) wellsTrueUptoCard

/-- THE SECOND FORM's CARD OF 'geyseritelaw08.WellsProof'. -/
def wellsProofUptoCard : Claim7 := { stood := { row := wellsProofUptoRow, standIns := [], harness := (true, "cf23d6eef2d89d246ff42f08651cc99453d119ee63c643524cb4f2ea551eeb6c"), looks := false }, kinds := [], alts := [], laidByText := true, laidKinds := [.data, .data], laidTests := true, laidLooks := .later }
def WellsProofUptoCardSaid : Prop := Claim7.holds Tryd.pinned (.plain (OpenSpec.upto wellsProofSpec)) wellsProofUptoCard

/-- THE SECOND FORM's CARD OF 'geyseritelaw08.WellsMore'. -/
def wellsMoreUptoCard : Claim7 := { stood := { row := wellsMoreUptoRow, standIns := [], harness := (true, "cf23d6eef2d89d246ff42f08651cc99453d119ee63c643524cb4f2ea551eeb6c"), looks := false }, kinds := [], alts := [], laidByText := true, laidKinds := [.data, .data], laidTests := true, laidLooks := .later }
def WellsMoreUptoCardSaid : Prop := Claim7.holds Tryd.pinned (.plain (OpenSpec.upto wellsMoreSpec)) wellsMoreUptoCard

/-- THE SECOND FORM's CARD OF 'geyseritelaw08.WellsOwns'. -/
def wellsOwnsUptoCard : Claim7 := { stood := { row := wellsOwnsUptoRow, standIns := [], harness := (true, "cf23d6eef2d89d246ff42f08651cc99453d119ee63c643524cb4f2ea551eeb6c"), looks := false }, kinds := [], alts := [], laidByText := true, laidKinds := [.data, .data], laidTests := true, laidLooks := .later }
def WellsOwnsUptoCardSaid : Prop := Claim7.holds Tryd.pinned (.plain (OpenSpec.upto wellsOwnsSpec)) wellsOwnsUptoCard
end Rows
end Go.Proofs.YtgdilbilhajgaaaDoor
