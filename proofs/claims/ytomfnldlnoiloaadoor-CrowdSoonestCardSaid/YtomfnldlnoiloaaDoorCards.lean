/-
  DERIVED. GIVEN WITH THE SEED: THE CARDS: each row of YtomfnldlnoiloaaDoorRows.lean that lists a variable, with what it lists TIED to the program's text (the seventh form; the later family's looks); each row that meets fmt, with fmt's text TOLD by the authors' own Lean function (tested against real Go, not proved from fmt's source: count such statements apart). THE CARD IS WHAT COUNTS. Prove the row's statement (the work); the ties are given (YtomfnldlnoiloaaDoorTie.lean); close each card by the builder's one call (the guide's Derived/Test/ToyasCard.lean, 'card_holds'). Laid BY PROGRAM, IN A SANDBOX (cutbox-door.mjs). By AI agents, Wed Nov 11 2026. No macro, syntax, notation, axiom, sorry.
-/
import Derived.Test.YtomfnldlnoiloaaDoorRows
import GoSem.ClaimSeven
namespace Go.Proofs.YtomfnldlnoiloaaDoor
namespace Rows

/-- THE TIED CARD OF 'geyseritelaw09.CrowdSees'. -/
def crowdSeesCard : Claim7 := { stood := { row := crowdSeesRow, standIns := [], harness := (true, "6562c37f1c0ae295c98359bfc1f9219f737ceba079cfba806077519868d9e0a2"), looks := true }, kinds := [], alts := [], laidByText := true, laidKinds := [.data, .data], laidTests := true, laidLooks := .later }
def CrowdSeesCardSaid : Prop := Claim7.holds Tryd.pinned (.plain (OpenSpec.ofChange crowdSeesSpec)) crowdSeesCard

/-- THE TIED CARD OF 'geyseritelaw09.CrowdMost'. -/
def crowdMostCard : Claim7 := { stood := { row := crowdMostRow, standIns := [], harness := (true, "6562c37f1c0ae295c98359bfc1f9219f737ceba079cfba806077519868d9e0a2"), looks := true }, kinds := [], alts := [], laidByText := true, laidKinds := [.data, .data], laidTests := true, laidLooks := .later }
def CrowdMostCardSaid : Prop := Claim7.holds Tryd.pinned (.plain (OpenSpec.ofChange crowdMostSpec)) crowdMostCard

/-- THE TIED CARD OF 'geyseritelaw09.CrowdWalls'. -/
def crowdWallsCard : Claim7 := { stood := { row := crowdWallsRow, standIns := [], harness := (true, "6562c37f1c0ae295c98359bfc1f9219f737ceba079cfba806077519868d9e0a2"), looks := true }, kinds := [], alts := [], laidByText := true, laidKinds := [.data, .data], laidTests := true, laidLooks := .later }
def CrowdWallsCardSaid : Prop := Claim7.holds Tryd.pinned (.plain (OpenSpec.ofChange crowdWallsSpec)) crowdWallsCard

/-- THE TIED CARD OF 'geyseritelaw09.CrowdFree'. -/
def crowdFreeCard : Claim7 := { stood := { row := crowdFreeRow, standIns := [], harness := (true, "6562c37f1c0ae295c98359bfc1f9219f737ceba079cfba806077519868d9e0a2"), looks := true }, kinds := [], alts := [], laidByText := true, laidKinds := [.data, .data], laidTests := true, laidLooks := .later }
def CrowdFreeCardSaid : Prop := Claim7.holds Tryd.pinned (.plain (OpenSpec.ofChange crowdFreeSpec)) crowdFreeCard

/-- THE TIED CARD OF 'geyseritelaw09.CrowdMore'. -/
def crowdMoreCard : Claim7 := { stood := { row := crowdMoreRow, standIns := [], harness := (true, "6562c37f1c0ae295c98359bfc1f9219f737ceba079cfba806077519868d9e0a2"), looks := true }, kinds := [], alts := [], laidByText := true, laidKinds := [.data, .data], laidTests := true, laidLooks := .later }
def CrowdMoreCardSaid : Prop := Claim7.holds Tryd.pinned (.plain (OpenSpec.ofChange crowdMoreSpec)) crowdMoreCard

/-- THE TIED CARD OF 'geyseritelaw09.CrowdMoves'. -/
def crowdMovesCard : Claim7 := { stood := { row := crowdMovesRow, standIns := [], harness := (true, "6562c37f1c0ae295c98359bfc1f9219f737ceba079cfba806077519868d9e0a2"), looks := true }, kinds := [], alts := [], laidByText := true, laidKinds := [.data, .data], laidTests := true, laidLooks := .later }
def CrowdMovesCardSaid : Prop := Claim7.holds Tryd.pinned (.plain (OpenSpec.ofChange crowdMovesSpec)) crowdMovesCard

/-- THE TIED CARD OF 'geyseritelaw09.CrowdOwns'. -/
def crowdOwnsCard : Claim7 := { stood := { row := crowdOwnsRow, standIns := [], harness := (true, "6562c37f1c0ae295c98359bfc1f9219f737ceba079cfba806077519868d9e0a2"), looks := true }, kinds := [], alts := [], laidByText := true, laidKinds := [.data, .data], laidTests := true, laidLooks := .later }
def CrowdOwnsCardSaid : Prop := Claim7.holds Tryd.pinned (.plain (OpenSpec.ofChange crowdOwnsSpec)) crowdOwnsCard

/-- THE TIED CARD OF 'geyseritelaw09.CrowdSoonest'. -/
def crowdSoonestCard : Claim7 := { stood := { row := crowdSoonestRow, standIns := [], harness := (true, "6562c37f1c0ae295c98359bfc1f9219f737ceba079cfba806077519868d9e0a2"), looks := true }, kinds := [], alts := [], laidByText := true, laidKinds := [.data, .data], laidTests := true, laidLooks := .later }
def CrowdSoonestCardSaid : Prop := Claim7.holds Tryd.pinned (.plain (OpenSpec.ofChange crowdSoonestSpec)) crowdSoonestCard

/-- THE TIED CARD OF 'geyseritelaw09.CrowdNames'. -/
def crowdNamesCard : Claim7 := { stood := { row := crowdNamesRow, standIns := [], harness := (true, "6562c37f1c0ae295c98359bfc1f9219f737ceba079cfba806077519868d9e0a2"), looks := true }, kinds := [], alts := [], laidByText := true, laidKinds := [.data, .data], laidTests := true, laidLooks := .later }
def CrowdNamesCardSaid : Prop := Claim7.holds Tryd.pinned (.plain (OpenSpec.ofChange crowdNamesSpec)) crowdNamesCard

/-- THE SECOND FORM's CARD OF 'geyseritelaw09.CrowdSees'. -/
def crowdSeesUptoCard : Claim7 := { stood := { row := crowdSeesUptoRow, standIns := [], harness := (true, "6562c37f1c0ae295c98359bfc1f9219f737ceba079cfba806077519868d9e0a2"), looks := true }, kinds := [], alts := [], laidByText := true, laidKinds := [.data, .data], laidTests := true, laidLooks := .later }
def CrowdSeesUptoCardSaid : Prop := Claim7.holds Tryd.pinned (.plain (OpenSpec.upto crowdSeesSpec)) crowdSeesUptoCard

/-- THE SECOND FORM's CARD OF 'geyseritelaw09.CrowdMost'. -/
def crowdMostUptoCard : Claim7 := { stood := { row := crowdMostUptoRow, standIns := [], harness := (true, "6562c37f1c0ae295c98359bfc1f9219f737ceba079cfba806077519868d9e0a2"), looks := true }, kinds := [], alts := [], laidByText := true, laidKinds := [.data, .data], laidTests := true, laidLooks := .later }
def CrowdMostUptoCardSaid : Prop := Claim7.holds Tryd.pinned (.plain (OpenSpec.upto crowdMostSpec)) crowdMostUptoCard

/-- THE SECOND FORM's CARD OF 'geyseritelaw09.CrowdWalls'. -/
def crowdWallsUptoCard : Claim7 := { stood := { row := crowdWallsUptoRow, standIns := [], harness := (true, "6562c37f1c0ae295c98359bfc1f9219f737ceba079cfba806077519868d9e0a2"), looks := true }, kinds := [], alts := [], laidByText := true, laidKinds := [.data, .data], laidTests := true, laidLooks := .later }
def CrowdWallsUptoCardSaid : Prop := Claim7.holds Tryd.pinned (.plain (OpenSpec.upto crowdWallsSpec)) crowdWallsUptoCard

/-- THE SECOND FORM's CARD OF 'geyseritelaw09.CrowdFree'. -/
def crowdFreeUptoCard : Claim7 := { stood := { row := crowdFreeUptoRow, standIns := [], harness := (true, "6562c37f1c0ae295c98359bfc1f9219f737ceba079cfba806077519868d9e0a2"), looks := true }, kinds := [], alts := [], laidByText := true, laidKinds := [.data, .data], laidTests := true, laidLooks := .later }
def CrowdFreeUptoCardSaid : Prop := Claim7.holds Tryd.pinned (.plain (OpenSpec.upto crowdFreeSpec)) crowdFreeUptoCard

/-- THE SECOND FORM's CARD OF 'geyseritelaw09.CrowdMore'. -/
def crowdMoreUptoCard : Claim7 := { stood := { row := crowdMoreUptoRow, standIns := [], harness := (true, "6562c37f1c0ae295c98359bfc1f9219f737ceba079cfba806077519868d9e0a2"), looks := true }, kinds := [], alts := [], laidByText := true, laidKinds := [.data, .data], laidTests := true, laidLooks := .later }
def CrowdMoreUptoCardSaid : Prop := Claim7.holds Tryd.pinned (.plain (OpenSpec.upto crowdMoreSpec)) crowdMoreUptoCard

/-- THE SECOND FORM's CARD OF 'geyseritelaw09.CrowdMoves'. -/
def crowdMovesUptoCard : Claim7 := { stood := { row := crowdMovesUptoRow, standIns := [], harness := (true, "6562c37f1c0ae295c98359bfc1f9219f737ceba079cfba806077519868d9e0a2"), looks := true }, kinds := [], alts := [], laidByText := true, laidKinds := [.data, .data], laidTests := true, laidLooks := .later }
def CrowdMovesUptoCardSaid : Prop := Claim7.holds Tryd.pinned (.plain (OpenSpec.upto crowdMovesSpec)) crowdMovesUptoCard

/-- THE SECOND FORM's CARD OF 'geyseritelaw09.CrowdOwns'. -/
def crowdOwnsUptoCard : Claim7 := { stood := { row := crowdOwnsUptoRow, standIns := [], harness := (true, "6562c37f1c0ae295c98359bfc1f9219f737ceba079cfba806077519868d9e0a2"), looks := true }, kinds := [], alts := [], laidByText := true, laidKinds := [.data, .data], laidTests := true, laidLooks := .later }
def CrowdOwnsUptoCardSaid : Prop := Claim7.holds Tryd.pinned (.plain (OpenSpec.upto crowdOwnsSpec)) crowdOwnsUptoCard

/-- THE SECOND FORM's CARD OF 'geyseritelaw09.CrowdSoonest'. -/
def crowdSoonestUptoCard : Claim7 := { stood := { row := crowdSoonestUptoRow, standIns := [], harness := (true, "6562c37f1c0ae295c98359bfc1f9219f737ceba079cfba806077519868d9e0a2"), looks := true }, kinds := [], alts := [], laidByText := true, laidKinds := [.data, .data], laidTests := true, laidLooks := .later }
def CrowdSoonestUptoCardSaid : Prop := Claim7.holds Tryd.pinned (.plain (OpenSpec.upto crowdSoonestSpec)) crowdSoonestUptoCard

/-- THE SECOND FORM's CARD OF 'geyseritelaw09.CrowdNames'. -/
def crowdNamesUptoCard : Claim7 := { stood := { row := crowdNamesUptoRow, standIns := [], harness := (true, "6562c37f1c0ae295c98359bfc1f9219f737ceba079cfba806077519868d9e0a2"), looks := true }, kinds := [], alts := [], laidByText := true, laidKinds := [.data, .data], laidTests := true, laidLooks := .later }
def CrowdNamesUptoCardSaid : Prop := Claim7.holds Tryd.pinned (.plain (OpenSpec.upto crowdNamesSpec)) crowdNamesUptoCard
end Rows
end Go.Proofs.YtomfnldlnoiloaaDoor
