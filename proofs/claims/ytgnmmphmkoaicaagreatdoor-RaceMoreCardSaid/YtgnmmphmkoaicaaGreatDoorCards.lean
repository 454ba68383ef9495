/-
  DERIVED. GIVEN WITH THE SEED: THE CARDS: each row of YtgnmmphmkoaicaaGreatDoorRows.lean that lists a variable, with what it lists TIED to the program's text (the seventh form; the later family's looks); each row that meets fmt, with fmt's text TOLD by the authors' own Lean function (tested against real Go, not proved from fmt's source: count such statements apart). THE CARD IS WHAT COUNTS. Prove the row's statement (the work); the ties are given (YtgnmmphmkoaicaaGreatDoorTie.lean); close each card by the builder's one call (the guide's Derived/Test/ToyasCard.lean, 'card_holds'). Laid BY PROGRAM, IN A SANDBOX (cutbox-door.mjs). By AI agents, Wed Nov 11 2026. No macro, syntax, notation, axiom, sorry.
-/
import Derived.Test.YtgnmmphmkoaicaaGreatDoorRows
import GoSem.ClaimSeven
namespace Go.Proofs.YtgnmmphmkoaicaaGreatDoor
namespace Rows

/-- THE TIED CARD OF 'amanuensislaw16.RaceGuarded'. -/
def raceGuardedCard : Claim7 := { stood := { row := raceGuardedRow, standIns := [], harness := (true, "99b0322e404905e7171489276d9a8c2903c7a4dbfd20dca3417175a8b55956b8"), looks := false }, kinds := [], alts := [], laidByText := true, laidKinds := [.data, .data, .data], laidTests := true, laidLooks := .later }
def RaceGuardedCardSaid : Prop := Claim7.holds Tryz.pinned (.plain (OpenSpec.ofChange raceGuardedSpec)) raceGuardedCard

/-- THE TIED CARD OF 'amanuensislaw16.RaceAlone'. -/
def raceAloneCard : Claim7 := { stood := { row := raceAloneRow, standIns := [], harness := (true, "99b0322e404905e7171489276d9a8c2903c7a4dbfd20dca3417175a8b55956b8"), looks := false }, kinds := [], alts := [], laidByText := true, laidKinds := [.data, .data, .data], laidTests := true, laidLooks := .later }
def RaceAloneCardSaid : Prop := Claim7.holds Tryz.pinned (.plain (OpenSpec.ofChange raceAloneSpec)) raceAloneCard

/-- THE TIED CARD OF 'amanuensislaw16.RaceNames'. -/
def raceNamesCard : Claim7 := { stood := { row := raceNamesRow, standIns := [], harness := (true, "99b0322e404905e7171489276d9a8c2903c7a4dbfd20dca3417175a8b55956b8"), looks := false }, kinds := [], alts := [], laidByText := true, laidKinds := [.data, .data, .data], laidTests := true, laidLooks := .later }
def RaceNamesCardSaid : Prop := Claim7.holds Tryz.pinned (.plain (OpenSpec.ofChange raceNamesSpec)) raceNamesCard

/-- THE TIED CARD OF 'amanuensislaw16.RaceMore'. -/
def raceMoreCard : Claim7 := { stood := { row := raceMoreRow, standIns := [], harness := (true, "99b0322e404905e7171489276d9a8c2903c7a4dbfd20dca3417175a8b55956b8"), looks := false }, kinds := [], alts := [], laidByText := true, laidKinds := [.data, .data, .data], laidTests := true, laidLooks := .later }
def RaceMoreCardSaid : Prop := Claim7.holds Tryz.pinned (.plain (OpenSpec.ofChange raceMoreSpec)) raceMoreCard

/-- THE TIED CARD OF 'amanuensislaw16.RaceTells'. -/
def raceTellsCard : Claim7 := { stood := { row := raceTellsRow, standIns := [], harness := (true, "99b0322e404905e7171489276d9a8c2903c7a4dbfd20dca3417175a8b55956b8"), looks := false }, kinds := [], alts := [], laidByText := true, laidKinds := [.data, .data, .data], laidTests := true, laidLooks := .later }
def RaceTellsCardSaid : Prop := Claim7.holds Tryz.pinned (.plain (OpenSpec.ofChange raceTellsSpec)) raceTellsCard

/-- THE TIED CARD OF 'amanuensislaw16.RaceOrder'. -/
def raceOrderCard : Claim7 := { stood := { row := raceOrderRow, standIns := [], harness := (true, "99b0322e404905e7171489276d9a8c2903c7a4dbfd20dca3417175a8b55956b8"), looks := false }, kinds := [], alts := [], laidByText := true, laidKinds := [.data, .data, .data], laidTests := true, laidLooks := .later }
def RaceOrderCardSaid : Prop := Claim7.holds Tryz.pinned (.plain (OpenSpec.ofChange raceOrderSpec)) raceOrderCard

/-- THE TIED CARD OF 'amanuensislaw16.RaceChains'. -/
def raceChainsCard : Claim7 := { stood := { row := raceChainsRow, standIns := [], harness := (true, "99b0322e404905e7171489276d9a8c2903c7a4dbfd20dca3417175a8b55956b8"), looks := false }, kinds := [], alts := [], laidByText := true, laidKinds := [.data, .data, .data], laidTests := true, laidLooks := .later }
def RaceChainsCardSaid : Prop := Claim7.holds Tryz.pinned (.plain (OpenSpec.ofChange raceChainsSpec)) raceChainsCard

/-- THE SECOND FORM's CARD OF 'amanuensislaw16.RaceGuarded'. -/
def raceGuardedUptoCard : Claim7 := { stood := { row := raceGuardedUptoRow, standIns := [], harness := (true, "99b0322e404905e7171489276d9a8c2903c7a4dbfd20dca3417175a8b55956b8"), looks := false }, kinds := [], alts := [], laidByText := true, laidKinds := [.data, .data, .data], laidTests := true, laidLooks := .later }
def RaceGuardedUptoCardSaid : Prop := Claim7.holds Tryz.pinned (.plain (OpenSpec.upto raceGuardedSpec)) raceGuardedUptoCard

/-- THE SECOND FORM's CARD OF 'amanuensislaw16.RaceAlone'. -/
def raceAloneUptoCard : Claim7 := { stood := { row := raceAloneUptoRow, standIns := [], harness := (true, "99b0322e404905e7171489276d9a8c2903c7a4dbfd20dca3417175a8b55956b8"), looks := false }, kinds := [], alts := [], laidByText := true, laidKinds := [.data, .data, .data], laidTests := true, laidLooks := .later }
def RaceAloneUptoCardSaid : Prop := Claim7.holds Tryz.pinned (.plain (OpenSpec.upto raceAloneSpec)) raceAloneUptoCard

/-- THE SECOND FORM's CARD OF 'amanuensislaw16.RaceNames'. -/
def raceNamesUptoCard : Claim7 := { stood := { row := raceNamesUptoRow, standIns := [], harness := (true, "99b0322e404905e7171489276d9a8c2903c7a4dbfd20dca3417175a8b55956b8"), looks := false }, kinds := [], alts := [], laidByText := true, laidKinds := [.data, .data, .data], laidTests := true, laidLooks := .later }
def RaceNamesUptoCardSaid : Prop := Claim7.holds Tryz.pinned (.plain (OpenSpec.upto raceNamesSpec)) raceNamesUptoCard

/-- THE SECOND FORM's CARD OF 'amanuensislaw16.RaceMore'. -/
def raceMoreUptoCard : Claim7 := { stood := { row := raceMoreUptoRow, standIns := [], harness := (true, "99b0322e404905e7171489276d9a8c2903c7a4dbfd20dca3417175a8b55956b8"), looks := false }, kinds := [], alts := [], laidByText := true, laidKinds := [.data, .data, .data], laidTests := true, laidLooks := .later }
def RaceMoreUptoCardSaid : Prop := Claim7.holds Tryz.pinned (.plain (OpenSpec.upto raceMoreSpec)) raceMoreUptoCard

/-- THE SECOND FORM's CARD OF 'amanuensislaw16.RaceTells'. -/
def raceTellsUptoCard : Claim7 := { stood := { row := raceTellsUptoRow, standIns := [], harness := (true, "99b0322e404905e7171489276d9a8c2903c7a4dbfd20dca3417175a8b55956b8"), looks := false }, kinds := [], alts := [], laidByText := true, laidKinds := [.data, .data, .data], laidTests := true, laidLooks := .later }
def RaceTellsUptoCardSaid : Prop := Claim7.holds Tryz.pinned (.plain (OpenSpec.upto raceTellsSpec)) raceTellsUptoCard

/-- THE SECOND FORM's CARD OF 'amanuensislaw16.RaceOrder'. -/
def raceOrderUptoCard : Claim7 := { stood := { row := raceOrderUptoRow, standIns := [], harness := (true, "99b0322e404905e7171489276d9a8c2903c7a4dbfd20dca3417175a8b55956b8"), looks := false }, kinds := [], alts := [], laidByText := true, laidKinds := [.data, .data, .data], laidTests := true, laidLooks := .later }
def RaceOrderUptoCardSaid : Prop := Claim7.holds Tryz.pinned (.plain (OpenSpec.upto raceOrderSpec)) raceOrderUptoCard

/-- THE SECOND FORM's CARD OF 'amanuensislaw16.RaceChains'. -/
def raceChainsUptoCard : Claim7 := { stood := { row := raceChainsUptoRow, standIns := [], harness := (true, "99b0322e404905e7171489276d9a8c2903c7a4dbfd20dca3417175a8b55956b8"), looks := false }, kinds := [], alts := [], laidByText := true, laidKinds := [.data, .data, .data], laidTests := true, laidLooks := .later }
def RaceChainsUptoCardSaid : Prop := Claim7.holds Tryz.pinned (.plain (OpenSpec.upto raceChainsSpec)) raceChainsUptoCard
end Rows
end Go.Proofs.YtgnmmphmkoaicaaGreatDoor
