/-
  DERIVED. GIVEN WITH THE SEED: THE CARDS: each row of YtafdphmhbnjfaaaGreatDoorRows.lean that lists a variable, with what it lists TIED to the program's text (the seventh form; the later family's looks); each row that meets fmt, with fmt's text TOLD by the authors' own Lean function (tested against real Go, not proved from fmt's source: count such statements apart). THE CARD IS WHAT COUNTS. Prove the row's statement (the work); the ties are given (YtafdphmhbnjfaaaGreatDoorTie.lean); close each card by the builder's one call (the guide's Derived/Test/ToyasCard.lean, 'card_holds'). Laid BY PROGRAM, IN A SANDBOX (cutbox-door.mjs). By AI agents, Wed Nov 11 2026. No macro, syntax, notation, axiom, sorry.
-/
import Derived.Test.YtafdphmhbnjfaaaGreatDoorRows
import GoSem.ClaimSeven
namespace Go.Proofs.YtafdphmhbnjfaaaGreatDoor
namespace Rows

/-- THE TIED CARD OF 'amanuensislaw23.EpochKeeps'. -/
def epochKeepsCard : Claim7 := { stood := { row := epochKeepsRow, standIns := [], harness := (true, "3c572b09c907d62bb5b3c6e6e2b9604c35e1db4556cc101aab7056270a2004fa"), looks := false }, kinds := [], alts := [], laidByText := true, laidKinds := [.data, .data, .data], laidTests := true, laidLooks := .later }
def EpochKeepsCardSaid : Prop := Claim7.holds Tryz.pinned (.plain (OpenSpec.ofChange epochKeepsSpec)) epochKeepsCard

/-- THE TIED CARD OF 'amanuensislaw23.EpochSame'. -/
def epochSameCard : Claim7 := { stood := { row := epochSameRow, standIns := [], harness := (true, "3c572b09c907d62bb5b3c6e6e2b9604c35e1db4556cc101aab7056270a2004fa"), looks := false }, kinds := [], alts := [], laidByText := true, laidKinds := [.data, .data, .data], laidTests := true, laidLooks := .later }
def EpochSameCardSaid : Prop := Claim7.holds Tryz.pinned (.plain (OpenSpec.ofChange epochSameSpec)) epochSameCard

/-- THE TIED CARD OF 'amanuensislaw23.EpochTells'. -/
def epochTellsCard : Claim7 := { stood := { row := epochTellsRow, standIns := [], harness := (true, "3c572b09c907d62bb5b3c6e6e2b9604c35e1db4556cc101aab7056270a2004fa"), looks := false }, kinds := [], alts := [], laidByText := true, laidKinds := [.data, .data, .data], laidTests := true, laidLooks := .later }
def EpochTellsCardSaid : Prop := Claim7.holds Tryz.pinned (.plain (OpenSpec.ofChange epochTellsSpec)) epochTellsCard

/-- THE TIED CARD OF 'amanuensislaw23.EpochGrows'. -/
def epochGrowsCard : Claim7 := { stood := { row := epochGrowsRow, standIns := [], harness := (true, "3c572b09c907d62bb5b3c6e6e2b9604c35e1db4556cc101aab7056270a2004fa"), looks := false }, kinds := [], alts := [], laidByText := true, laidKinds := [.data, .data, .data], laidTests := true, laidLooks := .later }
def EpochGrowsCardSaid : Prop := Claim7.holds Tryz.pinned (.plain (OpenSpec.ofChange epochGrowsSpec)) epochGrowsCard

/-- THE SECOND FORM's CARD OF 'amanuensislaw23.EpochKeeps'. -/
def epochKeepsUptoCard : Claim7 := { stood := { row := epochKeepsUptoRow, standIns := [], harness := (true, "3c572b09c907d62bb5b3c6e6e2b9604c35e1db4556cc101aab7056270a2004fa"), looks := false }, kinds := [], alts := [], laidByText := true, laidKinds := [.data, .data, .data], laidTests := true, laidLooks := .later }
def EpochKeepsUptoCardSaid : Prop := Claim7.holds Tryz.pinned (.plain (OpenSpec.upto epochKeepsSpec)) epochKeepsUptoCard

/-- THE SECOND FORM's CARD OF 'amanuensislaw23.EpochSame'. -/
def epochSameUptoCard : Claim7 := { stood := { row := epochSameUptoRow, standIns := [], harness := (true, "3c572b09c907d62bb5b3c6e6e2b9604c35e1db4556cc101aab7056270a2004fa"), looks := false }, kinds := [], alts := [], laidByText := true, laidKinds := [.data, .data, .data], laidTests := true, laidLooks := .later }
def EpochSameUptoCardSaid : Prop := Claim7.holds Tryz.pinned (.plain (OpenSpec.upto epochSameSpec)) epochSameUptoCard

/-- THE SECOND FORM's CARD OF 'amanuensislaw23.EpochTells'. -/
def epochTellsUptoCard : Claim7 := { stood := { row := epochTellsUptoRow, standIns := [], harness := (true, "3c572b09c907d62bb5b3c6e6e2b9604c35e1db4556cc101aab7056270a2004fa"), looks := false }, kinds := [], alts := [], laidByText := true, laidKinds := [.data, .data, .data], laidTests := true, laidLooks := .later }
def EpochTellsUptoCardSaid : Prop := Claim7.holds Tryz.pinned (.plain (OpenSpec.upto epochTellsSpec)) epochTellsUptoCard

/-- THE SECOND FORM's CARD OF 'amanuensislaw23.EpochGrows'. -/
def epochGrowsUptoCard : Claim7 := { stood := { row := epochGrowsUptoRow, standIns := [], harness := (true, "3c572b09c907d62bb5b3c6e6e2b9604c35e1db4556cc101aab7056270a2004fa"), looks := false }, kinds := [], alts := [], laidByText := true, laidKinds := [.data, .data, .data], laidTests := true, laidLooks := .later }
def EpochGrowsUptoCardSaid : Prop := Claim7.holds Tryz.pinned (.plain (OpenSpec.upto epochGrowsSpec)) epochGrowsUptoCard
end Rows
end Go.Proofs.YtafdphmhbnjfaaaGreatDoor
