/-
  DERIVED. GIVEN WITH THE SEED: THE CARDS: each row of YtnnokaklkegngaaDoorRows.lean that lists a variable, with what it lists TIED to the program's text (the seventh form; the later family's looks); each row that meets fmt, with fmt's text TOLD by the authors' own Lean function (tested against real Go, not proved from fmt's source: count such statements apart). THE CARD IS WHAT COUNTS. Prove the row's statement (the work); the ties are given (YtnnokaklkegngaaDoorTie.lean); close each card by the builder's one call (the guide's Derived/Test/ToyasCard.lean, 'card_holds'). Laid BY PROGRAM, IN A SANDBOX (cutbox-door.mjs). By AI agents, Wed Nov 11 2026. No macro, syntax, notation, axiom, sorry.
-/
import Derived.Test.YtnnokaklkegngaaDoorRows
import GoSem.ClaimSeven
namespace Go.Proofs.YtnnokaklkegngaaDoor
namespace Rows

/-- THE TIED CARD OF 'amanuensislaw11.CodeRound'. -/
def codeRoundCard : Claim7 := { stood := { row := codeRoundRow, standIns := [], harness := (true, "0b6e15ac4870d2664dfaf6e693512788d6eeeb90c700968219546dd3db1f89c7"), looks := false }, kinds := [], alts := [], laidByText := true, laidKinds := [.data, .data, .data], laidTests := true, laidLooks := .later }
def CodeRoundCardSaid : Prop := Claim7.holds Tryd.pinned (.plain (OpenSpec.ofChange codeRoundSpec)) codeRoundCard

/-- THE TIED CARD OF 'amanuensislaw11.CodeLengths'. -/
def codeLengthsCard : Claim7 := { stood := { row := codeLengthsRow, standIns := [], harness := (true, "0b6e15ac4870d2664dfaf6e693512788d6eeeb90c700968219546dd3db1f89c7"), looks := false }, kinds := [], alts := [], laidByText := true, laidKinds := [.data, .data, .data], laidTests := true, laidLooks := .later }
def CodeLengthsCardSaid : Prop := Claim7.holds Tryd.pinned (.plain (OpenSpec.ofChange codeLengthsSpec)) codeLengthsCard

/-- THE TIED CARD OF 'amanuensislaw11.CodeJumps'. -/
def codeJumpsCard : Claim7 := { stood := { row := codeJumpsRow, standIns := [], harness := (true, "0b6e15ac4870d2664dfaf6e693512788d6eeeb90c700968219546dd3db1f89c7"), looks := false }, kinds := [], alts := [], laidByText := true, laidKinds := [.data, .data, .data], laidTests := true, laidLooks := .later }
def CodeJumpsCardSaid : Prop := Claim7.holds Tryd.pinned (.plain (OpenSpec.ofChange codeJumpsSpec)) codeJumpsCard

/-- THE TIED CARD OF 'amanuensislaw11.CodeLocalsApart'. -/
def codeLocalsApartCard : Claim7 := { stood := { row := codeLocalsApartRow, standIns := [], harness := (true, "0b6e15ac4870d2664dfaf6e693512788d6eeeb90c700968219546dd3db1f89c7"), looks := false }, kinds := [], alts := [], laidByText := true, laidKinds := [.data, .data, .data], laidTests := true, laidLooks := .later }
def CodeLocalsApartCardSaid : Prop := Claim7.holds Tryd.pinned (.plain (OpenSpec.ofChange codeLocalsApartSpec)) codeLocalsApartCard

/-- THE SECOND FORM's CARD OF 'amanuensislaw11.CodeRound'. -/
def codeRoundUptoCard : Claim7 := { stood := { row := codeRoundUptoRow, standIns := [], harness := (true, "0b6e15ac4870d2664dfaf6e693512788d6eeeb90c700968219546dd3db1f89c7"), looks := false }, kinds := [], alts := [], laidByText := true, laidKinds := [.data, .data, .data], laidTests := true, laidLooks := .later }
def CodeRoundUptoCardSaid : Prop := Claim7.holds Tryd.pinned (.plain (OpenSpec.upto codeRoundSpec)) codeRoundUptoCard

/-- THE SECOND FORM's CARD OF 'amanuensislaw11.CodeLengths'. -/
def codeLengthsUptoCard : Claim7 := { stood := { row := codeLengthsUptoRow, standIns := [], harness := (true, "0b6e15ac4870d2664dfaf6e693512788d6eeeb90c700968219546dd3db1f89c7"), looks := false }, kinds := [], alts := [], laidByText := true, laidKinds := [.data, .data, .data], laidTests := true, laidLooks := .later }
def CodeLengthsUptoCardSaid : Prop := Claim7.holds Tryd.pinned (.plain (OpenSpec.upto codeLengthsSpec)) codeLengthsUptoCard

/-- THE SECOND FORM's CARD OF 'amanuensislaw11.CodeJumps'. -/
def codeJumpsUptoCard : Claim7 := { stood := { row := codeJumpsUptoRow, standIns := [], harness := (true, "0b6e15ac4870d2664dfaf6e693512788d6eeeb90c700968219546dd3db1f89c7"), looks := false }, kinds := [], alts := [], laidByText := true, laidKinds := [.data, .data, .data], laidTests := true, laidLooks := .later }
def CodeJumpsUptoCardSaid : Prop := Claim7.holds Tryd.pinned (.plain (OpenSpec.upto codeJumpsSpec)) codeJumpsUptoCard

/-- THE SECOND FORM's CARD OF 'amanuensislaw11.CodeLocalsApart'. -/
def codeLocalsApartUptoCard : Claim7 := { stood := { row := codeLocalsApartUptoRow, standIns := [], harness := (true, "0b6e15ac4870d2664dfaf6e693512788d6eeeb90c700968219546dd3db1f89c7"), looks := false }, kinds := [], alts := [], laidByText := true, laidKinds := [.data, .data, .data], laidTests := true, laidLooks := .later }
def CodeLocalsApartUptoCardSaid : Prop := Claim7.holds Tryd.pinned (.plain (OpenSpec.upto codeLocalsApartSpec)) codeLocalsApartUptoCard
end Rows
end Go.Proofs.YtnnokaklkegngaaDoor
