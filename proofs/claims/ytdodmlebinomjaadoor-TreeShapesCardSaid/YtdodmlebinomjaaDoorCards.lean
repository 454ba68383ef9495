/-
  DERIVED. GIVEN WITH THE SEED: THE CARDS: each row of YtdodmlebinomjaaDoorRows.lean that lists a variable, with what it lists TIED to the program's text (the seventh form; the later family's looks); each row that meets fmt, with fmt's text TOLD by the authors' own Lean function (tested against real Go, not proved from fmt's source: count such statements apart). THE CARD IS WHAT COUNTS. Prove the row's statement (the work); the ties are given (YtdodmlebinomjaaDoorTie.lean); close each card by the builder's one call (the guide's Derived/Test/ToyasCard.lean, 'card_holds'). Laid BY PROGRAM, IN A SANDBOX (cutbox-door.mjs). By AI agents, Wed Nov 11 2026. No macro, syntax, notation, axiom, sorry.
-/
import Derived.Test.YtdodmlebinomjaaDoorRows
import GoSem.ClaimSeven
namespace Go.Proofs.YtdodmlebinomjaaDoor
namespace Rows

/-- THE TIED CARD OF 'amanuensislaw09.TreeBack'. -/
def treeBackCard : Claim7 := { stood := { row := treeBackRow, standIns := [], harness := (true, "fa4bee61fc0cb04327e8fc02eebf5abc10e0bda00ac3fd611ac86273e78fb97a"), looks := false }, kinds := [], alts := [], laidByText := true, laidKinds := [.data, .data, .data], laidTests := true, laidLooks := .later }
def TreeBackCardSaid : Prop := Claim7.holds Tryd.pinned (.plain (OpenSpec.ofChange treeBackSpec)) treeBackCard

/-- THE TIED CARD OF 'amanuensislaw09.TreeBinds'. -/
def treeBindsCard : Claim7 := { stood := { row := treeBindsRow, standIns := [], harness := (true, "fa4bee61fc0cb04327e8fc02eebf5abc10e0bda00ac3fd611ac86273e78fb97a"), looks := false }, kinds := [], alts := [], laidByText := true, laidKinds := [.data, .data, .data], laidTests := true, laidLooks := .later }
def TreeBindsCardSaid : Prop := Claim7.holds Tryd.pinned (.plain (OpenSpec.ofChange treeBindsSpec)) treeBindsCard

/-- THE TIED CARD OF 'amanuensislaw09.TreeShapes'. -/
def treeShapesCard : Claim7 := { stood := { row := treeShapesRow, standIns := [], harness := (true, "fa4bee61fc0cb04327e8fc02eebf5abc10e0bda00ac3fd611ac86273e78fb97a"), looks := false }, kinds := [], alts := [], laidByText := true, laidKinds := [.data, .data, .data], laidTests := true, laidLooks := .later }
def TreeShapesCardSaid : Prop := Claim7.holds Tryd.pinned (.plain (OpenSpec.ofChange treeShapesSpec)) treeShapesCard

/-- THE SECOND FORM's CARD OF 'amanuensislaw09.TreeBack'. -/
def treeBackUptoCard : Claim7 := { stood := { row := treeBackUptoRow, standIns := [], harness := (true, "fa4bee61fc0cb04327e8fc02eebf5abc10e0bda00ac3fd611ac86273e78fb97a"), looks := false }, kinds := [], alts := [], laidByText := true, laidKinds := [.data, .data, .data], laidTests := true, laidLooks := .later }
def TreeBackUptoCardSaid : Prop := Claim7.holds Tryd.pinned (.plain (OpenSpec.upto treeBackSpec)) treeBackUptoCard

/-- THE SECOND FORM's CARD OF 'amanuensislaw09.TreeBinds'. -/
def treeBindsUptoCard : Claim7 := { stood := { row := treeBindsUptoRow, standIns := [], harness := (true, "fa4bee61fc0cb04327e8fc02eebf5abc10e0bda00ac3fd611ac86273e78fb97a"), looks := false }, kinds := [], alts := [], laidByText := true, laidKinds := [.data, .data, .data], laidTests := true, laidLooks := .later }
def TreeBindsUptoCardSaid : Prop := Claim7.holds Tryd.pinned (.plain (OpenSpec.upto treeBindsSpec)) treeBindsUptoCard

/-- THE SECOND FORM's CARD OF 'amanuensislaw09.TreeShapes'. -/
def treeShapesUptoCard : Claim7 := { stood := { row := treeShapesUptoRow, standIns := [], harness := (true, "fa4bee61fc0cb04327e8fc02eebf5abc10e0bda00ac3fd611ac86273e78fb97a"), looks := false }, kinds := [], alts := [], laidByText := true, laidKinds := [.data, .data, .data], laidTests := true, laidLooks := .later }
def TreeShapesUptoCardSaid : Prop := Claim7.holds Tryd.pinned (.plain (OpenSpec.upto treeShapesSpec)) treeShapesUptoCard
end Rows
end Go.Proofs.YtdodmlebinomjaaDoor
