/-
  No cell of these rows narrows 'for every input' (looked for: loops, veiled, ifaces, maps, wideKeys, modest, calm, conditions, laid).
  DERIVED. THE GIVEN ROWS OF THIS SEAT. 7 by the template 'for every input the law returns true; each argument reads behind the call as it read before'; 0 by the template 'total and deterministic' (their statements: YtmjoneiagfegdaaTotals.lean).
  GIVEN WITH THE SEED: the statements are not yours to turn. If you find one false, say at which input.
  Laid BY PROGRAM, IN A SANDBOX (cutbox-rows.mjs): the forced cells as the released guide's own fill.sh prints them over the translation cde8fdf03d906e4b… (all of the seat's roots in one cut). By AI agents, Wed Nov 11 2026. No macro, syntax, notation, axiom, sorry.
-/
import Derived.Test.YtmjoneiagfegdaaChecked
import GoSem.Claim
import GoSem.ClaimJoined
import GoSem.ClaimMapViews
import Derived.JoinedTies
import Derived.KernelRfl
namespace Go.Proofs.Ytmjoneiagfegdaa
/- THE CELL 'sum', in the pinned program and in every row, IS THE sha256 OF THE DUMP (.gsa) THAT YtmjoneiagfegdaaProg.lean LOADS. Nothing in Lean hashes anything: it is a label: what it is worth is what the hold of that sum in a sandbox is worth. -/
noncomputable def Try.pinned : Pinned := { name := "ytmjoneiagfegdaa", sum := "cde8fdf03d906e4b3bf1c33c642e65f7ec34b81ed10d43e2077cabedcf6c39cd", checked := Try.checked }
namespace Rows
def none {H : Type} : Left H := { results := [], args := [] }

/-- 'amanuensislaw01.BytesWithin': WHATEVER THE INPUT: true; the input reads as it did. -/
def bytesWithinSpec : ChangeSpec := { name := "bytesWithin", fn := fun _ => fun
  | [d1, d2] => { results := [.lit (.bool true)], args := [d1, d2] }
  | _ => none }
def bytesWithinRow : OpenClaim := { program := "ytmjoneiagfegdaa", sum := "cde8fdf03d906e4b3bf1c33c642e65f7ec34b81ed10d43e2077cabedcf6c39cd", func := "amanuensis/amanuensislaw01.BytesWithin", spec := "bytesWithin", apart := false }
def BytesWithinSaid : Prop := bytesWithinRow.holds Try.pinned (OpenSpec.ofChange bytesWithinSpec)

/-- ITS FALSE NEIGHBOUR: 'it returns false'. Refute it at one input. -/
def bytesWithinWrong : ChangeSpec := { name := "bytesWithin", fn := fun _ => fun
  | [d1, d2] => { results := [.lit (.bool false)], args := [d1, d2] }
  | _ => none }
def BytesWithinWrongFalsely : Prop := bytesWithinRow.holds Try.pinned (OpenSpec.ofChange bytesWithinWrong)

/-- 'amanuensislaw01.BytesFolds': WHATEVER THE INPUT: true; the input reads as it did. -/
def bytesFoldsSpec : ChangeSpec := { name := "bytesFolds", fn := fun _ => fun
  | [d1, d2, d3] => { results := [.lit (.bool true)], args := [d1, d2, d3] }
  | _ => none }
def bytesFoldsRow : OpenClaim := { program := "ytmjoneiagfegdaa", sum := "cde8fdf03d906e4b3bf1c33c642e65f7ec34b81ed10d43e2077cabedcf6c39cd", func := "amanuensis/amanuensislaw01.BytesFolds", spec := "bytesFolds", unfollowed := true, recurses := true, apart := false }
def BytesFoldsSaid : Prop := bytesFoldsRow.holds Try.pinned (OpenSpec.ofChange bytesFoldsSpec)

/-- ITS FALSE NEIGHBOUR: 'it returns false'. Refute it at one input. -/
def bytesFoldsWrong : ChangeSpec := { name := "bytesFolds", fn := fun _ => fun
  | [d1, d2, d3] => { results := [.lit (.bool false)], args := [d1, d2, d3] }
  | _ => none }
def BytesFoldsWrongFalsely : Prop := bytesFoldsRow.holds Try.pinned (OpenSpec.ofChange bytesFoldsWrong)

/-- 'amanuensislaw01.BytesNoughts': WHATEVER THE INPUT: true; the input reads as it did. -/
def bytesNoughtsSpec : ChangeSpec := { name := "bytesNoughts", fn := fun _ => fun
  | [d1, d2] => { results := [.lit (.bool true)], args := [d1, d2] }
  | _ => none }
def bytesNoughtsRow : OpenClaim := { program := "ytmjoneiagfegdaa", sum := "cde8fdf03d906e4b3bf1c33c642e65f7ec34b81ed10d43e2077cabedcf6c39cd", func := "amanuensis/amanuensislaw01.BytesNoughts", spec := "bytesNoughts", apart := false }
def BytesNoughtsSaid : Prop := bytesNoughtsRow.holds Try.pinned (OpenSpec.ofChange bytesNoughtsSpec)

/-- ITS FALSE NEIGHBOUR: 'it returns false'. Refute it at one input. -/
def bytesNoughtsWrong : ChangeSpec := { name := "bytesNoughts", fn := fun _ => fun
  | [d1, d2] => { results := [.lit (.bool false)], args := [d1, d2] }
  | _ => none }
def BytesNoughtsWrongFalsely : Prop := bytesNoughtsRow.holds Try.pinned (OpenSpec.ofChange bytesNoughtsWrong)

/-- 'amanuensislaw01.BytesPlaces': WHATEVER THE INPUT: true; the input reads as it did. -/
def bytesPlacesSpec : ChangeSpec := { name := "bytesPlaces", fn := fun _ => fun
  | [d1, d2, d3, d4] => { results := [.lit (.bool true)], args := [d1, d2, d3, d4] }
  | _ => none }
def bytesPlacesRow : OpenClaim := { program := "ytmjoneiagfegdaa", sum := "cde8fdf03d906e4b3bf1c33c642e65f7ec34b81ed10d43e2077cabedcf6c39cd", func := "amanuensis/amanuensislaw01.BytesPlaces", spec := "bytesPlaces", apart := false }
def BytesPlacesSaid : Prop := bytesPlacesRow.holds Try.pinned (OpenSpec.ofChange bytesPlacesSpec)

/-- ITS FALSE NEIGHBOUR: 'it returns false'. Refute it at one input. -/
def bytesPlacesWrong : ChangeSpec := { name := "bytesPlaces", fn := fun _ => fun
  | [d1, d2, d3, d4] => { results := [.lit (.bool false)], args := [d1, d2, d3, d4] }
  | _ => none }
def BytesPlacesWrongFalsely : Prop := bytesPlacesRow.holds Try.pinned (OpenSpec.ofChange bytesPlacesWrong)

/-- 'amanuensislaw01.BytesNumbers': WHATEVER THE INPUT: true; the input reads as it did. -/
def bytesNumbersSpec : ChangeSpec := { name := "bytesNumbers", fn := fun _ => fun
  | [] => { results := [.lit (.bool true)], args := [] }
  | _ => none }
def bytesNumbersRow : OpenClaim := { program := "ytmjoneiagfegdaa", sum := "cde8fdf03d906e4b3bf1c33c642e65f7ec34b81ed10d43e2077cabedcf6c39cd", func := "amanuensis/amanuensislaw01.BytesNumbers", spec := "bytesNumbers", unfollowed := true, recurses := true, apart := false }
def BytesNumbersSaid : Prop := bytesNumbersRow.holds Try.pinned (OpenSpec.ofChange bytesNumbersSpec)

/-- ITS FALSE NEIGHBOUR: 'it returns false'. Refute it at one input. -/
def bytesNumbersWrong : ChangeSpec := { name := "bytesNumbers", fn := fun _ => fun
  | [] => { results := [.lit (.bool false)], args := [] }
  | _ => none }
def BytesNumbersWrongFalsely : Prop := bytesNumbersRow.holds Try.pinned (OpenSpec.ofChange bytesNumbersWrong)

/-- 'amanuensislaw01.BytesTells': WHATEVER THE INPUT: true; the input reads as it did. -/
def bytesTellsSpec : ChangeSpec := { name := "bytesTells", fn := fun _ => fun
  | [d1, d2, d3, d4] => { results := [.lit (.bool true)], args := [d1, d2, d3, d4] }
  | _ => none }
def bytesTellsRow : OpenClaim := { program := "ytmjoneiagfegdaa", sum := "cde8fdf03d906e4b3bf1c33c642e65f7ec34b81ed10d43e2077cabedcf6c39cd", func := "amanuensis/amanuensislaw01.BytesTells", spec := "bytesTells", recurses := true, apart := false }
def BytesTellsSaid : Prop := bytesTellsRow.holds Try.pinned (OpenSpec.ofChange bytesTellsSpec)

/-- ITS FALSE NEIGHBOUR: 'it returns false'. Refute it at one input. -/
def bytesTellsWrong : ChangeSpec := { name := "bytesTells", fn := fun _ => fun
  | [d1, d2, d3, d4] => { results := [.lit (.bool false)], args := [d1, d2, d3, d4] }
  | _ => none }
def BytesTellsWrongFalsely : Prop := bytesTellsRow.holds Try.pinned (OpenSpec.ofChange bytesTellsWrong)

/-- 'amanuensislaw01.BytesPages': WHATEVER THE INPUT: true; the input reads as it did. -/
def bytesPagesSpec : ChangeSpec := { name := "bytesPages", fn := fun _ => fun
  | [d1, d2, d3] => { results := [.lit (.bool true)], args := [d1, d2, d3] }
  | _ => none }
def bytesPagesRow : OpenClaim := { program := "ytmjoneiagfegdaa", sum := "cde8fdf03d906e4b3bf1c33c642e65f7ec34b81ed10d43e2077cabedcf6c39cd", func := "amanuensis/amanuensislaw01.BytesPages", spec := "bytesPages", apart := false }
def BytesPagesSaid : Prop := bytesPagesRow.holds Try.pinned (OpenSpec.ofChange bytesPagesSpec)

/-- ITS FALSE NEIGHBOUR: 'it returns false'. Refute it at one input. -/
def bytesPagesWrong : ChangeSpec := { name := "bytesPages", fn := fun _ => fun
  | [d1, d2, d3] => { results := [.lit (.bool false)], args := [d1, d2, d3] }
  | _ => none }
def BytesPagesWrongFalsely : Prop := bytesPagesRow.holds Try.pinned (OpenSpec.ofChange bytesPagesWrong)

/- THE SECOND FORM. 'bulk': how many values and letters a reading holds, each counted each time it is reached (what is shared counts as often as it is met; a slice's spare places count too). A statement '..UptoSaid' is the law's where the arguments, and the package variables that the reading takes, are together of bulk at most 1048576: NARROWER than '..Said'. Prove '..Said' where nothing that the law and all that it calls make is longer than what came in: it says more and counts as full. Else prove '..UptoSaid'. A law counts once. -/
mutual
def uptoBulk {H : Type} : DataW H → Nat
  | .lit (.string bytes) => bytes.length + 1
  | .lit _ => 1
  | .nil => 1
  | .ptr d => uptoBulk d + 1
  | .slice elems spare => uptoBulkAll elems + uptoBulkAll spare + 1
  | .agg parts => uptoBulkAll parts + 1
  | .iface _ d => uptoBulk d + 1
  | .map entries => uptoBulkEntries entries + 1
  | .held _ => 1
def uptoBulkAll {H : Type} : List (DataW H) → Nat
  | [] => 0
  | d :: r => uptoBulk d + uptoBulkAll r
def uptoBulkEntries {H : Type} : List (Lit × DataW H) → Nat
  | [] => 0
  | x :: r => uptoBulkEntry x + uptoBulkEntries r
def uptoBulkEntry {H : Type} : Lit × DataW H → Nat
  | (.string bytes, d) => bytes.length + uptoBulk d + 1
  | (_, d) => uptoBulk d + 1
 end
def uptoSmall : (H : Type) → List (DataW H) → Bool := fun _ ds => decide (uptoBulkAll ds ≤ 1048576)
def OpenSpec.upto (s : _root_.Go.ChangeSpec) : _root_.Go.OpenSpec := { _root_.Go.OpenSpec.ofChange s with cond := some uptoSmall }

/-- 'amanuensislaw01.BytesWithin', WHERE WHAT IT READS IS OF BULK AT MOST 1048576: true; the input reads as it did. -/
def bytesWithinUptoRow : OpenClaim := { program := "ytmjoneiagfegdaa", sum := "cde8fdf03d906e4b3bf1c33c642e65f7ec34b81ed10d43e2077cabedcf6c39cd", func := "amanuensis/amanuensislaw01.BytesWithin", spec := "bytesWithin", apart := false, narrowed := true }
def BytesWithinUptoSaid : Prop := bytesWithinUptoRow.holds Try.pinned (OpenSpec.upto bytesWithinSpec)

/-- 'amanuensislaw01.BytesFolds', WHERE WHAT IT READS IS OF BULK AT MOST 1048576: true; the input reads as it did. -/
def bytesFoldsUptoRow : OpenClaim := { program := "ytmjoneiagfegdaa", sum := "cde8fdf03d906e4b3bf1c33c642e65f7ec34b81ed10d43e2077cabedcf6c39cd", func := "amanuensis/amanuensislaw01.BytesFolds", spec := "bytesFolds", unfollowed := true, recurses := true, apart := false, narrowed := true }
def BytesFoldsUptoSaid : Prop := bytesFoldsUptoRow.holds Try.pinned (OpenSpec.upto bytesFoldsSpec)

/-- 'amanuensislaw01.BytesNoughts', WHERE WHAT IT READS IS OF BULK AT MOST 1048576: true; the input reads as it did. -/
def bytesNoughtsUptoRow : OpenClaim := { program := "ytmjoneiagfegdaa", sum := "cde8fdf03d906e4b3bf1c33c642e65f7ec34b81ed10d43e2077cabedcf6c39cd", func := "amanuensis/amanuensislaw01.BytesNoughts", spec := "bytesNoughts", apart := false, narrowed := true }
def BytesNoughtsUptoSaid : Prop := bytesNoughtsUptoRow.holds Try.pinned (OpenSpec.upto bytesNoughtsSpec)

/-- 'amanuensislaw01.BytesPlaces', WHERE WHAT IT READS IS OF BULK AT MOST 1048576: true; the input reads as it did. -/
def bytesPlacesUptoRow : OpenClaim := { program := "ytmjoneiagfegdaa", sum := "cde8fdf03d906e4b3bf1c33c642e65f7ec34b81ed10d43e2077cabedcf6c39cd", func := "amanuensis/amanuensislaw01.BytesPlaces", spec := "bytesPlaces", apart := false, narrowed := true }
def BytesPlacesUptoSaid : Prop := bytesPlacesUptoRow.holds Try.pinned (OpenSpec.upto bytesPlacesSpec)

/-- 'amanuensislaw01.BytesNumbers', WHERE WHAT IT READS IS OF BULK AT MOST 1048576: true; the input reads as it did. -/
def bytesNumbersUptoRow : OpenClaim := { program := "ytmjoneiagfegdaa", sum := "cde8fdf03d906e4b3bf1c33c642e65f7ec34b81ed10d43e2077cabedcf6c39cd", func := "amanuensis/amanuensislaw01.BytesNumbers", spec := "bytesNumbers", unfollowed := true, recurses := true, apart := false, narrowed := true }
def BytesNumbersUptoSaid : Prop := bytesNumbersUptoRow.holds Try.pinned (OpenSpec.upto bytesNumbersSpec)

/-- 'amanuensislaw01.BytesTells', WHERE WHAT IT READS IS OF BULK AT MOST 1048576: true; the input reads as it did. -/
def bytesTellsUptoRow : OpenClaim := { program := "ytmjoneiagfegdaa", sum := "cde8fdf03d906e4b3bf1c33c642e65f7ec34b81ed10d43e2077cabedcf6c39cd", func := "amanuensis/amanuensislaw01.BytesTells", spec := "bytesTells", recurses := true, apart := false, narrowed := true }
def BytesTellsUptoSaid : Prop := bytesTellsUptoRow.holds Try.pinned (OpenSpec.upto bytesTellsSpec)

/-- 'amanuensislaw01.BytesPages', WHERE WHAT IT READS IS OF BULK AT MOST 1048576: true; the input reads as it did. -/
def bytesPagesUptoRow : OpenClaim := { program := "ytmjoneiagfegdaa", sum := "cde8fdf03d906e4b3bf1c33c642e65f7ec34b81ed10d43e2077cabedcf6c39cd", func := "amanuensis/amanuensislaw01.BytesPages", spec := "bytesPages", apart := false, narrowed := true }
def BytesPagesUptoSaid : Prop := bytesPagesUptoRow.holds Try.pinned (OpenSpec.upto bytesPagesSpec)

end Rows
end Go.Proofs.Ytmjoneiagfegdaa
