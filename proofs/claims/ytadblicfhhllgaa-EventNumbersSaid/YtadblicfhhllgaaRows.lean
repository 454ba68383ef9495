/-
  No cell of these rows narrows 'for every input' (looked for: loops, veiled, ifaces, maps, wideKeys, modest, calm, conditions, laid).
  DERIVED. THE GIVEN ROWS OF THIS SEAT. 7 by the template 'for every input the law returns true; each argument reads behind the call as it read before'; 0 by the template 'total and deterministic' (their statements: YtadblicfhhllgaaTotals.lean).
  GIVEN WITH THE SEED: the statements are not yours to turn. If you find one false, say at which input.
  Laid BY PROGRAM, IN A SANDBOX (cutbox-rows.mjs): the forced cells as the released guide's own fill.sh prints them over the translation 1bd52c71b4a43046… (all of the seat's roots in one cut). By AI agents, Wed Nov 11 2026. No macro, syntax, notation, axiom, sorry.
-/
import Derived.Test.YtadblicfhhllgaaChecked
import GoSem.Claim
import GoSem.ClaimJoined
import GoSem.ClaimMapViews
import Derived.JoinedTies
import Derived.KernelRfl
namespace Go.Proofs.Ytadblicfhhllgaa
/- THE CELL 'sum', in the pinned program and in every row, IS THE sha256 OF THE DUMP (.gsa) THAT YtadblicfhhllgaaProg.lean LOADS. Nothing in Lean hashes anything: it is a label: what it is worth is what the hold of that sum in a sandbox is worth. -/
noncomputable def Try.pinned : Pinned := { name := "ytadblicfhhllgaa", sum := "1bd52c71b4a430469147165ebb8c1e20e131fc63c5787335c6c75792ebf55171", checked := Try.checked }
namespace Rows
def none {H : Type} : Left H := { results := [], args := [] }

/-- 'amanuensislaw03.EventNumbers': WHATEVER THE INPUT: true; the input reads as it did. -/
def eventNumbersSpec : ChangeSpec := { name := "eventNumbers", fn := fun _ => fun
  | [] => { results := [.lit (.bool true)], args := [] }
  | _ => none }
def eventNumbersRow : OpenClaim := { program := "ytadblicfhhllgaa", sum := "1bd52c71b4a430469147165ebb8c1e20e131fc63c5787335c6c75792ebf55171", func := "amanuensis/amanuensislaw03.EventNumbers", spec := "eventNumbers", unfollowed := true, recurses := true, apart := false }
def EventNumbersSaid : Prop := eventNumbersRow.holds Try.pinned (OpenSpec.ofChange eventNumbersSpec)

/-- ITS FALSE NEIGHBOUR: 'it returns false'. Refute it at one input. -/
def eventNumbersWrong : ChangeSpec := { name := "eventNumbers", fn := fun _ => fun
  | [] => { results := [.lit (.bool false)], args := [] }
  | _ => none }
def EventNumbersWrongFalsely : Prop := eventNumbersRow.holds Try.pinned (OpenSpec.ofChange eventNumbersWrong)

/-- 'amanuensislaw03.EventTells': WHATEVER THE INPUT: true; the input reads as it did. -/
def eventTellsSpec : ChangeSpec := { name := "eventTells", fn := fun _ => fun
  | [d1, d2, d3, d4, d5] => { results := [.lit (.bool true)], args := [d1, d2, d3, d4, d5] }
  | _ => none }
def eventTellsRow : OpenClaim := { program := "ytadblicfhhllgaa", sum := "1bd52c71b4a430469147165ebb8c1e20e131fc63c5787335c6c75792ebf55171", func := "amanuensis/amanuensislaw03.EventTells", spec := "eventTells", unfollowed := true, recurses := true, apart := false }
def EventTellsSaid : Prop := eventTellsRow.holds Try.pinned (OpenSpec.ofChange eventTellsSpec)

/-- ITS FALSE NEIGHBOUR: 'it returns false'. Refute it at one input. -/
def eventTellsWrong : ChangeSpec := { name := "eventTells", fn := fun _ => fun
  | [d1, d2, d3, d4, d5] => { results := [.lit (.bool false)], args := [d1, d2, d3, d4, d5] }
  | _ => none }
def EventTellsWrongFalsely : Prop := eventTellsRow.holds Try.pinned (OpenSpec.ofChange eventTellsWrong)

/-- 'amanuensislaw03.EventBack': WHATEVER THE INPUT: true; the input reads as it did. -/
def eventBackSpec : ChangeSpec := { name := "eventBack", fn := fun _ => fun
  | [d1, d2, d3, d4] => { results := [.lit (.bool true)], args := [d1, d2, d3, d4] }
  | _ => none }
def eventBackRow : OpenClaim := { program := "ytadblicfhhllgaa", sum := "1bd52c71b4a430469147165ebb8c1e20e131fc63c5787335c6c75792ebf55171", func := "amanuensis/amanuensislaw03.EventBack", spec := "eventBack", unfollowed := true, recurses := true, apart := false }
def EventBackSaid : Prop := eventBackRow.holds Try.pinned (OpenSpec.ofChange eventBackSpec)

/-- ITS FALSE NEIGHBOUR: 'it returns false'. Refute it at one input. -/
def eventBackWrong : ChangeSpec := { name := "eventBack", fn := fun _ => fun
  | [d1, d2, d3, d4] => { results := [.lit (.bool false)], args := [d1, d2, d3, d4] }
  | _ => none }
def EventBackWrongFalsely : Prop := eventBackRow.holds Try.pinned (OpenSpec.ofChange eventBackWrong)

/-- 'amanuensislaw03.EventShift': WHATEVER THE INPUT: true; the input reads as it did. -/
def eventShiftSpec : ChangeSpec := { name := "eventShift", fn := fun _ => fun
  | [d1, d2, d3] => { results := [.lit (.bool true)], args := [d1, d2, d3] }
  | _ => none }
def eventShiftRow : OpenClaim := { program := "ytadblicfhhllgaa", sum := "1bd52c71b4a430469147165ebb8c1e20e131fc63c5787335c6c75792ebf55171", func := "amanuensis/amanuensislaw03.EventShift", spec := "eventShift", unfollowed := true, recurses := true, apart := false }
def EventShiftSaid : Prop := eventShiftRow.holds Try.pinned (OpenSpec.ofChange eventShiftSpec)

/-- ITS FALSE NEIGHBOUR: 'it returns false'. Refute it at one input. -/
def eventShiftWrong : ChangeSpec := { name := "eventShift", fn := fun _ => fun
  | [d1, d2, d3] => { results := [.lit (.bool false)], args := [d1, d2, d3] }
  | _ => none }
def EventShiftWrongFalsely : Prop := eventShiftRow.holds Try.pinned (OpenSpec.ofChange eventShiftWrong)

/-- 'amanuensislaw03.EventApart': WHATEVER THE INPUT: true; the input reads as it did. -/
def eventApartSpec : ChangeSpec := { name := "eventApart", fn := fun _ => fun
  | [d1, d2, d3] => { results := [.lit (.bool true)], args := [d1, d2, d3] }
  | _ => none }
def eventApartRow : OpenClaim := { program := "ytadblicfhhllgaa", sum := "1bd52c71b4a430469147165ebb8c1e20e131fc63c5787335c6c75792ebf55171", func := "amanuensis/amanuensislaw03.EventApart", spec := "eventApart", unfollowed := true, recurses := true, apart := false }
def EventApartSaid : Prop := eventApartRow.holds Try.pinned (OpenSpec.ofChange eventApartSpec)

/-- ITS FALSE NEIGHBOUR: 'it returns false'. Refute it at one input. -/
def eventApartWrong : ChangeSpec := { name := "eventApart", fn := fun _ => fun
  | [d1, d2, d3] => { results := [.lit (.bool false)], args := [d1, d2, d3] }
  | _ => none }
def EventApartWrongFalsely : Prop := eventApartRow.holds Try.pinned (OpenSpec.ofChange eventApartWrong)

/-- 'amanuensislaw03.EventRow': WHATEVER THE INPUT: true; the input reads as it did. -/
def eventRowSpec : ChangeSpec := { name := "eventRow", fn := fun _ => fun
  | [d1, d2, d3] => { results := [.lit (.bool true)], args := [d1, d2, d3] }
  | _ => none }
def eventRowRow : OpenClaim := { program := "ytadblicfhhllgaa", sum := "1bd52c71b4a430469147165ebb8c1e20e131fc63c5787335c6c75792ebf55171", func := "amanuensis/amanuensislaw03.EventRow", spec := "eventRow", unfollowed := true, recurses := true, apart := false }
def EventRowSaid : Prop := eventRowRow.holds Try.pinned (OpenSpec.ofChange eventRowSpec)

/-- ITS FALSE NEIGHBOUR: 'it returns false'. Refute it at one input. -/
def eventRowWrong : ChangeSpec := { name := "eventRow", fn := fun _ => fun
  | [d1, d2, d3] => { results := [.lit (.bool false)], args := [d1, d2, d3] }
  | _ => none }
def EventRowWrongFalsely : Prop := eventRowRow.holds Try.pinned (OpenSpec.ofChange eventRowWrong)

/-- 'amanuensislaw03.EventTurned': WHATEVER THE INPUT: true; the input reads as it did. -/
def eventTurnedSpec : ChangeSpec := { name := "eventTurned", fn := fun _ => fun
  | [d1, d2, d3] => { results := [.lit (.bool true)], args := [d1, d2, d3] }
  | _ => none }
def eventTurnedRow : OpenClaim := { program := "ytadblicfhhllgaa", sum := "1bd52c71b4a430469147165ebb8c1e20e131fc63c5787335c6c75792ebf55171", func := "amanuensis/amanuensislaw03.EventTurned", spec := "eventTurned", unfollowed := true, recurses := true, apart := false }
def EventTurnedSaid : Prop := eventTurnedRow.holds Try.pinned (OpenSpec.ofChange eventTurnedSpec)

/-- ITS FALSE NEIGHBOUR: 'it returns false'. Refute it at one input. -/
def eventTurnedWrong : ChangeSpec := { name := "eventTurned", fn := fun _ => fun
  | [d1, d2, d3] => { results := [.lit (.bool false)], args := [d1, d2, d3] }
  | _ => none }
def EventTurnedWrongFalsely : Prop := eventTurnedRow.holds Try.pinned (OpenSpec.ofChange eventTurnedWrong)

/- THE SECOND FORM. 'bulk': how many values and letters a reading holds, each counted each time it is reached (what is shared counts as often as it is met; a slice's spare places count too). A statement '..UptoSaid' is the law's where the arguments, and the package variables that the reading takes, are together of bulk at most 1048576: NARROWER than '..Said'. Prove '..Said' where nothing that the law and all that it calls make is longer than what came in: it says more and counts as full. Else prove '..UptoSaid'. A law counts once. -/
mutual
def uptoBulk {H : Type} : DataW H → Nat
  | .lit (.string bytes) => bytes.length + 1
  | .lit _ => 1
  | .nil => 1
  | .ptr d => uptoBulk d + 1
  | .slice elems spare => uptoBulkAll elems + uptoBulkAll spare + 1
  | .agg parts => uptoBulkAll parts + 1
  | .iface _ d => uptoBulk d + 1
  | .map entries => uptoBulkEntries entries + 1
  | .held _ => 1
def uptoBulkAll {H : Type} : List (DataW H) → Nat
  | [] => 0
  | d :: r => uptoBulk d + uptoBulkAll r
def uptoBulkEntries {H : Type} : List (Lit × DataW H) → Nat
  | [] => 0
  | x :: r => uptoBulkEntry x + uptoBulkEntries r
def uptoBulkEntry {H : Type} : Lit × DataW H → Nat
  | (.string bytes, d) => bytes.length + uptoBulk d + 1
  | (_, d) => uptoBulk d + 1
 end
def uptoSmall : (H : Type) → List (DataW H) → Bool := fun _ ds => decide (uptoBulkAll ds ≤ 1048576)
def OpenSpec.upto (s : _root_.Go.ChangeSpec) : _root_.Go.OpenSpec := { _root_.Go.OpenSpec.ofChange s with cond := some uptoSmall }

/-- 'amanuensislaw03.EventNumbers', WHERE WHAT IT READS IS OF BULK AT MOST 1048576: true; the input reads as it did. -/
def eventNumbersUptoRow : OpenClaim := { program := "ytadblicfhhllgaa", sum := "1bd52c71b4a430469147165ebb8c1e20e131fc63c5787335c6c75792ebf55171", func := "amanuensis/amanuensislaw03.EventNumbers", spec := "eventNumbers", unfollowed := true, recurses := true, apart := false, narrowed := true }
def EventNumbersUptoSaid : Prop := eventNumbersUptoRow.holds Try.pinned (OpenSpec.upto eventNumbersSpec)

/-- 'amanuensislaw03.EventTells', WHERE WHAT IT READS IS OF BULK AT MOST 1048576: true; the input reads as it did. -/
def eventTellsUptoRow : OpenClaim := { program := "ytadblicfhhllgaa", sum := "1bd52c71b4a430469147165ebb8c1e20e131fc63c5787335c6c75792ebf55171", func := "amanuensis/amanuensislaw03.EventTells", spec := "eventTells", unfollowed := true, recurses := true, apart := false, narrowed := true }
def EventTellsUptoSaid : Prop := eventTellsUptoRow.holds Try.pinned (OpenSpec.upto eventTellsSpec)

/-- 'amanuensislaw03.EventBack', WHERE WHAT IT READS IS OF BULK AT MOST 1048576: true; the input reads as it did. -/
def eventBackUptoRow : OpenClaim := { program := "ytadblicfhhllgaa", sum := "1bd52c71b4a430469147165ebb8c1e20e131fc63c5787335c6c75792ebf55171", func := "amanuensis/amanuensislaw03.EventBack", spec := "eventBack", unfollowed := true, recurses := true, apart := false, narrowed := true }
def EventBackUptoSaid : Prop := eventBackUptoRow.holds Try.pinned (OpenSpec.upto eventBackSpec)

/-- 'amanuensislaw03.EventShift', WHERE WHAT IT READS IS OF BULK AT MOST 1048576: true; the input reads as it did. -/
def eventShiftUptoRow : OpenClaim := { program := "ytadblicfhhllgaa", sum := "1bd52c71b4a430469147165ebb8c1e20e131fc63c5787335c6c75792ebf55171", func := "amanuensis/amanuensislaw03.EventShift", spec := "eventShift", unfollowed := true, recurses := true, apart := false, narrowed := true }
def EventShiftUptoSaid : Prop := eventShiftUptoRow.holds Try.pinned (OpenSpec.upto eventShiftSpec)

/-- 'amanuensislaw03.EventApart', WHERE WHAT IT READS IS OF BULK AT MOST 1048576: true; the input reads as it did. -/
def eventApartUptoRow : OpenClaim := { program := "ytadblicfhhllgaa", sum := "1bd52c71b4a430469147165ebb8c1e20e131fc63c5787335c6c75792ebf55171", func := "amanuensis/amanuensislaw03.EventApart", spec := "eventApart", unfollowed := true, recurses := true, apart := false, narrowed := true }
def EventApartUptoSaid : Prop := eventApartUptoRow.holds Try.pinned (OpenSpec.upto eventApartSpec)

/-- 'amanuensislaw03.EventRow', WHERE WHAT IT READS IS OF BULK AT MOST 1048576: true; the input reads as it did. -/
def eventRowUptoRow : OpenClaim := { program := "ytadblicfhhllgaa", sum := "1bd52c71b4a430469147165ebb8c1e20e131fc63c5787335c6c75792ebf55171", func := "amanuensis/amanuensislaw03.EventRow", spec := "eventRow", unfollowed := true, recurses := true, apart := false, narrowed := true }
def EventRowUptoSaid : Prop := eventRowUptoRow.holds Try.pinned (OpenSpec.upto eventRowSpec)

/-- 'amanuensislaw03.EventTurned', WHERE WHAT IT READS IS OF BULK AT MOST 1048576: true; the input reads as it did. -/
def eventTurnedUptoRow : OpenClaim := { program := "ytadblicfhhllgaa", sum := "1bd52c71b4a430469147165ebb8c1e20e131fc63c5787335c6c75792ebf55171", func := "amanuensis/amanuensislaw03.EventTurned", spec := "eventTurned", unfollowed := true, recurses := true, apart := false, narrowed := true }
def EventTurnedUptoSaid : Prop := eventTurnedUptoRow.holds Try.pinned (OpenSpec.upto eventTurnedSpec)

end Rows
end Go.Proofs.Ytadblicfhhllgaa
