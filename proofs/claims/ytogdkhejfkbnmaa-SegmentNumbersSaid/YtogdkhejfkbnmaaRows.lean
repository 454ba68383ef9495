/-
  No cell of these rows narrows 'for every input' (looked for: loops, veiled, ifaces, maps, wideKeys, modest, calm, conditions, laid).
  DERIVED. THE GIVEN ROWS OF THIS SEAT. 8 by the template 'for every input the law returns true; each argument reads behind the call as it read before'; 0 by the template 'total and deterministic' (their statements: YtogdkhejfkbnmaaTotals.lean).
  GIVEN WITH THE SEED: the statements are not yours to turn. If you find one false, say at which input.
  Laid BY PROGRAM, IN A SANDBOX (cutbox-rows.mjs): the forced cells as the released guide's own fill.sh prints them over the translation 0e2a44ac7bb152a0… (all of the seat's roots in one cut). By AI agents, Wed Nov 11 2026. No macro, syntax, notation, axiom, sorry.
-/
import Derived.Test.YtogdkhejfkbnmaaChecked
import GoSem.Claim
import GoSem.ClaimJoined
import GoSem.ClaimMapViews
import Derived.JoinedTies
import Derived.KernelRfl
namespace Go.Proofs.Ytogdkhejfkbnmaa
/- THE CELL 'sum', in the pinned program and in every row, IS THE sha256 OF THE DUMP (.gsa) THAT YtogdkhejfkbnmaaProg.lean LOADS. Nothing in Lean hashes anything: it is a label: what it is worth is what the hold of that sum in a sandbox is worth. -/
noncomputable def Try.pinned : Pinned := { name := "ytogdkhejfkbnmaa", sum := "0e2a44ac7bb152a02ed03e90f5fca44802ba672fe7dc65e4c22bb352fda9325c", checked := Try.checked }
namespace Rows
def none {H : Type} : Left H := { results := [], args := [] }

/-- 'amanuensislaw04.SegmentNumbers': WHATEVER THE INPUT: true; the input reads as it did. -/
def segmentNumbersSpec : ChangeSpec := { name := "segmentNumbers", fn := fun _ => fun
  | [] => { results := [.lit (.bool true)], args := [] }
  | _ => none }
def segmentNumbersRow : OpenClaim := { program := "ytogdkhejfkbnmaa", sum := "0e2a44ac7bb152a02ed03e90f5fca44802ba672fe7dc65e4c22bb352fda9325c", func := "amanuensis/amanuensislaw04.SegmentNumbers", spec := "segmentNumbers", unfollowed := true, recurses := true, apart := false }
def SegmentNumbersSaid : Prop := segmentNumbersRow.holds Try.pinned (OpenSpec.ofChange segmentNumbersSpec)

/-- ITS FALSE NEIGHBOUR: 'it returns false'. Refute it at one input. -/
def segmentNumbersWrong : ChangeSpec := { name := "segmentNumbers", fn := fun _ => fun
  | [] => { results := [.lit (.bool false)], args := [] }
  | _ => none }
def SegmentNumbersWrongFalsely : Prop := segmentNumbersRow.holds Try.pinned (OpenSpec.ofChange segmentNumbersWrong)

/-- 'amanuensislaw04.SegmentTells': WHATEVER THE INPUT: true; the input reads as it did. -/
def segmentTellsSpec : ChangeSpec := { name := "segmentTells", fn := fun _ => fun
  | [d1, d2, d3, d4] => { results := [.lit (.bool true)], args := [d1, d2, d3, d4] }
  | _ => none }
def segmentTellsRow : OpenClaim := { program := "ytogdkhejfkbnmaa", sum := "0e2a44ac7bb152a02ed03e90f5fca44802ba672fe7dc65e4c22bb352fda9325c", func := "amanuensis/amanuensislaw04.SegmentTells", spec := "segmentTells", unfollowed := true, recurses := true, apart := false }
def SegmentTellsSaid : Prop := segmentTellsRow.holds Try.pinned (OpenSpec.ofChange segmentTellsSpec)

/-- ITS FALSE NEIGHBOUR: 'it returns false'. Refute it at one input. -/
def segmentTellsWrong : ChangeSpec := { name := "segmentTells", fn := fun _ => fun
  | [d1, d2, d3, d4] => { results := [.lit (.bool false)], args := [d1, d2, d3, d4] }
  | _ => none }
def SegmentTellsWrongFalsely : Prop := segmentTellsRow.holds Try.pinned (OpenSpec.ofChange segmentTellsWrong)

/-- 'amanuensislaw04.SegmentRuns': WHATEVER THE INPUT: true; the input reads as it did. -/
def segmentRunsSpec : ChangeSpec := { name := "segmentRuns", fn := fun _ => fun
  | [d1, d2, d3] => { results := [.lit (.bool true)], args := [d1, d2, d3] }
  | _ => none }
def segmentRunsRow : OpenClaim := { program := "ytogdkhejfkbnmaa", sum := "0e2a44ac7bb152a02ed03e90f5fca44802ba672fe7dc65e4c22bb352fda9325c", func := "amanuensis/amanuensislaw04.SegmentRuns", spec := "segmentRuns", unfollowed := true, recurses := true, apart := false }
def SegmentRunsSaid : Prop := segmentRunsRow.holds Try.pinned (OpenSpec.ofChange segmentRunsSpec)

/-- ITS FALSE NEIGHBOUR: 'it returns false'. Refute it at one input. -/
def segmentRunsWrong : ChangeSpec := { name := "segmentRuns", fn := fun _ => fun
  | [d1, d2, d3] => { results := [.lit (.bool false)], args := [d1, d2, d3] }
  | _ => none }
def SegmentRunsWrongFalsely : Prop := segmentRunsRow.holds Try.pinned (OpenSpec.ofChange segmentRunsWrong)

/-- 'amanuensislaw04.SegmentFirsts': WHATEVER THE INPUT: true; the input reads as it did. -/
def segmentFirstsSpec : ChangeSpec := { name := "segmentFirsts", fn := fun _ => fun
  | [d1, d2, d3] => { results := [.lit (.bool true)], args := [d1, d2, d3] }
  | _ => none }
def segmentFirstsRow : OpenClaim := { program := "ytogdkhejfkbnmaa", sum := "0e2a44ac7bb152a02ed03e90f5fca44802ba672fe7dc65e4c22bb352fda9325c", func := "amanuensis/amanuensislaw04.SegmentFirsts", spec := "segmentFirsts", unfollowed := true, recurses := true, apart := false }
def SegmentFirstsSaid : Prop := segmentFirstsRow.holds Try.pinned (OpenSpec.ofChange segmentFirstsSpec)

/-- ITS FALSE NEIGHBOUR: 'it returns false'. Refute it at one input. -/
def segmentFirstsWrong : ChangeSpec := { name := "segmentFirsts", fn := fun _ => fun
  | [d1, d2, d3] => { results := [.lit (.bool false)], args := [d1, d2, d3] }
  | _ => none }
def SegmentFirstsWrongFalsely : Prop := segmentFirstsRow.holds Try.pinned (OpenSpec.ofChange segmentFirstsWrong)

/-- 'amanuensislaw04.SegmentTurned': WHATEVER THE INPUT: true; the input reads as it did. -/
def segmentTurnedSpec : ChangeSpec := { name := "segmentTurned", fn := fun _ => fun
  | [d1, d2, d3, d4] => { results := [.lit (.bool true)], args := [d1, d2, d3, d4] }
  | _ => none }
def segmentTurnedRow : OpenClaim := { program := "ytogdkhejfkbnmaa", sum := "0e2a44ac7bb152a02ed03e90f5fca44802ba672fe7dc65e4c22bb352fda9325c", func := "amanuensis/amanuensislaw04.SegmentTurned", spec := "segmentTurned", unfollowed := true, recurses := true, apart := false }
def SegmentTurnedSaid : Prop := segmentTurnedRow.holds Try.pinned (OpenSpec.ofChange segmentTurnedSpec)

/-- ITS FALSE NEIGHBOUR: 'it returns false'. Refute it at one input. -/
def segmentTurnedWrong : ChangeSpec := { name := "segmentTurned", fn := fun _ => fun
  | [d1, d2, d3, d4] => { results := [.lit (.bool false)], args := [d1, d2, d3, d4] }
  | _ => none }
def SegmentTurnedWrongFalsely : Prop := segmentTurnedRow.holds Try.pinned (OpenSpec.ofChange segmentTurnedWrong)

/-- 'amanuensislaw04.SegmentBorder': WHATEVER THE INPUT: true; the input reads as it did. -/
def segmentBorderSpec : ChangeSpec := { name := "segmentBorder", fn := fun _ => fun
  | [d1, d2] => { results := [.lit (.bool true)], args := [d1, d2] }
  | _ => none }
def segmentBorderRow : OpenClaim := { program := "ytogdkhejfkbnmaa", sum := "0e2a44ac7bb152a02ed03e90f5fca44802ba672fe7dc65e4c22bb352fda9325c", func := "amanuensis/amanuensislaw04.SegmentBorder", spec := "segmentBorder", unfollowed := true, recurses := true, apart := false }
def SegmentBorderSaid : Prop := segmentBorderRow.holds Try.pinned (OpenSpec.ofChange segmentBorderSpec)

/-- ITS FALSE NEIGHBOUR: 'it returns false'. Refute it at one input. -/
def segmentBorderWrong : ChangeSpec := { name := "segmentBorder", fn := fun _ => fun
  | [d1, d2] => { results := [.lit (.bool false)], args := [d1, d2] }
  | _ => none }
def SegmentBorderWrongFalsely : Prop := segmentBorderRow.holds Try.pinned (OpenSpec.ofChange segmentBorderWrong)

/-- 'amanuensislaw04.SegmentBack': WHATEVER THE INPUT: true; the input reads as it did. -/
def segmentBackSpec : ChangeSpec := { name := "segmentBack", fn := fun _ => fun
  | [d1, d2, d3, d4, d5] => { results := [.lit (.bool true)], args := [d1, d2, d3, d4, d5] }
  | _ => none }
def segmentBackRow : OpenClaim := { program := "ytogdkhejfkbnmaa", sum := "0e2a44ac7bb152a02ed03e90f5fca44802ba672fe7dc65e4c22bb352fda9325c", func := "amanuensis/amanuensislaw04.SegmentBack", spec := "segmentBack", unfollowed := true, recurses := true, apart := false }
def SegmentBackSaid : Prop := segmentBackRow.holds Try.pinned (OpenSpec.ofChange segmentBackSpec)

/-- ITS FALSE NEIGHBOUR: 'it returns false'. Refute it at one input. -/
def segmentBackWrong : ChangeSpec := { name := "segmentBack", fn := fun _ => fun
  | [d1, d2, d3, d4, d5] => { results := [.lit (.bool false)], args := [d1, d2, d3, d4, d5] }
  | _ => none }
def SegmentBackWrongFalsely : Prop := segmentBackRow.holds Try.pinned (OpenSpec.ofChange segmentBackWrong)

/-- 'amanuensislaw04.SegmentFramed': WHATEVER THE INPUT: true; the input reads as it did. -/
def segmentFramedSpec : ChangeSpec := { name := "segmentFramed", fn := fun _ => fun
  | [d1, d2, d3, d4, d5] => { results := [.lit (.bool true)], args := [d1, d2, d3, d4, d5] }
  | _ => none }
def segmentFramedRow : OpenClaim := { program := "ytogdkhejfkbnmaa", sum := "0e2a44ac7bb152a02ed03e90f5fca44802ba672fe7dc65e4c22bb352fda9325c", func := "amanuensis/amanuensislaw04.SegmentFramed", spec := "segmentFramed", unfollowed := true, recurses := true, apart := false }
def SegmentFramedSaid : Prop := segmentFramedRow.holds Try.pinned (OpenSpec.ofChange segmentFramedSpec)

/-- ITS FALSE NEIGHBOUR: 'it returns false'. Refute it at one input. -/
def segmentFramedWrong : ChangeSpec := { name := "segmentFramed", fn := fun _ => fun
  | [d1, d2, d3, d4, d5] => { results := [.lit (.bool false)], args := [d1, d2, d3, d4, d5] }
  | _ => none }
def SegmentFramedWrongFalsely : Prop := segmentFramedRow.holds Try.pinned (OpenSpec.ofChange segmentFramedWrong)

/- THE SECOND FORM. 'bulk': how many values and letters a reading holds, each counted each time it is reached (what is shared counts as often as it is met; a slice's spare places count too). A statement '..UptoSaid' is the law's where the arguments, and the package variables that the reading takes, are together of bulk at most 1048576: NARROWER than '..Said'. Prove '..Said' where nothing that the law and all that it calls make is longer than what came in: it says more and counts as full. Else prove '..UptoSaid'. A law counts once. -/
mutual
def uptoBulk {H : Type} : DataW H → Nat
  | .lit (.string bytes) => bytes.length + 1
  | .lit _ => 1
  | .nil => 1
  | .ptr d => uptoBulk d + 1
  | .slice elems spare => uptoBulkAll elems + uptoBulkAll spare + 1
  | .agg parts => uptoBulkAll parts + 1
  | .iface _ d => uptoBulk d + 1
  | .map entries => uptoBulkEntries entries + 1
  | .held _ => 1
def uptoBulkAll {H : Type} : List (DataW H) → Nat
  | [] => 0
  | d :: r => uptoBulk d + uptoBulkAll r
def uptoBulkEntries {H : Type} : List (Lit × DataW H) → Nat
  | [] => 0
  | x :: r => uptoBulkEntry x + uptoBulkEntries r
def uptoBulkEntry {H : Type} : Lit × DataW H → Nat
  | (.string bytes, d) => bytes.length + uptoBulk d + 1
  | (_, d) => uptoBulk d + 1
 end
def uptoSmall : (H : Type) → List (DataW H) → Bool := fun _ ds => decide (uptoBulkAll ds ≤ 1048576)
def OpenSpec.upto (s : _root_.Go.ChangeSpec) : _root_.Go.OpenSpec := { _root_.Go.OpenSpec.ofChange s with cond := some uptoSmall }

/-- 'amanuensislaw04.SegmentNumbers', WHERE WHAT IT READS IS OF BULK AT MOST 1048576: true; the input reads as it did. -/
def segmentNumbersUptoRow : OpenClaim := { program := "ytogdkhejfkbnmaa", sum := "0e2a44ac7bb152a02ed03e90f5fca44802ba672fe7dc65e4c22bb352fda9325c", func := "amanuensis/amanuensislaw04.SegmentNumbers", spec := "segmentNumbers", unfollowed := true, recurses := true, apart := false, narrowed := true }
def SegmentNumbersUptoSaid : Prop := segmentNumbersUptoRow.holds Try.pinned (OpenSpec.upto segmentNumbersSpec)

/-- 'amanuensislaw04.SegmentTells', WHERE WHAT IT READS IS OF BULK AT MOST 1048576: true; the input reads as it did. -/
def segmentTellsUptoRow : OpenClaim := { program := "ytogdkhejfkbnmaa", sum := "0e2a44ac7bb152a02ed03e90f5fca44802ba672fe7dc65e4c22bb352fda9325c", func := "amanuensis/amanuensislaw04.SegmentTells", spec := "segmentTells", unfollowed := true, recurses := true, apart := false, narrowed := true }
def SegmentTellsUptoSaid : Prop := segmentTellsUptoRow.holds Try.pinned (OpenSpec.upto segmentTellsSpec)

/-- 'amanuensislaw04.SegmentRuns', WHERE WHAT IT READS IS OF BULK AT MOST 1048576: true; the input reads as it did. -/
def segmentRunsUptoRow : OpenClaim := { program := "ytogdkhejfkbnmaa", sum := "0e2a44ac7bb152a02ed03e90f5fca44802ba672fe7dc65e4c22bb352fda9325c", func := "amanuensis/amanuensislaw04.SegmentRuns", spec := "segmentRuns", unfollowed := true, recurses := true, apart := false, narrowed := true }
def SegmentRunsUptoSaid : Prop := segmentRunsUptoRow.holds Try.pinned (OpenSpec.upto segmentRunsSpec)

/-- 'amanuensislaw04.SegmentFirsts', WHERE WHAT IT READS IS OF BULK AT MOST 1048576: true; the input reads as it did. -/
def segmentFirstsUptoRow : OpenClaim := { program := "ytogdkhejfkbnmaa", sum := "0e2a44ac7bb152a02ed03e90f5fca44802ba672fe7dc65e4c22bb352fda9325c", func := "amanuensis/amanuensislaw04.SegmentFirsts", spec := "segmentFirsts", unfollowed := true, recurses := true, apart := false, narrowed := true }
def SegmentFirstsUptoSaid : Prop := segmentFirstsUptoRow.holds Try.pinned (OpenSpec.upto segmentFirstsSpec)

/-- 'amanuensislaw04.SegmentTurned', WHERE WHAT IT READS IS OF BULK AT MOST 1048576: true; the input reads as it did. -/
def segmentTurnedUptoRow : OpenClaim := { program := "ytogdkhejfkbnmaa", sum := "0e2a44ac7bb152a02ed03e90f5fca44802ba672fe7dc65e4c22bb352fda9325c", func := "amanuensis/amanuensislaw04.SegmentTurned", spec := "segmentTurned", unfollowed := true, recurses := true, apart := false, narrowed := true }
def SegmentTurnedUptoSaid : Prop := segmentTurnedUptoRow.holds Try.pinned (OpenSpec.upto segmentTurnedSpec)

/-- 'amanuensislaw04.SegmentBorder', WHERE WHAT IT READS IS OF BULK AT MOST 1048576: true; the input reads as it did. -/
def segmentBorderUptoRow : OpenClaim := { program := "ytogdkhejfkbnmaa", sum := "0e2a44ac7bb152a02ed03e90f5fca44802ba672fe7dc65e4c22bb352fda9325c", func := "amanuensis/amanuensislaw04.SegmentBorder", spec := "segmentBorder", unfollowed := true, recurses := true, apart := false, narrowed := true }
def SegmentBorderUptoSaid : Prop := segmentBorderUptoRow.holds Try.pinned (OpenSpec.upto segmentBorderSpec)

/-- 'amanuensislaw04.SegmentBack', WHERE WHAT IT READS IS OF BULK AT MOST 1048576: true; the input reads as it did. -/
def segmentBackUptoRow : OpenClaim := { program := "ytogdkhejfkbnmaa", sum := "0e2a44ac7bb152a02ed03e90f5fca44802ba672fe7dc65e4c22bb352fda9325c", func := "amanuensis/amanuensislaw04.SegmentBack", spec := "segmentBack", unfollowed := true, recurses := true, apart := false, narrowed := true }
def SegmentBackUptoSaid : Prop := segmentBackUptoRow.holds Try.pinned (OpenSpec.upto segmentBackSpec)

/-- 'amanuensislaw04.SegmentFramed', WHERE WHAT IT READS IS OF BULK AT MOST 1048576: true; the input reads as it did. -/
def segmentFramedUptoRow : OpenClaim := { program := "ytogdkhejfkbnmaa", sum := "0e2a44ac7bb152a02ed03e90f5fca44802ba672fe7dc65e4c22bb352fda9325c", func := "amanuensis/amanuensislaw04.SegmentFramed", spec := "segmentFramed", unfollowed := true, recurses := true, apart := false, narrowed := true }
def SegmentFramedUptoSaid : Prop := segmentFramedUptoRow.holds Try.pinned (OpenSpec.upto segmentFramedSpec)

end Rows
end Go.Proofs.Ytogdkhejfkbnmaa
