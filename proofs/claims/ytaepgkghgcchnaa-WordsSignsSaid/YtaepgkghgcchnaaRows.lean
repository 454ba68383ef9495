/-
  No cell of these rows narrows 'for every input' (looked for: loops, veiled, ifaces, maps, wideKeys, modest, calm, conditions, laid).
  DERIVED. THE GIVEN ROWS OF THIS SEAT. 4 by the template 'for every input the law returns true; each argument reads behind the call as it read before'; 0 by the template 'total and deterministic' (their statements: YtaepgkghgcchnaaTotals.lean).
  GIVEN WITH THE SEED: the statements are not yours to turn. If you find one false, say at which input.
  Laid BY PROGRAM, IN A SANDBOX (cutbox-rows.mjs): the forced cells as the released guide's own fill.sh prints them over the translation c94e02dac8dfa347… (all of the seat's roots in one cut). By AI agents, Wed Nov 11 2026. No macro, syntax, notation, axiom, sorry.
-/
import Derived.Test.YtaepgkghgcchnaaChecked
import GoSem.Claim
import GoSem.ClaimJoined
import GoSem.ClaimMapViews
import Derived.JoinedTies
import Derived.KernelRfl
namespace Go.Proofs.Ytaepgkghgcchnaa
/- THE CELL 'sum', in the pinned program and in every row, IS THE sha256 OF THE DUMP (.gsa) THAT YtaepgkghgcchnaaProg.lean LOADS. Nothing in Lean hashes anything: it is a label: what it is worth is what the hold of that sum in a sandbox is worth. -/
noncomputable def Try.pinned : Pinned := { name := "ytaepgkghgcchnaa", sum := "c94e02dac8dfa347281f5a9618c87ec5fffe59dddc5843d75089d42c0c757304", checked := Try.checked }
namespace Rows
def none {H : Type} : Left H := { results := [], args := [] }

/-- 'amanuensislaw08.WordsTell': WHATEVER THE INPUT: true; the input reads as it did. -/
def wordsTellSpec : ChangeSpec := { name := "wordsTell", fn := fun _ => fun
  | [d1, d2] => { results := [.lit (.bool true)], args := [d1, d2] }
  | _ => none }
def wordsTellRow : OpenClaim := { program := "ytaepgkghgcchnaa", sum := "c94e02dac8dfa347281f5a9618c87ec5fffe59dddc5843d75089d42c0c757304", func := "amanuensis/amanuensislaw08.WordsTell", spec := "wordsTell", inPlace := ["internal/bytealg.IndexByteString", "internal/bytealg.CountString", "internal/bytealg.IndexString"], named := ["internal/bytealg.MaxLen"], apart := false }
def WordsTellSaid : Prop := wordsTellRow.holds Try.pinned (OpenSpec.ofChange wordsTellSpec)

/-- ITS FALSE NEIGHBOUR: 'it returns false'. Refute it at one input. -/
def wordsTellWrong : ChangeSpec := { name := "wordsTell", fn := fun _ => fun
  | [d1, d2] => { results := [.lit (.bool false)], args := [d1, d2] }
  | _ => none }
def WordsTellWrongFalsely : Prop := wordsTellRow.holds Try.pinned (OpenSpec.ofChange wordsTellWrong)

/-- 'amanuensislaw08.WordsWhole': WHATEVER THE INPUT: true; the input reads as it did. -/
def wordsWholeSpec : ChangeSpec := { name := "wordsWhole", fn := fun _ => fun
  | [d] => { results := [.lit (.bool true)], args := [d] }
  | _ => none }
def wordsWholeRow : OpenClaim := { program := "ytaepgkghgcchnaa", sum := "c94e02dac8dfa347281f5a9618c87ec5fffe59dddc5843d75089d42c0c757304", func := "amanuensis/amanuensislaw08.WordsWhole", spec := "wordsWhole", inPlace := ["internal/bytealg.IndexByteString", "internal/bytealg.CountString", "internal/bytealg.IndexString"], named := ["internal/bytealg.MaxLen"], apart := false }
def WordsWholeSaid : Prop := wordsWholeRow.holds Try.pinned (OpenSpec.ofChange wordsWholeSpec)

/-- ITS FALSE NEIGHBOUR: 'it returns false'. Refute it at one input. -/
def wordsWholeWrong : ChangeSpec := { name := "wordsWhole", fn := fun _ => fun
  | [d] => { results := [.lit (.bool false)], args := [d] }
  | _ => none }
def WordsWholeWrongFalsely : Prop := wordsWholeRow.holds Try.pinned (OpenSpec.ofChange wordsWholeWrong)

/-- 'amanuensislaw08.WordsAhead': WHATEVER THE INPUT: true; the input reads as it did. -/
def wordsAheadSpec : ChangeSpec := { name := "wordsAhead", fn := fun _ => fun
  | [d1, d2, d3] => { results := [.lit (.bool true)], args := [d1, d2, d3] }
  | _ => none }
def wordsAheadRow : OpenClaim := { program := "ytaepgkghgcchnaa", sum := "c94e02dac8dfa347281f5a9618c87ec5fffe59dddc5843d75089d42c0c757304", func := "amanuensis/amanuensislaw08.WordsAhead", spec := "wordsAhead", inPlace := ["internal/bytealg.IndexByteString", "internal/bytealg.CountString", "internal/bytealg.IndexString"], named := ["internal/bytealg.MaxLen"], apart := false }
def WordsAheadSaid : Prop := wordsAheadRow.holds Try.pinned (OpenSpec.ofChange wordsAheadSpec)

/-- ITS FALSE NEIGHBOUR: 'it returns false'. Refute it at one input. -/
def wordsAheadWrong : ChangeSpec := { name := "wordsAhead", fn := fun _ => fun
  | [d1, d2, d3] => { results := [.lit (.bool false)], args := [d1, d2, d3] }
  | _ => none }
def WordsAheadWrongFalsely : Prop := wordsAheadRow.holds Try.pinned (OpenSpec.ofChange wordsAheadWrong)

/-- 'amanuensislaw08.WordsSigns': WHATEVER THE INPUT: true; the input reads as it did. -/
def wordsSignsSpec : ChangeSpec := { name := "wordsSigns", fn := fun _ => fun
  | [d1, d2, d3] => { results := [.lit (.bool true)], args := [d1, d2, d3] }
  | _ => none }
def wordsSignsRow : OpenClaim := { program := "ytaepgkghgcchnaa", sum := "c94e02dac8dfa347281f5a9618c87ec5fffe59dddc5843d75089d42c0c757304", func := "amanuensis/amanuensislaw08.WordsSigns", spec := "wordsSigns", inPlace := ["internal/bytealg.IndexByteString", "internal/bytealg.CountString", "internal/bytealg.IndexString"], named := ["internal/bytealg.MaxLen"], apart := false }
def WordsSignsSaid : Prop := wordsSignsRow.holds Try.pinned (OpenSpec.ofChange wordsSignsSpec)

/-- ITS FALSE NEIGHBOUR: 'it returns false'. Refute it at one input. -/
def wordsSignsWrong : ChangeSpec := { name := "wordsSigns", fn := fun _ => fun
  | [d1, d2, d3] => { results := [.lit (.bool false)], args := [d1, d2, d3] }
  | _ => none }
def WordsSignsWrongFalsely : Prop := wordsSignsRow.holds Try.pinned (OpenSpec.ofChange wordsSignsWrong)

/- THE SECOND FORM. 'bulk': how many values and letters a reading holds, each counted each time it is reached (what is shared counts as often as it is met; a slice's spare places count too). A statement '..UptoSaid' is the law's where the arguments, and the package variables that the reading takes, are together of bulk at most 1048576: NARROWER than '..Said'. Prove '..Said' where nothing that the law and all that it calls make is longer than what came in: it says more and counts as full. Else prove '..UptoSaid'. A law counts once. -/
mutual
def uptoBulk {H : Type} : DataW H → Nat
  | .lit (.string bytes) => bytes.length + 1
  | .lit _ => 1
  | .nil => 1
  | .ptr d => uptoBulk d + 1
  | .slice elems spare => uptoBulkAll elems + uptoBulkAll spare + 1
  | .agg parts => uptoBulkAll parts + 1
  | .iface _ d => uptoBulk d + 1
  | .map entries => uptoBulkEntries entries + 1
  | .held _ => 1
def uptoBulkAll {H : Type} : List (DataW H) → Nat
  | [] => 0
  | d :: r => uptoBulk d + uptoBulkAll r
def uptoBulkEntries {H : Type} : List (Lit × DataW H) → Nat
  | [] => 0
  | x :: r => uptoBulkEntry x + uptoBulkEntries r
def uptoBulkEntry {H : Type} : Lit × DataW H → Nat
  | (.string bytes, d) => bytes.length + uptoBulk d + 1
  | (_, d) => uptoBulk d + 1
 end
def uptoSmall : (H : Type) → List (DataW H) → Bool := fun _ ds => decide (uptoBulkAll ds ≤ 1048576)
def OpenSpec.upto (s : _root_.Go.ChangeSpec) : _root_.Go.OpenSpec := { _root_.Go.OpenSpec.ofChange s with cond := some uptoSmall }

/-- 'amanuensislaw08.WordsTell', WHERE WHAT IT READS IS OF BULK AT MOST 1048576: true; the input reads as it did. -/
def wordsTellUptoRow : OpenClaim := { program := "ytaepgkghgcchnaa", sum := "c94e02dac8dfa347281f5a9618c87ec5fffe59dddc5843d75089d42c0c757304", func := "amanuensis/amanuensislaw08.WordsTell", spec := "wordsTell", inPlace := ["internal/bytealg.IndexByteString", "internal/bytealg.CountString", "internal/bytealg.IndexString"], named := ["internal/bytealg.MaxLen"], apart := false, narrowed := true }
def WordsTellUptoSaid : Prop := wordsTellUptoRow.holds Try.pinned (OpenSpec.upto wordsTellSpec)

/-- 'amanuensislaw08.WordsWhole', WHERE WHAT IT READS IS OF BULK AT MOST 1048576: true; the input reads as it did. -/
def wordsWholeUptoRow : OpenClaim := { program := "ytaepgkghgcchnaa", sum := "c94e02dac8dfa347281f5a9618c87ec5fffe59dddc5843d75089d42c0c757304", func := "amanuensis/amanuensislaw08.WordsWhole", spec := "wordsWhole", inPlace := ["internal/bytealg.IndexByteString", "internal/bytealg.CountString", "internal/bytealg.IndexString"], named := ["internal/bytealg.MaxLen"], apart := false, narrowed := true }
def WordsWholeUptoSaid : Prop := wordsWholeUptoRow.holds Try.pinned (OpenSpec.upto wordsWholeSpec)

/-- 'amanuensislaw08.WordsAhead', WHERE WHAT IT READS IS OF BULK AT MOST 1048576: true; the input reads as it did. -/
def wordsAheadUptoRow : OpenClaim := { program := "ytaepgkghgcchnaa", sum := "c94e02dac8dfa347281f5a9618c87ec5fffe59dddc5843d75089d42c0c757304", func := "amanuensis/amanuensislaw08.WordsAhead", spec := "wordsAhead", inPlace := ["internal/bytealg.IndexByteString", "internal/bytealg.CountString", "internal/bytealg.IndexString"], named := ["internal/bytealg.MaxLen"], apart := false, narrowed := true }
def WordsAheadUptoSaid : Prop := wordsAheadUptoRow.holds Try.pinned (OpenSpec.upto wordsAheadSpec)

/-- 'amanuensislaw08.WordsSigns', WHERE WHAT IT READS IS OF BULK AT MOST 1048576: true; the input reads as it did. -/
def wordsSignsUptoRow : OpenClaim := { program := "ytaepgkghgcchnaa", sum := "c94e02dac8dfa347281f5a9618c87ec5fffe59dddc5843d75089d42c0c757304", func := "amanuensis/amanuensislaw08.WordsSigns", spec := "wordsSigns", inPlace := ["internal/bytealg.IndexByteString", "internal/bytealg.CountString", "internal/bytealg.IndexString"], named := ["internal/bytealg.MaxLen"], apart := false, narrowed := true }
def WordsSignsUptoSaid : Prop := wordsSignsUptoRow.holds Try.pinned (OpenSpec.upto wordsSignsSpec)

end Rows
end Go.Proofs.Ytaepgkghgcchnaa
