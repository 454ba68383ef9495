/-
  NARROWER THAN 'FOR EVERY INPUT', by the rows' own cells (each row's printed sentence says how): CheckKeeps: loops · CheckRenames: loops.
  DERIVED. THE GIVEN ROWS OF THIS SEAT. 5 by the template 'for every input the law returns true; each argument reads behind the call as it read before'; 0 by the template 'total and deterministic' (their statements: YtjnofhibldppoaaTotals.lean).
  GIVEN WITH THE SEED: the statements are not yours to turn. If you find one false, say at which input.
  Laid BY PROGRAM, IN A SANDBOX (cutbox-rows.mjs): the forced cells as the released guide's own fill.sh prints them over the translation cb448d7add057abd… (all of the seat's roots in one cut). By AI agents, Wed Nov 11 2026. No macro, syntax, notation, axiom, sorry.
-/
import Derived.Test.YtjnofhibldppoaaChecked
import GoSem.Claim
import GoSem.ClaimJoined
import GoSem.ClaimMapViews
import Derived.JoinedTies
import Derived.KernelRfl
namespace Go.Proofs.Ytjnofhibldppoaa
/- THE CELL 'sum', in the pinned program and in every row, IS THE sha256 OF THE DUMP (.gsa) THAT YtjnofhibldppoaaProg.lean LOADS. Nothing in Lean hashes anything: it is a label: what it is worth is what the hold of that sum in a sandbox is worth. -/
noncomputable def Try.pinned : Pinned := { name := "ytjnofhibldppoaa", sum := "cb448d7add057abdcf630747fe274784bdf735169c570a68ea759e3c1098f58a", checked := Try.checked }
namespace Rows
def none {H : Type} : Left H := { results := [], args := [] }

/-- 'amanuensislaw10.CheckKeeps': WHATEVER THE INPUT: true; the input reads as it did. -/
def checkKeepsSpec : ChangeSpec := { name := "checkKeeps", fn := fun _ => fun
  | [d1, d2] => { results := [.lit (.bool true)], args := [d1, d2] }
  | _ => none }
def checkKeepsRow : OpenClaim := { program := "ytjnofhibldppoaa", sum := "cb448d7add057abdcf630747fe274784bdf735169c570a68ea759e3c1098f58a", func := "amanuensis/amanuensislaw10.CheckKeeps", spec := "checkKeeps", inPlace := ["internal/bytealg.IndexByteString", "internal/bytealg.CountString", "internal/bytealg.IndexString"], unfollowed := true, recurses := true, named := ["internal/bytealg.MaxLen"], loops := true, apart := false }
def CheckKeepsSaid : Prop := checkKeepsRow.holds Try.pinned (OpenSpec.ofChange checkKeepsSpec)

/-- ITS FALSE NEIGHBOUR: 'it returns false'. Refute it at one input. -/
def checkKeepsWrong : ChangeSpec := { name := "checkKeeps", fn := fun _ => fun
  | [d1, d2] => { results := [.lit (.bool false)], args := [d1, d2] }
  | _ => none }
def CheckKeepsWrongFalsely : Prop := checkKeepsRow.holds Try.pinned (OpenSpec.ofChange checkKeepsWrong)

/-- 'amanuensislaw10.CheckKinds': WHATEVER THE INPUT: true; the input reads as it did. -/
def checkKindsSpec : ChangeSpec := { name := "checkKinds", fn := fun _ => fun
  | [d1, d2, d3] => { results := [.lit (.bool true)], args := [d1, d2, d3] }
  | _ => none }
def checkKindsRow : OpenClaim := { program := "ytjnofhibldppoaa", sum := "cb448d7add057abdcf630747fe274784bdf735169c570a68ea759e3c1098f58a", func := "amanuensis/amanuensislaw10.CheckKinds", spec := "checkKinds", inPlace := ["internal/bytealg.IndexByteString", "internal/bytealg.CountString", "internal/bytealg.IndexString"], unfollowed := true, recurses := true, named := ["internal/bytealg.MaxLen"], apart := false }
def CheckKindsSaid : Prop := checkKindsRow.holds Try.pinned (OpenSpec.ofChange checkKindsSpec)

/-- ITS FALSE NEIGHBOUR: 'it returns false'. Refute it at one input. -/
def checkKindsWrong : ChangeSpec := { name := "checkKinds", fn := fun _ => fun
  | [d1, d2, d3] => { results := [.lit (.bool false)], args := [d1, d2, d3] }
  | _ => none }
def CheckKindsWrongFalsely : Prop := checkKindsRow.holds Try.pinned (OpenSpec.ofChange checkKindsWrong)

/-- 'amanuensislaw10.CheckFirst': WHATEVER THE INPUT: true; the input reads as it did. -/
def checkFirstSpec : ChangeSpec := { name := "checkFirst", fn := fun _ => fun
  | [d1, d2, d3] => { results := [.lit (.bool true)], args := [d1, d2, d3] }
  | _ => none }
def checkFirstRow : OpenClaim := { program := "ytjnofhibldppoaa", sum := "cb448d7add057abdcf630747fe274784bdf735169c570a68ea759e3c1098f58a", func := "amanuensis/amanuensislaw10.CheckFirst", spec := "checkFirst", inPlace := ["internal/bytealg.IndexByteString", "internal/bytealg.CountString", "internal/bytealg.IndexString"], unfollowed := true, recurses := true, named := ["internal/bytealg.MaxLen"], apart := false }
def CheckFirstSaid : Prop := checkFirstRow.holds Try.pinned (OpenSpec.ofChange checkFirstSpec)

/-- ITS FALSE NEIGHBOUR: 'it returns false'. Refute it at one input. -/
def checkFirstWrong : ChangeSpec := { name := "checkFirst", fn := fun _ => fun
  | [d1, d2, d3] => { results := [.lit (.bool false)], args := [d1, d2, d3] }
  | _ => none }
def CheckFirstWrongFalsely : Prop := checkFirstRow.holds Try.pinned (OpenSpec.ofChange checkFirstWrong)

/-- 'amanuensislaw10.CheckLocals': WHATEVER THE INPUT: true; the input reads as it did. -/
def checkLocalsSpec : ChangeSpec := { name := "checkLocals", fn := fun _ => fun
  | [d1, d2] => { results := [.lit (.bool true)], args := [d1, d2] }
  | _ => none }
def checkLocalsRow : OpenClaim := { program := "ytjnofhibldppoaa", sum := "cb448d7add057abdcf630747fe274784bdf735169c570a68ea759e3c1098f58a", func := "amanuensis/amanuensislaw10.CheckLocals", spec := "checkLocals", inPlace := ["internal/bytealg.IndexByteString", "internal/bytealg.CountString", "internal/bytealg.IndexString"], unfollowed := true, recurses := true, named := ["internal/bytealg.MaxLen"], apart := false }
def CheckLocalsSaid : Prop := checkLocalsRow.holds Try.pinned (OpenSpec.ofChange checkLocalsSpec)

/-- ITS FALSE NEIGHBOUR: 'it returns false'. Refute it at one input. -/
def checkLocalsWrong : ChangeSpec := { name := "checkLocals", fn := fun _ => fun
  | [d1, d2] => { results := [.lit (.bool false)], args := [d1, d2] }
  | _ => none }
def CheckLocalsWrongFalsely : Prop := checkLocalsRow.holds Try.pinned (OpenSpec.ofChange checkLocalsWrong)

/-- 'amanuensislaw10.CheckRenames': WHATEVER THE INPUT: true; the input reads as it did. -/
def checkRenamesSpec : ChangeSpec := { name := "checkRenames", fn := fun _ => fun
  | [d1, d2] => { results := [.lit (.bool true)], args := [d1, d2] }
  | _ => none }
def checkRenamesRow : OpenClaim := { program := "ytjnofhibldppoaa", sum := "cb448d7add057abdcf630747fe274784bdf735169c570a68ea759e3c1098f58a", func := "amanuensis/amanuensislaw10.CheckRenames", spec := "checkRenames", inPlace := ["internal/bytealg.IndexByteString", "internal/bytealg.CountString", "internal/bytealg.IndexString"], unfollowed := true, recurses := true, named := ["internal/bytealg.MaxLen"], loops := true, apart := false }
def CheckRenamesSaid : Prop := checkRenamesRow.holds Try.pinned (OpenSpec.ofChange checkRenamesSpec)

/-- ITS FALSE NEIGHBOUR: 'it returns false'. Refute it at one input. -/
def checkRenamesWrong : ChangeSpec := { name := "checkRenames", fn := fun _ => fun
  | [d1, d2] => { results := [.lit (.bool false)], args := [d1, d2] }
  | _ => none }
def CheckRenamesWrongFalsely : Prop := checkRenamesRow.holds Try.pinned (OpenSpec.ofChange checkRenamesWrong)

/- THE SECOND FORM. 'bulk': how many values and letters a reading holds, each counted each time it is reached (what is shared counts as often as it is met; a slice's spare places count too). A statement '..UptoSaid' is the law's where the arguments, and the package variables that the reading takes, are together of bulk at most 1048576: NARROWER than '..Said'. Prove '..Said' where nothing that the law and all that it calls make is longer than what came in: it says more and counts as full. Else prove '..UptoSaid'. A law counts once. -/
mutual
def uptoBulk {H : Type} : DataW H → Nat
  | .lit (.string bytes) => bytes.length + 1
  | .lit _ => 1
  | .nil => 1
  | .ptr d => uptoBulk d + 1
  | .slice elems spare => uptoBulkAll elems + uptoBulkAll spare + 1
  | .agg parts => uptoBulkAll parts + 1
  | .iface _ d => uptoBulk d + 1
  | .map entries => uptoBulkEntries entries + 1
  | .held _ => 1
def uptoBulkAll {H : Type} : List (DataW H) → Nat
  | [] => 0
  | d :: r => uptoBulk d + uptoBulkAll r
def uptoBulkEntries {H : Type} : List (Lit × DataW H) → Nat
  | [] => 0
  | x :: r => uptoBulkEntry x + uptoBulkEntries r
def uptoBulkEntry {H : Type} : Lit × DataW H → Nat
  | (.string bytes, d) => bytes.length + uptoBulk d + 1
  | (_, d) => uptoBulk d + 1
 end
def uptoSmall : (H : Type) → List (DataW H) → Bool := fun _ ds => decide (uptoBulkAll ds ≤ 1048576)
def OpenSpec.upto (s : _root_.Go.ChangeSpec) : _root_.Go.OpenSpec := { _root_.Go.OpenSpec.ofChange s with cond := some uptoSmall }

/-- 'amanuensislaw10.CheckKeeps', WHERE WHAT IT READS IS OF BULK AT MOST 1048576: true; the input reads as it did. -/
def checkKeepsUptoRow : OpenClaim := { program := "ytjnofhibldppoaa", sum := "cb448d7add057abdcf630747fe274784bdf735169c570a68ea759e3c1098f58a", func := "amanuensis/amanuensislaw10.CheckKeeps", spec := "checkKeeps", inPlace := ["internal/bytealg.IndexByteString", "internal/bytealg.CountString", "internal/bytealg.IndexString"], unfollowed := true, recurses := true, named := ["internal/bytealg.MaxLen"], loops := true, apart := false, narrowed := true }
def CheckKeepsUptoSaid : Prop := checkKeepsUptoRow.holds Try.pinned (OpenSpec.upto checkKeepsSpec)

/-- 'amanuensislaw10.CheckKinds', WHERE WHAT IT READS IS OF BULK AT MOST 1048576: true; the input reads as it did. -/
def checkKindsUptoRow : OpenClaim := { program := "ytjnofhibldppoaa", sum := "cb448d7add057abdcf630747fe274784bdf735169c570a68ea759e3c1098f58a", func := "amanuensis/amanuensislaw10.CheckKinds", spec := "checkKinds", inPlace := ["internal/bytealg.IndexByteString", "internal/bytealg.CountString", "internal/bytealg.IndexString"], unfollowed := true, recurses := true, named := ["internal/bytealg.MaxLen"], apart := false, narrowed := true }
def CheckKindsUptoSaid : Prop := checkKindsUptoRow.holds Try.pinned (OpenSpec.upto checkKindsSpec)

/-- 'amanuensislaw10.CheckFirst', WHERE WHAT IT READS IS OF BULK AT MOST 1048576: true; the input reads as it did. -/
def checkFirstUptoRow : OpenClaim := { program := "ytjnofhibldppoaa", sum := "cb448d7add057abdcf630747fe274784bdf735169c570a68ea759e3c1098f58a", func := "amanuensis/amanuensislaw10.CheckFirst", spec := "checkFirst", inPlace := ["internal/bytealg.IndexByteString", "internal/bytealg.CountString", "internal/bytealg.IndexString"], unfollowed := true, recurses := true, named := ["internal/bytealg.MaxLen"], apart := false, narrowed := true }
def CheckFirstUptoSaid : Prop := checkFirstUptoRow.holds Try.pinned (OpenSpec.upto checkFirstSpec)

/-- 'amanuensislaw10.CheckLocals', WHERE WHAT IT READS IS OF BULK AT MOST 1048576: true; the input reads as it did. -/
def checkLocalsUptoRow : OpenClaim := { program := "ytjnofhibldppoaa", sum := "cb448d7add057abdcf630747fe274784bdf735169c570a68ea759e3c1098f58a", func := "amanuensis/amanuensislaw10.CheckLocals", spec := "checkLocals", inPlace := ["internal/bytealg.IndexByteString", "internal/bytealg.CountString", "internal/bytealg.IndexString"], unfollowed := true, recurses := true, named := ["internal/bytealg.MaxLen"], apart := false, narrowed := true }
def CheckLocalsUptoSaid : Prop := checkLocalsUptoRow.holds Try.pinned (OpenSpec.upto checkLocalsSpec)

/-- 'amanuensislaw10.CheckRenames', WHERE WHAT IT READS IS OF BULK AT MOST 1048576: true; the input reads as it did. -/
def checkRenamesUptoRow : OpenClaim := { program := "ytjnofhibldppoaa", sum := "cb448d7add057abdcf630747fe274784bdf735169c570a68ea759e3c1098f58a", func := "amanuensis/amanuensislaw10.CheckRenames", spec := "checkRenames", inPlace := ["internal/bytealg.IndexByteString", "internal/bytealg.CountString", "internal/bytealg.IndexString"], unfollowed := true, recurses := true, named := ["internal/bytealg.MaxLen"], loops := true, apart := false, narrowed := true }
def CheckRenamesUptoSaid : Prop := checkRenamesUptoRow.holds Try.pinned (OpenSpec.upto checkRenamesSpec)

end Rows
end Go.Proofs.Ytjnofhibldppoaa
