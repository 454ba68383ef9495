/-
 TreeShapes: the beginning, by the interpreter of plain data. No condition.
-/
import Derived.Test.YtdodmlebinomjaaDoorTreC
import Derived.Test.YtdodmlebinomjaaDoorPeL5
import Derived.Test.YtdodmlebinomjaaDoorView
set_option linter.unusedVariables false
set_option linter.unusedSimpArgs false
set_option maxRecDepth 100000
namespace Go.Pe
open Go Go.Am Go.RowKit

noncomputable def cfgT5 : Cfg := { fn := fun f => Nee f tblX5, ext := Nrt }
theorem Nis {Gl : Gmap} {m : Int} (hg : Gl 1 0 = some (.int .i64 m)) : CfgOK Go.Proofs.Tryd.prog Gl cfgT5 := Nd3 NmU (Nnq hg)
theorem Nqo : cfgT5.ext 15 = some gRep := by kernel_rfl
theorem Nqm : cfgT5.ext 7 = some gAwakeT := by kernel_rfl
def wdsT : List (List UInt8) := [[108, 111, 99, 107], [117, 110, 108, 111, 99, 107], [116, 114, 121, 108, 111, 99, 107], [108, 111, 99, 107, 102, 111, 114], [114, 108, 111, 99, 107], [114, 117, 110, 108, 111, 99, 107], [119, 108, 111, 99, 107], [119, 117, 110, 108, 111, 99, 107], [97, 99, 113, 117, 105, 114, 101], [114, 101, 108, 101, 97, 115, 101], [116, 114, 121, 97, 99, 113, 117, 105, 114, 101], [119, 97, 105, 116, 111, 110], [115, 105, 103, 110, 97, 108], [98, 114, 111, 97, 100, 99, 97, 115, 116], [97, 114, 114, 105, 118, 101], [100, 111], [97, 100, 100], [100, 111, 110, 101], [119, 97, 105, 116, 102, 111, 114], [112, 117, 116], [116, 97, 107, 101], [114, 101, 97, 100], [119, 114, 105, 116, 101]]
theorem NpP : fvP cfgT5 300 14 [] = some (.osl 1 23 (txC wdsT)) := by kernel_rfl
def Nfa (o : Nat) : Bool := Nat.beq o 3 || Nat.beq o 16 || Nat.beq o 19 || Nat.beq o 22
def Nfc (o : Nat) : Bool := Nat.beq o 2 || Nat.beq o 3 || Nat.beq o 10 || Nat.beq o 20 || Nat.beq o 21
def okB (o : Nat) (a b c : Bool) : Bool := a == Nfa o && (b == Nfc o && c == Nat.beq o 15)
def NpR (o n : Nat) (a b c : Bool) : List UInt8 :=
 let t := List.replicate n 10 ++ wdsT.getD o [] ++ [32, 109]
 let t := if a then t ++ [32, 49] else t
 let t := if b then t ++ [32, 45, 62, 32, 120] else t
 let t := if c then t ++ [32, 123, 32, 125] else t ++ [59]
 [116, 104, 114, 101, 97, 100, 32, 116, 32, 123] ++ t ++ [125]
def Nrg (o n : Nat) : List PV := [.i .u8 1, .i .u8 ((o + 1 : Nat) : Int), .s [109], .s (if Nfc o then [120] else []), .i .i64 0, if Nfa o then .fsl 1 [.i .u8 1, .s [], .i .i64 1, .nsl] else .nsl, .nsl, .nsl, .i .i64 ((n + 1 : Nat) : Int)]
def Ne8 (o n : Nat) (a b c : Bool) : PV := if okB o a b c then .tup [.agg [.nsl, .fsl 1 [.s [116], .fsl 1 (Nrg o n), .i .i64 1]], .agg [.i .i64 0, .i .i64 0]] else .tup [.agg [.nsl, .nsl], .agg [.i .i64 101, .i .i64 ((n + 1 : Nat) : Int)]]
noncomputable def Nab (o n h : Nat) : Option PV := fvP cfgT5 300 9 [.s (NpR o n (Nat.beq (h % 2) 1) (Nat.beq (h / 2 % 2) 1) (Nat.beq (h / 4) 1))]
noncomputable def Nac (o n h : Nat) : Option PV := some (Ne8 o n (Nat.beq (h % 2) 1) (Nat.beq (h / 2 % 2) 1) (Nat.beq (h / 4) 1))
end Go.Pe
