/-
 TreeBinds, by the interpreter of plain data. No condition.
-/
import Derived.Test.YtdodmlebinomjaaDoorTreA
import Derived.Test.YtdodmlebinomjaaDoorPeL4
import Derived.Test.YtdodmlebinomjaaDoorView
set_option linter.unusedVariables false
set_option linter.unusedSimpArgs false
set_option maxHeartbeats 4000000
set_option maxRecDepth 100000
namespace Go.Pe
open Go Go.Am Go.RowKit

noncomputable def cfgT4 : Cfg := { fn := fun f => Nd5 f tblX4, ext := NiU }
theorem NfQ {Gl : Gmap} {m : Int} (hg : Gl 1 0 = some (.int .i64 m)) : CfgOK Go.Proofs.Tryd.prog Gl cfgT4 := NdT Ngo (NgY hg)
def sgT : List (List UInt8) := [[43], [45], [42], [61, 61], [60]]
def Njn : MCode → MCode
 | .seq _ b => b
 | c => c
noncomputable def NhM : MCode := Njn (Njn (Njn m4.body))
noncomputable def NhN (a b : Int) (i j : Nat) : Now := { env := (((((Env.put .leaf 0 (.i .u8 a)).put 1 (.i .u8 b)).put 4 (.b false)).put 5 (.rsl 9 1 0 5)).put 6 (.s (sgT.getD i []))).put 7 (.s (sgT.getD j [])), st := { sto := (({ sto := .leaf, cnt := 25 } : St).put 9 (some (.cells [.s [43], .s [45], .s [42], .s [61, 61], .s [60]] false))).sto, cnt := 121 } }
noncomputable def NcT (a b : Int) (i j : Nat) : Option (Bool × PV) := (Ncx NhM cfgT4 (fFn cfgT4 300) 301 (NhN a b i j)).map fun p => (Nhi p.1, Env.get p.2.env 4)
theorem NgK (a b : Int) : (List.range 5).map (NcT a b 0) = (List.range 5).map fun _ => some (true, .b true) := by kernel_rfl
theorem NgL (a b : Int) : (List.range 5).map (NcT a b 1) = (List.range 5).map fun _ => some (true, .b true) := by kernel_rfl
theorem NgM (a b : Int) : (List.range 5).map (NcT a b 2) = (List.range 5).map fun _ => some (true, .b true) := by kernel_rfl
theorem NgN (a b : Int) : (List.range 5).map (NcT a b 3) = (List.range 5).map fun _ => some (true, .b true) := by kernel_rfl
theorem NgO (a b : Int) : (List.range 5).map (NcT a b 4) = (List.range 5).map fun _ => some (true, .b true) := by kernel_rfl
theorem NfJ (a b : Int) {i j : Nat} (hi : i < 5) (hj : j < 5) : NcT a b i j = some (true, .b true) := by
 have key : ∀ {α : Type} {f g : Nat → α}, (List.range 5).map f = (List.range 5).map g → f j = g j := fun h => List.map_inj_left.1 h j (List.mem_range.2 hj)
 match i, hi with
 | 0, _ => exact key (NgK a b)
 | 1, _ => exact key (NgL a b)
 | 2, _ => exact key (NgM a b)
 | 3, _ => exact key (NgN a b)
 | 4, _ => exact key (NgO a b)
 | n + 5, h => exact absurd h (by omega)
theorem NhF (x : Nat) : List.take 1 (List.drop (x % 5) [PV.s [43], PV.s [45], PV.s [42], PV.s [61, 61], PV.s [60]]) = [.s (sgT.getD (x % 5) [])] := by
 have h : x % 5 < 5 := Nat.mod_lt _ (by decide)
 match x % 5, h with
 | 0, _ => rfl
 | 1, _ => rfl
 | 2, _ => rfl
 | 3, _ => rfl
 | 4, _ => rfl
 | n + 5, h => exact absurd h (by omega)
theorem NfK {a b : Int} (h1 : 0 ≤ a ∧ a < 256) (h2 : 0 ≤ b ∧ b < 256) : ∃ fuel, evP cfgT4 fuel 4 [.i .u8 a, .i .u8 b] = some (.b true) := by
 refine ⟨300 + 1, NgW rfl rfl (fun _ => rfl) (Nb6 (by kernel_rfl : cfgT4.fn 4 = some m4) ?_)⟩
 obtain ⟨p, rfl⟩ : ∃ p : Nat, a = p := ⟨a.toNat, by omega⟩
 obtain ⟨q, rfl⟩ : ∃ q : Nat, b = q := ⟨b.toNat, by omega⟩
 have h05 : (((5 : Nat) : Int) = 0) = False := by simp
 have e5 : ∀ x : Nat, (x : Int).tmod ((5 : Nat) : Int) = ((x % 5 : Nat) : Int) := fun x => by rw [Int.ofNat_tmod]
 unfold m4
 simp only [Nas]
 (try rw [Z0])
 (try simp (maxSteps := 2000000) (disch := first | omega | rfl | assumption) only [↓Xp, ↓Xt, Xq, Xc, Nan, Nab, Nat.reduceAdd, Nat.reduceMul, Nat.reduceLT, Nat.reduceEqDiff, reduceIte, Xa, Xn, unP, Nhm, Nhn, Nho, Xm, Nat.reduceLeDiff, List.nil_append, List.cons_append, h05, e5, NhF])
 (try rw [Z0])
 (try simp (maxSteps := 2000000) (disch := first | omega | rfl | assumption) only [↓Xp, ↓Xt, Xq, Xc, Nan, Nab, Nat.reduceAdd, Nat.reduceMul, Nat.reduceLT, Nat.reduceEqDiff, reduceIte, Xa, Xn, unP, Nhm, Nhn, Nho, Xm, Nat.reduceLeDiff, List.nil_append, List.cons_append, h05, e5, NhF])
 (try rw [Z0])
 (try simp (maxSteps := 2000000) (disch := first | omega | rfl | assumption) only [↓Xp, ↓Xt, Xq, Xc, Nan, Nab, Nat.reduceAdd, Nat.reduceMul, Nat.reduceLT, Nat.reduceEqDiff, reduceIte, Xa, Xn, unP, Nhm, Nhn, Nho, Xm, Nat.reduceLeDiff, List.nil_append, List.cons_append, h05, e5, NhF])
 have hb := NfJ (p : Int) (q : Int) (i := p % 5) (j := q % 5) (Nat.mod_lt _ (by decide)) (Nat.mod_lt _ (by decide))
 refine NgJ (fun x => Env.get x.env 4) (.b true) hb ?_
 intro x' hx
 refine ⟨fun id e => (by cases e), [.b true], ?_, rfl⟩
 simp only [mapO, NeA, hx]
theorem Ne2 (a : Int) (h1 : (Lit.int .u8 a).wf = true) (b : Int) (h2 : (Lit.int .u8 b).wf = true) : ∃ fuel, evP cfgT4 fuel 4 [.i .u8 a, .i .u8 b] = some (.b true) := by
 refine NfK ?_ ?_
 ·simp [Lit.wf, IntKind.min, IntKind.max, IntKind.signed, IntKind.bits] at h1
  omega
 ·simp [Lit.wf, IntKind.min, IntKind.max, IntKind.signed, IntKind.bits] at h2
  omega
end Go.Pe
