/-
  CheckKinds, by the interpreter of plain data. No condition.
-/
import Derived.Test.YtjnofhibldppoaaWordC0
import Derived.Test.YtjnofhibldppoaaPeB
import Derived.Test.YtjnofhibldppoaaPeL4
import Derived.Test.YtjnofhibldppoaaView
set_option linter.unusedVariables false
set_option linter.unusedSimpArgs false
namespace Go.Pe
open Go Go.Am Go.RowKit

set_option maxRecDepth 100000 in
theorem chkAwake : fvP cfgNx 200 10 [] = some (.b true) := by kernel_rfl
def gAwakeC : List PV → Option PV
  | [] => some (.b true)
  | _ => none
theorem chkAwake_any (args : List PV) (r : PV) (h : gAwakeC args = some r) : ∃ fuel, evP cfgNx fuel 10 args = some r := by
  unfold gAwakeC at h
  split at h
  · rw [← h]
    refine ⟨200, ?_⟩
    have := chkAwake
    rwa [fvP_eq] at this
  · cases h
def extNy : FuncId → Option (List PV → Option PV) := fun f => if f = 64 then some gNext else if f = 10 then some gAwakeC else none
theorem extNy_ok {Gl : Gmap} {m : Int} (hg : Gl 0 0 = some (.int .i64 m)) : ∀ f g, extNy f = some g → PureOK Go.Proofs.Try.prog Gl f g := by
  intro f g h
  unfold extNy at h
  split at h
  · rename_i e; simp only [Option.some.injEq] at h; subst h; subst e
    exact next_pure (cfgW0_ok hg)
  split at h
  · rename_i e; simp only [Option.some.injEq] at h; subst h; subst e
    exact pure_of (cfgNx_ok hg) chkAwake_any
  · cases h
theorem ev_flat {cfg : Cfg} {f : FuncId} (hx : cfg.ext f = none) {fuel : Nat} {args : List PV} {r : PV} (ho : openArgs args = (args, { sto := .leaf, cnt := 1 })) (hc : ∀ st, closeRes st r = some r) (h : ∃ r' st', evFn cfg fuel f args { sto := .leaf, cnt := 1 } = some (r', st') ∧ r' = r) : evP cfg fuel f args = some r := by
  obtain ⟨r', st', h1, h2⟩ := h
  exact evP_of hx ho ⟨r', st', h1, by rw [h2]; exact hc st'⟩
noncomputable def cfgC4 : Cfg := { fn := fun f => lookT f tblX4, ext := extNy }
theorem cfgC4_ok {Gl : Gmap} {m : Int} (hg : Gl 0 0 = some (.int .i64 m)) : CfgOK Go.Proofs.Try.prog Gl cfgC4 := cfg_okt tbl_all4 (extNy_ok hg)
def ofT (o : Nat) : Nat := [0, 1, 1, 1, 1, 2, 2, 2, 2, 3, 3, 3, 4, 4, 4, 5, 6, 7, 7, 7, 8, 8, 9, 9].getD o 0
def wantC (o k : Nat) (line : Int) : PV := .agg (if Nat.beq (ofT o) k then [.i .i64 0, .i .i64 0] else [.i .i64 111, .i .i64 (IntKind.i64.wrap line)])
noncomputable def kindsX (op kind line : Int) (o k : Nat) : Now := { env := ((((((Env.put .leaf 0 (.i .u8 op)).put 1 (.i .u8 kind)).put 2 (.i .u8 line)).put 6 (.b false)).put 7 (.i .u8 (o : Int))).put 8 (.i .u8 (k : Int))), st := { sto := .leaf, cnt := 73 } }
def bodyOf : MFunc → MCode := fun m => m.body
def sndC : MCode → MCode
  | .seq _ b => b
  | c => c
def fstC : MCode → MCode
  | .seq a _ => a
  | c => c
def opsC : MCode → List MOper
  | .region l => l
  | _ => []
noncomputable def kindsA : MCode := .seq (.seq (fstC (sndC (sndC m4.body))) (fstC (sndC (sndC (sndC m4.body))))) (fstC (sndC (sndC (sndC (sndC m4.body)))))
noncomputable def kindsL : List MOper := opsC (fstC (sndC (sndC (sndC (sndC (sndC m4.body))))))
noncomputable def kindsF (c : Loc) : PV × PV := (Env.get c.loc 36, Env.get c.loc 37)
end Go.Pe
