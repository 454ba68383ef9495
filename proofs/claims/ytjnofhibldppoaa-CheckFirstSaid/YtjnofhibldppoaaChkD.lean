/-
 CheckFirst: what its cases run. No condition.
-/
import Derived.Test.YtjnofhibldppoaaChkMg
import Derived.Test.YtjnofhibldppoaaPeL5
import Derived.Test.YtjnofhibldppoaaPeL17
set_option linter.unusedVariables false
set_option linter.unusedSimpArgs false
namespace Go.Pe
open Go Go.Am Go.RowKit

theorem NfK (x : List UInt8) (n : Int) : fvP cfgNx 200 15 [.i .u8 (Int.ofNat 1), .s x, .i .i64 n] = some (.agg [.i .u8 (Int.ofNat 1), .i .u8 (Int.ofNat 1), .s x, .s [], .i .i64 (Int.ofNat 0), .nsl, .nsl, .nsl, .i .i64 n]) := by kernel_rfl
def Ngi : List PV → Option PV
 | [.i .u8 (Int.ofNat 1), .s x, .i .i64 n] => some (.agg [.i .u8 (Int.ofNat 1), .i .u8 (Int.ofNat 1), .s x, .s [], .i .i64 (Int.ofNat 0), .nsl, .nsl, .nsl, .i .i64 n])
 | _ => none
theorem Nib (args : List PV) (r : PV) (h : Ngi args = some r) : ∃ fuel, evP cfgNx fuel 15 args = some r := by
 unfold Ngi at h
 split at h
 ·rename_i x n
  rw [← h]
  refine ⟨200, ?_⟩
  have := NfK x n
  rwa [NgC] at this
 ·cases h
def Nj0 : FuncId → Option (List PV → Option PV) := fun f => if f = 15 then some Ngi else Nj7 f
theorem Nif {Gl : Gmap} {m : Int} (hg : Gl 0 0 = some (.int .i64 m)) : ∀ f g, Nj0 f = some g → Nbd Go.Proofs.Try.prog Gl f g := by
 intro f g h
 unfold Nj0 at h
 split at h
 ·rename_i e; simp only [Sj] at h; subst h; subst e
  exact New (NdK hg) Nib
 ·exact Nih hg f g h
noncomputable def tblC5 : List (Nat × MFunc) := (17, m17) :: tblX5
theorem NfD : Nkf Go.Proofs.Try.prog (Nai Go.Proofs.Try.prog []) tblC5 := ⟨t17, NiP⟩
noncomputable def cfgC5 : Cfg := { fn := fun f => Nd0 f tblC5, ext := Nj0 }
theorem Nim {Gl : Gmap} {m : Int} (hg : Gl 0 0 = some (.int .i64 m)) : CfgOK Go.Proofs.Try.prog Gl cfgC5 := NeR NfD (Nif hg)
noncomputable def NkO : MCode := Nl2 (Nl2 (Nl2 m5.body))
noncomputable def Nkl (one two : Int) (x y : Bool) (a b : Nat) : Now := { env := ((((((((Env.put .leaf 0 (.i .u8 one)).put 1 (.i .u8 two)).put 2 (.agg [.b x, .b y])).put 5 (.ptr 1 0)).put 6 (.b false)).put 7 (.i .i64 (a : Int))).put 8 (.i .i64 (b : Int))).put 23 (.b false)), st := { sto := (St.put ⟨.leaf, 17⟩ 1 (some (.cells [.b x, .b y] false))).sto, cnt := 105 } }
noncomputable def Naj (one two : Int) (x y : Bool) (a b : Nat) : Option (Bool × PV) := (Nda NkO cfgC5 (fFn cfgC5 300) 301 (Nkl one two x y a b)).map fun p => (NjX p.1, p.2.env.get 6)
def firstL : List (Bool × Bool) := [(false, false), (false, true), (true, false), (true, true)]
end Go.Pe
