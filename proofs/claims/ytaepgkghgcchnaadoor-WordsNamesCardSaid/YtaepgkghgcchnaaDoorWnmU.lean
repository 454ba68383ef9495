/-
 Words: strings.ToUpper of a small letter, told by the kernel; what the law of names calls. No condition.
-/
import Derived.Test.YtaepgkghgcchnaaDoorWnmF
import Derived.Test.YtaepgkghgcchnaaDoorWordsT
import Derived.Test.YtaepgkghgcchnaaDoorWordC0
import Derived.Test.YtaepgkghgcchnaaDoorPeL4
set_option linter.unusedVariables false
set_option linter.unusedSimpArgs false
set_option maxRecDepth 100000
namespace Go.Pe
open Go Go.Am Go.RowKit

theorem Ncz {Gl : Gmap} {m : Int} (hg : Gl 2 0 = some (.int .i64 m)) : CfgOK Go.Proofs.Tryd.prog Gl cfgI := Neo NeN (by
 intro f g h
 unfold NlM at h
 split at h
 ·rename_i e; simp only [Sj] at h; subst h; subst e
  exact Nd6 (NeP hg)
 ·cases h)
noncomputable def upF (n : Nat) : Option PV := fvP cfgI 100 14 [.s [UInt8.ofNat (97 + n)]]
theorem NjK : (List.range 26).map upF = (List.range 26).map fun n => some (.s [UInt8.ofNat (65 + n)]) := by kernel_rfl
def gUp : List PV → Option PV
 | [.s [c]] => if 97 ≤ c.toNat ∧ c.toNat < 123 then some (.s [UInt8.ofNat (c.toNat - 32)]) else none
 | _ => none
theorem NjL (args : List PV) (r : PV) (h : gUp args = some r) : ∃ fuel, evP cfgI fuel 14 args = some r := by
 unfold gUp at h
 split at h
 ·rename_i c
  split at h
  ·rename_i hc
   simp only [Sj] at h
   subst h
   obtain ⟨m, hm⟩ : ∃ m, c.toNat = 97 + m := ⟨c.toNat - 97, by omega⟩
   have := List.map_inj_left.1 NjK m (List.mem_range.2 (by omega))
   unfold upF at this
   rw [NfY] at this
   have e1 : UInt8.ofNat (97 + m) = c := by rw [← hm]; exact UInt8.ofNat_toNat
   have e2 : c.toNat - 32 = 65 + m := by omega
   rw [e1] at this
   rw [e2]
   exact ⟨100, this⟩
  ·cases h
 ·cases h
noncomputable def Nke : FuncId → Option (List PV → Option PV) := fun f => if f = 9 then some gNext else if f = 7 then some gAwake else if f = 13 then some gIs else if f = 12 then some gPick else if f = 11 then some gFields else if f = 14 then some gUp else none
theorem NhQ {Gl : Gmap} {m : Int} (hg : Gl 2 0 = some (.int .i64 m)) (hT : ∀ c : Nat, c < 256 → Gl 0 c = some (.int .u8 (if Go.Lib.isSp (UInt8.ofNat c) then 1 else 0))) : ∀ f g, Nke f = some g → Na3 Go.Proofs.Tryd.prog Gl f g := by
 intro f g h
 unfold Nke at h
 split at h
 ·rename_i e; simp only [Sj] at h; subst h; subst e
  exact Nd6 (NeP hg)
 split at h
 ·rename_i e; simp only [Sj] at h; subst h; subst e
  exact NdJ (Ncz hg) NfH
 split at h
 ·rename_i e; simp only [Sj] at h; subst h; subst e
  exact NdJ (Ncz hg) Njn
 split at h
 ·rename_i e; simp only [Sj] at h; subst h; subst e
  exact NdJ (Ncz hg) Nhe
 split at h
 ·rename_i e; simp only [Sj] at h; subst h; subst e
  exact NfX hT
 split at h
 ·rename_i e; simp only [Sj] at h; subst h; subst e
  exact NdJ (Ncz hg) NjL
 ·cases h
noncomputable def cfgN : Cfg := { fn := fun f => NeB f tblX4, ext := Nke }
theorem NhJ {Gl : Gmap} {m : Int} (hg : Gl 2 0 = some (.int .i64 m)) (hT : ∀ c : Nat, c < 256 → Gl 0 c = some (.int .u8 (if Go.Lib.isSp (UInt8.ofNat c) then 1 else 0))) : CfgOK Go.Proofs.Tryd.prog Gl cfgN := Neo Nhg (NhQ hg hT)
theorem Nf0 : cfgN.ext 9 = some gNext := by kernel_rfl
theorem Nje : cfgN.ext 7 = some gAwake := by kernel_rfl
theorem Nhn : cfgN.ext 13 = some gIs := by kernel_rfl
theorem Njh : cfgN.ext 12 = some gPick := by kernel_rfl
theorem Njg : cfgN.ext 11 = some gFields := by kernel_rfl
theorem Njj : cfgN.ext 14 = some gUp := by kernel_rfl
theorem Njf : cfgN.ext 15 = none := by kernel_rfl
theorem Njk : cfgN.ext 5 = none := by kernel_rfl
theorem Nji : cfgN.ext 6 = none := by kernel_rfl
theorem Ni8 : cfgN.fn 15 = some m15 := by kernel_rfl
theorem Nja : cfgN.fn 5 = some m5 := by kernel_rfl
theorem Ni9 : cfgN.fn 6 = some m6 := by kernel_rfl
end Go.Pe
