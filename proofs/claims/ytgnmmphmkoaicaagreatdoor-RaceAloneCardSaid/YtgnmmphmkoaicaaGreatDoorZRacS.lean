/-
 Races: what the further laws share. No condition.
-/
import Derived.Test.YtgnmmphmkoaicaaGreatDoorZGrtA
import Derived.Test.YtgnmmphmkoaicaaGreatDoorZCoeF
import Derived.Test.YtgnmmphmkoaicaaGreatDoorZRacN
set_option linter.unusedVariables false
set_option linter.unusedSimpArgs false
set_option maxRecDepth 100000
namespace Go.Pe
open Go Go.Am Go.RowKit

theorem NjI : fvP cfgNx 400 13 [] = some (.b true):=by kernel_rfl
theorem Nfu (args : List PV) (r : PV) (h : gTrue args = some r) : ∃ fuel,evP cfgNx fuel 13 args = some r:=by
 unfold gTrue at h
 split at h
 ·rw [← h]
  refine ⟨400,?_⟩
  have:=NjI
  rwa [NlE] at this
 ·cases h
def No9 : FuncId → Option (List PV → Option PV):=fun f => if f = 52 then some gNext else if f = 75 then some gJoin else if f = 72 then some gTick else none
theorem NiR {Gl : Gmap} {m : Int} (hg : Gl 0 0 = some (.int .i64 m)) : ∀ f g,No9 f = some g → Nbz Go.Proofs.Tryz.prog Gl f g:=by
 intro f g h
 unfold No9 at h
 split at h
 ·rename_i e; simp only [Sj] at h; subst h; subst e
  exact Nf5 (Nhb hg)
 split at h
 ·rename_i e; simp only [Sj] at h; subst h; subst e
  exact NmE
 split at h
 ·rename_i e; simp only [Sj] at h; subst h; subst e
  exact Nna
 ·cases h
noncomputable def cfgR : Cfg:={ fn:=fun f => Nc0 f tblL,ext:=No9 }
theorem Nl5 {Gl : Gmap} {m : Int} (hg : Gl 0 0 = some (.int .i64 m)) : CfgOK Go.Proofs.Tryz.prog Gl cfgR:=Ne9 Nfy (NiR hg)
theorem Nnx : CfgZ cfgR where
 nx:=by rfl
 fn:=fun _ _ h => h
 jn:=by rfl
 tk:=by rfl
 x1:=by rfl
 x2:=by rfl
 x3:=by rfl
 x4:=by rfl
 x5:=by rfl
 x6:=by rfl
 x7:=by rfl
 x8:=by rfl
 x9:=by rfl
 y1:=by rfl
 y2:=by rfl
 y3:=by rfl
 y4:=by rfl
 y5:=by rfl
 y6:=by rfl
 z1:=by rfl
 z2:=by rfl
 z3:=by rfl
 z4:=by rfl
 z5:=by rfl
 z6:=by rfl
 z7:=by rfl
 z8:=by rfl
 r1:=by rfl
 r2:=by rfl
 r3:=by rfl
 r4:=by rfl
 r5:=by rfl
 r6:=by rfl
 r7:=by rfl
 r8:=by rfl
 a1:=by rfl
 a2:=by rfl
 a3:=by rfl
 a4:=by rfl
 k1:=by rfl
 k2:=by rfl
 k3:=by rfl
 k4:=by rfl
 k5:=by rfl
 k6:=by rfl
 k7:=by rfl
 k8:=by rfl
 k9:=by rfl
theorem NcT {α : Type} (f : α → Nat) : ∀ l : List α,∃ B,∀ a,a ∈ l → f a ≤ B
 | [] => ⟨0,by simp⟩
 | a :: r => by
   obtain ⟨B,hB⟩:=NcT f r
   refine ⟨f a + B,fun b hb => ?_⟩
   rcases List.mem_cons.1 hb with rfl | hb
   ·omega
   ·have:=hB b hb; omega
theorem Nlz (cd : Cd) (M : Nat) : ∃ F,CdF cd F ∧ M ≤ F:=by
 obtain ⟨B1,h1⟩:=NcT (fun t : Tx => t.C.length) cd.T
 obtain ⟨B2,h2⟩:=NcT (fun t : Tx => Classical.choose (NcT (fun x : In => Exs.size x.A + x.A.length + 100) t.C)) cd.T
 refine ⟨cd.O.length + cd.T.length + B1 + B2 + M,⟨by omega,by omega,fun t ht => by have:=h1 t ht; (try simp only at this); omega,fun t ht x hx => ?_⟩,by omega⟩
 have a1:=Classical.choose_spec (NcT (fun x : In => Exs.size x.A + x.A.length + 100) t.C) x hx
 have a2:=h2 t ht
 try simp only at a1 a2
 omega
theorem CdF.up {cd : Cd} {F F' : Nat} (h : CdF cd F) (hF : F ≤ F') : CdF cd F':=⟨Nat.le_trans h.o hF,Nat.le_trans h.t hF,fun t ht => Nat.le_trans (h.c t ht) hF,fun t ht x hx => Nat.le_trans (h.a t ht x hx) hF⟩
theorem Nl9 (cd : Cd) (hwf : cd.wf) : ∃ ck : Int,(∃ fuel,evP cfgR fuel 27 [.agg (Cd.cs cd)] = some (.i .i64 ck)) ∧ (ck = 0 → OkC cd ∧ ∀ d,d ∈ cd.O → NfA cd d = true):=by
 obtain ⟨F,hF,-⟩:=Nlz cd 0
 obtain ⟨ck,h1,h2⟩:=NgC (F:=F) Nnx hwf hF
 exact ⟨ck,⟨F + 50,h1⟩,h2⟩
noncomputable def No8 (cd : Cd) (hwf : cd.wf) : Int:=Classical.choose (Nl9 cd hwf)
theorem Nki (cd : Cd) (hwf : cd.wf) : ∃ fuel,evP cfgR fuel 27 [.agg (Cd.cs cd)] = some (.i .i64 (No8 cd hwf)):=(Classical.choose_spec (Nl9 cd hwf)).1
theorem Nl8 (cd : Cd) (hwf : cd.wf) : No8 cd hwf = 0 → OkC cd ∧ ∀ d,d ∈ cd.O → NfA cd d = true:=(Classical.choose_spec (Nl9 cd hwf)).2
open Classical in
noncomputable def gCk (cd : Cd) (hwf : cd.wf) : List PV → Option PV:=fun args => if args = [.agg (Cd.cs cd)] then some (.i .i64 (No8 cd hwf)) else none
theorem Nny (cd : Cd) (hwf : cd.wf) (args : List PV) (r : PV) (h : gCk cd hwf args = some r) : ∃ fuel,evP cfgR fuel 27 args = some r:=by
 unfold gCk at h
 split at h
 ·rename_i e
  simp only [Sj] at h
  subst h; subst e
  exact Nki cd hwf
 ·cases h
theorem Nks {cfg : Cfg} {f : FuncId} (hx : cfg.ext f = none) {fuel : Nat} {args : List PV} {r : PV} (ho : NaG args = (args,{ sto:=.leaf,cnt:=1 })) (hc : ∀ st,NaX st r = some r) (h : ∃ r' st',NaB cfg fuel f args { sto:=.leaf,cnt:=1 } = some (r',st') ∧ r' = r) : evP cfg fuel f args = some r:=by
 obtain ⟨r',st',h1,h2⟩:=h
 exact Nhj hx ho ⟨r',st',h1,by rw [h2]; exact hc st'⟩
noncomputable def Npt (cd : Cd) (hwf : cd.wf) : FuncId → Option (List PV → Option PV):=fun f => if f = 13 then some gTrue else if f = 27 then some (gCk cd hwf) else No9 f
theorem Nmi {cd : Cd} {hwf : cd.wf} {Gl : Gmap} {m : Int} (hg : Gl 0 0 = some (.int .i64 m)) : ∀ f g,Npt cd hwf f = some g → Nbz Go.Proofs.Tryz.prog Gl f g:=by
 intro f g h
 unfold Npt at h
 split at h
 ·rename_i e; simp only [Sj] at h; subst h; subst e
  exact NjE (Nkf hg) Nfu
 split at h
 ·rename_i e; simp only [Sj] at h; subst h; subst e
  exact NjE (Nl5 hg) (Nny cd hwf)
 ·exact NiR hg f g h
end Go.Pe
namespace Go.Pe
open Go Go.Am Go.RowKit

end Go.Pe
namespace Go.Pe
open Go Go.Am Go.RowKit

theorem Nlr {ck : Int} {cd : Cd} {l : List Et} (h : trV ck cd l = true) (n : Nat) : trV ck cd (l.take n) = true:=by
 unfold trV at h ⊢
 simp only [Bool.and_eq_true,List.all_eq_true] at h ⊢
 exact ⟨h.1,fun e he => h.2 e (List.mem_of_mem_take he)⟩
theorem Nls {ck : Int} {cd : Cd} {l : List Et} (h : trV ck cd l = true) : ck = 0:=by
 unfold trV at h
 simp only [Bool.and_eq_true,beq_iff_eq] at h
 exact h.1
theorem NiY {l : List Et} {n : Nat} : (l.flatMap Et.cs).take (n * 5) = (l.take n).flatMap Et.cs:=by
 induction l generalizing n with
 | nil => simp
 | cons a r ih =>
   cases n with
   | zero => simp
   | succ n =>
     rw [List.take_succ_cons,List.flatMap_cons,List.flatMap_cons,← ih,List.take_append,Et.cs_len,List.take_of_length_le (by rw [Et.cs_len]; omega)]
     congr 2
     omega
theorem Nof (n : Nat) (cs : List PV) : slV false n cs = .fsl n cs:=by unfold slV; rw [if_neg Zaj]
theorem NjB {cfg : Cfg} (hc : CfgG cfg) {fuel : Nat} (hf : 1 ≤ fuel) (x : Int) {n : Int} (hn : 1 ≤ n ∧ n ≤ 4611686018427387904) : ∃ p : Nat,(p : Int) < n ∧ Naj cfg (NaB cfg fuel) 11 [.i .i64 x,.i .i64 n] = some (.i .i64 (p : Int)):=by
 obtain ⟨q,rfl⟩ : ∃ q,fuel = q + 1:=⟨fuel - 1,by omega⟩
 obtain ⟨r,st',h1,p,h2,h3⟩:=Nk7 (fuel:=q) (st:={ sto:=.leaf,cnt:=1 }) (x:=x) hc hn
 exact ⟨p,h2,Nau hc.n3 rfl (fun _ => rfl) ⟨r,st',h1,h3⟩⟩
theorem NqD (k : Nat) (l : List Et) : Nh4 (.i .i64 (l.length : Int)) [.i .i64 ((k : Nat) : Int)] = some (.i .i64 ((l.take k).length : Int)):=by
 unfold Nh4
 simp only [if_true,List.length_take]
 unfold Nh4
 congr 2
 split <;> omega
theorem NpZ (k : Nat) (l : List Et) : Ncw 5 none (some (.i .i64 ((l.take k).length : Int))) (.fsl l.length (l.flatMap Et.cs)) = some (.fsl (l.take k).length ((l.take k).flatMap Et.cs)):=by
 have h1 : (l.take k).length ≤ l.length:=by rw [List.length_take]; omega
 have h2 : (l.flatMap Et.cs).take ((l.take k).length * 5) = (l.take k).flatMap Et.cs:=by
  rw [NiY]
  congr 1
  rw [List.length_take]
  by_cases h : k ≤ l.length
  ·rw [Nat.min_eq_left h]
  ·rw [Nat.min_eq_right Zab,List.take_of_length_le (Nat.le_refl _),List.take_of_length_le Zab]
 have hE:=NaA Et.cs_len l
 unfold Ncw
 simp only [bound]
 rw [if_pos ⟨by omega,by omega⟩]
 simp only [Int.toNat_natCast,Nat.sub_zero,Nat.zero_mul,List.drop_zero]
 rw [if_pos hE,h2]
def Nck (f : Et → Et) (l : List Et) (i : Nat) : List Et:=(l.take i).map f ++ l.drop i
theorem NeU (f : Et → Et) (l : List Et) : Nck f l 0 = l:=by simp [Nck]
theorem Njg (f : Et → Et) (l : List Et) : Nck f l l.length = l.map f:=by simp [Nck]
theorem Njh (f : Et → Et) (l : List Et) {i : Nat} (h : i ≤ l.length) : (Nck f l i).length = l.length:=by
 unfold Nck
 rw [List.length_append,List.length_map,List.length_take,List.length_drop]
 omega
theorem NhB (f : Et → Et) (l : List Et) {i : Nat} (h : i < l.length) : (Nck f l i).flatMap Et.cs = ((l.take i).map f).flatMap Et.cs ++ (l[i].cs ++ (l.drop (i + 1)).flatMap Et.cs):=by
 unfold Nck
 rw [List.drop_eq_getElem_cons h,List.flatMap_append,List.flatMap_cons]
theorem NeT (f : Et → Et) (l : List Et) {i : Nat} (h : i < l.length) : (Nck f l (i + 1)).flatMap Et.cs = ((l.take i).map f).flatMap Et.cs ++ ((f l[i]).cs ++ (l.drop (i + 1)).flatMap Et.cs):=by
 unfold Nck
 rw [List.take_succ_eq_append_getElem h,List.map_append,List.flatMap_append,List.flatMap_append,List.append_assoc]
 simp
theorem Nh3 (f : Et → Et) (l : List Et) {i : Nat} (h : i < l.length) (hf : f l[i] = l[i]) : (Nck f l (i + 1)).flatMap Et.cs = (Nck f l i).flatMap Et.cs:=by
 rw [NeT f l h,NhB f l h,hf]
theorem Nji (f : Et → Et) (l : List Et) {i : Nat} (h : i ≤ l.length) : (((l.take i).map f).flatMap Et.cs).length = i * 5:=by
 rw [NaA Et.cs_len,List.length_map,List.length_take,Nat.min_eq_left h]
theorem Ne3 {f : Et → Et} {l : List Et} {i : Nat} (h : i < l.length) {q : Nat} (hq : q < 5) {v : PV} (hf : (f l[i]).cs = l[i].cs.take q ++ v :: l[i].cs.drop (q + 1)) : ((Nck f l i).flatMap Et.cs).take (i * 5 + q) ++ [v] ++ ((Nck f l i).flatMap Et.cs).drop (i * 5 + q + 1) = (Nck f l (i + 1)).flatMap Et.cs:=by
 have h1:=Nji f l (i:=i) Zab
 have hl : l[i].cs.length = 5:=rfl
 obtain ⟨A,hA⟩ : ∃ A,((l.take i).map f).flatMap Et.cs = A:=⟨_,rfl⟩
 obtain ⟨B,hB⟩ : ∃ B,(l.drop (i + 1)).flatMap Et.cs = B:=⟨_,rfl⟩
 rw [NhB f l h,NeT f l h,hf,hA,hB]
 rw [hA] at h1
 rw [List.take_append,h1,List.take_of_length_le Zab,show i * 5 + q - i * 5 = q by omega,List.take_append_of_le_length Zab]
 rw [List.drop_append,h1,List.drop_of_length_le Zab,show i * 5 + q + 1 - i * 5 = q + 1 by omega,List.drop_append_of_le_length Zab]
 simp
theorem NbC (f : Et → Et) (l : List Et) {i : Nat} (h : i ≤ l.length) : ((Nck f l i).flatMap Et.cs).length = l.length * 5:=by
 rw [NaA Et.cs_len,Njh f l h]
theorem NkI (l : List Et) : ((l.flatMap Et.cs).all PV.flat) = true:=by
 rw [List.all_eq_true]
 intro p hp
 obtain ⟨e,-,he⟩:=List.mem_flatMap.1 hp
 simp only [Et.cs,List.mem_cons,List.not_mem_nil,or_false] at he
 rcases he with rfl | rfl | rfl | rfl | rfl <;> rfl
theorem NkV {st : St} {l : List Et} {i : Nat} (h : i < l.length) : Na2 st 1 (.fptr (((l.flatMap Et.cs).drop (i * 5)).drop 1)) = some [.i .u8 (l[i].O.toNat : Int)]:=by
 rw [NbM Et.cs_len h]
 show cut? _ 0 1 = _; unfold cut?; rw [if_pos (by simp [Et.cs])]; rfl
theorem Ngf {st : St} {v : PV} {l : List Et} {n : Nat} (h : Own st 5 v n (l.flatMap Et.cs)) (hn : n = l.length) : ∃ z,Go.Pe.deep st 12 v = some (slV z l.length (l.flatMap Et.cs)):=by
 subst hn
 rcases h.deep (NkI l) with ⟨_,h0,h1,h2⟩ | h2
 ·exact ⟨true,by rw [h2,h0]; rfl⟩
 ·exact ⟨false,by rw [h2,Nof]⟩
theorem NnD (l : List Et) : (l.flatMap Et.cs).all PV.one = true:=by
 rw [List.all_eq_true]
 intro p hp
 obtain ⟨e,-,he⟩:=List.mem_flatMap.1 hp
 simp only [Et.cs,List.mem_cons,List.not_mem_nil,or_false] at he
 rcases he with rfl | rfl | rfl | rfl | rfl <;> rfl
theorem Nkd (st : St) (l : List Et) : cellsOf st 5 (.fsl l.length (l.flatMap Et.cs)) = some (l.length,l.flatMap Et.cs):=by
 have:=NaA Et.cs_len l
 unfold cellsOf
 simp only [this,if_true]
end Go.Pe
