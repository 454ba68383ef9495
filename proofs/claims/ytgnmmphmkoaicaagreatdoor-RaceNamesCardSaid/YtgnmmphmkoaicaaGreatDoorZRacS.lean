/-
 Races: what the further laws share. No condition.
-/
import Derived.Test.YtgnmmphmkoaicaaGreatDoorZRacN
import Derived.Test.YtgnmmphmkoaicaaGreatDoorZGrtA
import Derived.Test.YtgnmmphmkoaicaaGreatDoorZCoeF
set_option linter.unusedVariables false
set_option linter.unusedSimpArgs false
set_option maxHeartbeats 8000000
open Nat renaming reduceAdd → rA,reduceMul → rB,reduceLT → rC,reduceEqDiff → rD,reduceLeDiff → rE
namespace Go.Pe
open Go Go.Am Go.RowKit

theorem NjU (r : Nat × Nat × Nat) : (rcC r).length = 3:=rfl
theorem Nm2 {st : St} {l : List (Nat × Nat × Nat)} {i : Nat} (h : i < l.length) : Na2 st 3 (.fptr ((l.flatMap rcC).drop (i * 3))) = some [.i .i64 (l[i].1 : Int),.i .i64 (l[i].2.1 : Int),.i .i64 (l[i].2.2 : Int)]:=NbH NjU h
theorem Nlr {cfg : Cfg} (hf : cfg.fn 16 = some m16) {fuel : Nat} {st : St} {rs : List (Nat × Nat × Nat)} {z z' : Bool} (hl : rs.length + 2 ≤ fuel) (hb : rs.length ≤ reachBytes) :
 ∃ r st',NaC cfg (fuel + 1) 16 [slV z rs.length (rs.flatMap rcC),slV z' rs.length (rs.flatMap rcC)] st = some (r,st') ∧ r = .b true:=by
 refine Nay hf ?_
 delta m16 Qa Ql Qt Qk Qm
 have hrb : reachBytes = 140737488351232:=rfl
 have hlv:=Nav z rs.length (rs.flatMap rcC)
 have hlv':=Nav z' rs.length (rs.flatMap rcC)
 have hE:=Nax NjU rs
 have bn : ((rs.length : Int) != (rs.length : Int)) = false:=by simp
 obtain ⟨sto0,c0⟩:=st
 simp only [Nak]
 iterate 5
  (try rw [Z0])
  (try simp (maxSteps:=2000000) (disch:=first | omega | rfl | assumption) only [↓Yaa,Yab,Nae,Naa,rA,rB,rC,rD,reduceIte,unP,rE,Nag,Naf,hlv,hlv',bn])
 refine NaA (fun x => x.env.get 0 = slV z rs.length (rs.flatMap rcC) ∧ x.env.get 1 = slV z' rs.length (rs.flatMap rcC) ∧ x.env.get 12 = .i .i64 (rs.length : Int) ∧ x.env.get 13 = .i .i64 ((0 : Nat) : Int)) ?_ ?_
 ·exact ⟨Zad,Zad,Zad,Zad⟩
 rintro ⟨env,⟨sto,c⟩⟩ ⟨g0,g1,g12,g13⟩
 try simp only at g0 g1 g12 g13
 refine Z9 (k:=rs.length - 0) (fun m x => ∃ (i : Nat),m = rs.length - i ∧ x.env.get 0 = slV z rs.length (rs.flatMap rcC) ∧ x.env.get 1 = slV z' rs.length (rs.flatMap rcC) ∧ x.env.get 12 = .i .i64 (rs.length : Int) ∧ x.env.get 13 = .i .i64 (i : Int) ∧ (i ≤ rs.length)) ?_ ?_ Zaa
 ·clear g0 g1 g12 g13
  rintro m ⟨env,⟨sto,c⟩⟩ ⟨i,rfl,g0,g1,g12,g13,hi⟩
  try simp only at g0 g1 g12 g13
  by_cases hil : i < rs.length
  ·rw [Naq hil] at g0 g1
   have hld:=fun st => Nm2 (st:=st) hil
   have hq : Ngw [(0,0),(1,0),(2,0)] [.i .i64 (rs[i].1 : Int),.i .i64 (rs[i].2.1 : Int),.i .i64 (rs[i].2.2 : Int)] [.i .i64 (rs[i].1 : Int),.i .i64 (rs[i].2.1 : Int),.i .i64 (rs[i].2.2 : Int)] = some true:=by simp [Ngw,eq1]
   iterate 6
    (try rw [Z0])
    (try simp (maxSteps:=2000000) (disch:=first | omega | rfl | assumption) only [↓Yaa,Yab,Nae,Naa,rA,rB,rC,rD,reduceIte,unP,rE,g0,g1,g12,g13,hld,hE,hq,Option.map_some])
   exact ⟨rs.length - (i + 1),by omega,i + 1,rfl,(Naq hil).symm,(Naq hil).symm,rfl,by omega⟩
  ·skip
   iterate 5
    (try rw [Z0])
    (try simp (maxSteps:=2000000) (disch:=first | omega | rfl | assumption) only [↓Yaa,Yab,Nae,Naa,rA,rB,rC,rD,reduceIte,unP,rE,g0,g1,g12,g13])
   exact ⟨nofun,_,rfl,by simp only [Naw,Yac,if_true]⟩
 ·skip
  refine ⟨0,rfl,?_,?_,?_,?_,Zac⟩ <;> first | with_reducible rfl | with_reducible assumption | (simp [Yac,g0,g1,g12,g13] <;> omega)
end Go.Pe
set_option maxRecDepth 100000
namespace Go.Pe
open Go Go.Am Go.RowKit

theorem NjQ : fvP cfgNx 400 13 [] = some (.b true):=by kernel_rfl
theorem Nfw (args : List PV) (r : PV) (h : gTrue args = some r) : ∃ fuel,evP cfgNx fuel 13 args = some r:=by
 unfold gTrue at h
 split at h
 ·rw [← h]
  refine ⟨400,?_⟩
  have:=NjQ
  rwa [NlU] at this
 ·cases h
def Npw : FuncId → Option (List PV → Option PV):=fun f => if f = 52 then some gNext else if f = 75 then some gJoin else if f = 72 then some gTick else none
theorem NiY {Gl : Gmap} {m : Int} (hg : Gl 0 0 = some (.int .i64 m)) : ∀ f g,Npw f = some g → Nbz Go.Proofs.Tryz.prog Gl f g:=by
 intro f g h
 unfold Npw at h
 split at h
 ·rename_i e; simp only [Sj] at h; subst h; subst e
  exact Nga (Nhg hg)
 split at h
 ·rename_i e; simp only [Sj] at h; subst h; subst e
  exact NmX
 split at h
 ·rename_i e; simp only [Sj] at h; subst h; subst e
  exact Nnv
 ·cases h
noncomputable def cfgR : Cfg:={ fn:=fun f => NcZ f tblL,ext:=Npw }
theorem Nmn {Gl : Gmap} {m : Int} (hg : Gl 0 0 = some (.int .i64 m)) : CfgOK Go.Proofs.Tryz.prog Gl cfgR:=Nfe NfA (NiY hg)
theorem NnT : CfgZ cfgR where
 nx:=by rfl
 fn:=fun _ _ h => h
 jn:=by rfl
 tk:=by rfl
 x1:=by rfl
 x2:=by rfl
 x3:=by rfl
 x4:=by rfl
 x5:=by rfl
 x6:=by rfl
 x7:=by rfl
 x8:=by rfl
 x9:=by rfl
 y1:=by rfl
 y2:=by rfl
 y3:=by rfl
 y4:=by rfl
 y5:=by rfl
 y6:=by rfl
 z1:=by rfl
 z2:=by rfl
 z3:=by rfl
 z4:=by rfl
 z5:=by rfl
 z6:=by rfl
 z7:=by rfl
 z8:=by rfl
 r1:=by rfl
 r2:=by rfl
 r3:=by rfl
 r4:=by rfl
 r5:=by rfl
 r6:=by rfl
 r7:=by rfl
 r8:=by rfl
 a1:=by rfl
 a2:=by rfl
 a3:=by rfl
 a4:=by rfl
 k1:=by rfl
 k2:=by rfl
 k3:=by rfl
 k4:=by rfl
 k5:=by rfl
 k6:=by rfl
 k7:=by rfl
 k8:=by rfl
 k9:=by rfl
theorem NcS {α : Type} (f : α → Nat) : ∀ l : List α,∃ B,∀ a,a ∈ l → f a ≤ B
 | [] => ⟨0,by simp⟩
 | a :: r => by
   obtain ⟨B,hB⟩:=NcS f r
   refine ⟨f a + B,fun b hb => ?_⟩
   rcases List.mem_cons.1 hb with rfl | hb
   ·omega
   ·have:=hB b hb; omega
theorem NlP (cd : Cd) (M : Nat) : ∃ F,CdF cd F ∧ M ≤ F:=by
 obtain ⟨B1,h1⟩:=NcS (fun t : Tx => t.C.length) cd.T
 obtain ⟨B2,h2⟩:=NcS (fun t : Tx => Classical.choose (NcS (fun x : In => Exs.size x.A + x.A.length + 100) t.C)) cd.T
 refine ⟨cd.O.length + cd.T.length + B1 + B2 + M,⟨by omega,by omega,fun t ht => by have:=h1 t ht; (try simp only at this); omega,fun t ht x hx => ?_⟩,by omega⟩
 have a1:=Classical.choose_spec (NcS (fun x : In => Exs.size x.A + x.A.length + 100) t.C) x hx
 have a2:=h2 t ht
 try simp only at a1 a2
 omega
theorem CdF.up {cd : Cd} {F F' : Nat} (h : CdF cd F) (hF : F ≤ F') : CdF cd F':=⟨Nat.le_trans h.o hF,Nat.le_trans h.t hF,fun t ht => Nat.le_trans (h.c t ht) hF,fun t ht x hx => Nat.le_trans (h.a t ht x hx) hF⟩
theorem Nmr (cd : Cd) (hwf : cd.wf) : ∃ ck : Int,(∃ fuel,evP cfgR fuel 27 [.agg (Cd.cs cd)] = some (.i .i64 ck)) ∧ (ck = 0 → OkC cd ∧ ∀ d,d ∈ cd.O → NfC cd d = true):=by
 obtain ⟨F,hF,-⟩:=NlP cd 0
 obtain ⟨ck,h1,h2⟩:=NgF (F:=F) NnT hwf hF
 exact ⟨ck,⟨F + 50,h1⟩,h2⟩
noncomputable def Npv (cd : Cd) (hwf : cd.wf) : Int:=Classical.choose (Nmr cd hwf)
theorem Nku (cd : Cd) (hwf : cd.wf) : ∃ fuel,evP cfgR fuel 27 [.agg (Cd.cs cd)] = some (.i .i64 (Npv cd hwf)):=(Classical.choose_spec (Nmr cd hwf)).1
theorem Nmq (cd : Cd) (hwf : cd.wf) : Npv cd hwf = 0 → OkC cd ∧ ∀ d,d ∈ cd.O → NfC cd d = true:=(Classical.choose_spec (Nmr cd hwf)).2
open Classical in
noncomputable def gCk (cd : Cd) (hwf : cd.wf) : List PV → Option PV:=fun args => if args = [.agg (Cd.cs cd)] then some (.i .i64 (Npv cd hwf)) else none
theorem NnV (cd : Cd) (hwf : cd.wf) (args : List PV) (r : PV) (h : gCk cd hwf args = some r) : ∃ fuel,evP cfgR fuel 27 args = some r:=by
 unfold gCk at h
 split at h
 ·rename_i e
  simp only [Sj] at h
  subst h; subst e
  exact Nku cd hwf
 ·cases h
theorem NkE {cfg : Cfg} {f : FuncId} (hx : cfg.ext f = none) {fuel : Nat} {args : List PV} {r : PV} (ho : NaF args = (args,{ sto:=.leaf,cnt:=1 })) (hc : ∀ st,NaX st r = some r) (h : ∃ r' st',NaC cfg fuel f args { sto:=.leaf,cnt:=1 } = some (r',st') ∧ r' = r) : evP cfg fuel f args = some r:=by
 obtain ⟨r',st',h1,h2⟩:=h
 exact Nhn hx ho ⟨r',st',h1,by rw [h2]; exact hc st'⟩
noncomputable def NpP (cd : Cd) (hwf : cd.wf) : FuncId → Option (List PV → Option PV):=fun f => if f = 13 then some gTrue else if f = 27 then some (gCk cd hwf) else Npw f
theorem NmB {cd : Cd} {hwf : cd.wf} {Gl : Gmap} {m : Int} (hg : Gl 0 0 = some (.int .i64 m)) : ∀ f g,NpP cd hwf f = some g → Nbz Go.Proofs.Tryz.prog Gl f g:=by
 intro f g h
 unfold NpP at h
 split at h
 ·rename_i e; simp only [Sj] at h; subst h; subst e
  exact NjL (Nkr hg) Nfw
 split at h
 ·rename_i e; simp only [Sj] at h; subst h; subst e
  exact NjL (Nmn hg) (NnV cd hwf)
 ·exact NiY hg f g h
end Go.Pe
namespace Go.Pe
open Go Go.Am Go.RowKit

theorem NlH {ck : Int} {cd : Cd} {l : List Et} (h : trV ck cd l = true) (n : Nat) : trV ck cd (l.take n) = true:=by
 unfold trV at h ⊢
 simp only [Bool.and_eq_true,List.all_eq_true] at h ⊢
 exact ⟨h.1,fun e he => h.2 e (List.mem_of_mem_take he)⟩
theorem NlI {ck : Int} {cd : Cd} {l : List Et} (h : trV ck cd l = true) : ck = 0:=by
 unfold trV at h
 simp only [Bool.and_eq_true,beq_iff_eq] at h
 exact h.1
theorem NoI {ck : Int} {cd : Cd} {l : List Et} (h : trV ck cd l = true) : ∀ e,e ∈ l → 0 ≤ e.T ∧ e.T < cd.T.length:=by
 intro e he
 unfold trV at h
 simp only [Bool.and_eq_true,List.all_eq_true] at h
 have:=h.2 e he
 unfold etB at this
 simp only [Bool.and_eq_true,decide_eq_true_eq] at this
 omega
theorem Nnx {ck : Int} {cd : Cd} {l : List Et} (h : trV ck cd l = true) {f : Et → Et} (hf : ∀ e,etB cd e = true → etB cd (f e) = true) : trV ck cd (l.map f) = true:=by
 unfold trV at h ⊢
 simp only [Bool.and_eq_true,List.all_eq_true] at h ⊢
 refine ⟨h.1,fun e he => ?_⟩
 obtain ⟨e0,h0,rfl⟩:=List.mem_map.1 he
 exact hf _ (h.2 e0 h0)
theorem Ni5 {l : List Et} {n : Nat} : (l.flatMap Et.cs).take (n * 5) = (l.take n).flatMap Et.cs:=by
 induction l generalizing n with
 | nil => simp
 | cons a r ih =>
   cases n with
   | zero => simp
   | succ n =>
     rw [List.take_succ_cons,List.flatMap_cons,List.flatMap_cons,← ih,List.take_append,Et.cs_len,List.take_of_length_le (by rw [Et.cs_len]; omega)]
     congr 2
     omega
theorem Nlx (n : Nat) (cs : List PV) : slV false n cs = .fsl n cs:=by unfold slV; rw [if_neg Zaj]
theorem NjI {cfg : Cfg} (hc : CfgG cfg) {fuel : Nat} (hf : 1 ≤ fuel) (x : Int) {n : Int} (hn : 1 ≤ n ∧ n ≤ 4611686018427387904) : ∃ p : Nat,(p : Int) < n ∧ Naj cfg (NaC cfg fuel) 11 [.i .i64 x,.i .i64 n] = some (.i .i64 (p : Int)):=by
 obtain ⟨q,rfl⟩ : ∃ q,fuel = q + 1:=⟨fuel - 1,by omega⟩
 obtain ⟨r,st',h1,p,h2,h3⟩:=Nli (fuel:=q) (st:={ sto:=.leaf,cnt:=1 }) (x:=x) hc hn
 exact ⟨p,h2,Nas hc.n3 rfl (fun _ => rfl) ⟨r,st',h1,h3⟩⟩
theorem NqZ (k : Nat) (l : List Et) : Nh8 (.i .i64 (l.length : Int)) [.i .i64 ((k : Nat) : Int)] = some (.i .i64 ((l.take k).length : Int)):=by
 unfold Nh8
 simp only [if_true,List.length_take]
 unfold Nh8
 congr 2
 split <;> omega
theorem Nql (k : Nat) (l : List Et) : Ncv 5 none (some (.i .i64 ((l.take k).length : Int))) (.fsl l.length (l.flatMap Et.cs)) = some (.fsl (l.take k).length ((l.take k).flatMap Et.cs)):=by
 have h1 : (l.take k).length ≤ l.length:=by rw [List.length_take]; omega
 have h2 : (l.flatMap Et.cs).take ((l.take k).length * 5) = (l.take k).flatMap Et.cs:=by
  rw [Ni5]
  congr 1
  rw [List.length_take]
  by_cases h : k ≤ l.length
  ·rw [Nat.min_eq_left h]
  ·rw [Nat.min_eq_right Zaa,List.take_of_length_le (Nat.le_refl _),List.take_of_length_le Zaa]
 have hE:=Nax Et.cs_len l
 unfold Ncv
 simp only [bound]
 rw [if_pos ⟨by omega,by omega⟩]
 simp only [Int.toNat_natCast,Nat.sub_zero,Nat.zero_mul,List.drop_zero]
 rw [if_pos hE,h2]
def NcG (f : Et → Et) (l : List Et) (i : Nat) : List Et:=(l.take i).map f ++ l.drop i
theorem Nh7 (f : Et → Et) (l : List Et) : NcG f l 0 = l:=by simp [NcG]
theorem Njl (f : Et → Et) (l : List Et) : NcG f l l.length = l.map f:=by simp [NcG]
theorem Njm (f : Et → Et) (l : List Et) {i : Nat} (h : i ≤ l.length) : (NcG f l i).length = l.length:=by
 unfold NcG
 rw [List.length_append,List.length_map,List.length_take,List.length_drop]
 omega
theorem NhF (f : Et → Et) (l : List Et) {i : Nat} (h : i < l.length) : (NcG f l i).flatMap Et.cs = ((l.take i).map f).flatMap Et.cs ++ (l[i].cs ++ (l.drop (i + 1)).flatMap Et.cs):=by
 unfold NcG
 rw [List.drop_eq_getElem_cons h,List.flatMap_append,List.flatMap_cons]
theorem Nh6 (f : Et → Et) (l : List Et) {i : Nat} (h : i < l.length) : (NcG f l (i + 1)).flatMap Et.cs = ((l.take i).map f).flatMap Et.cs ++ ((f l[i]).cs ++ (l.drop (i + 1)).flatMap Et.cs):=by
 unfold NcG
 rw [List.take_succ_eq_append_getElem h,List.map_append,List.flatMap_append,List.flatMap_append,List.append_assoc]
 simp
theorem Nej (f : Et → Et) (l : List Et) {i : Nat} (h : i ≤ l.length) : (((l.take i).map f).flatMap Et.cs).length = i * 5:=by
 rw [Nax Et.cs_len,List.length_map,List.length_take,Nat.min_eq_left h]
theorem Nik {f : Et → Et} {l : List Et} {i : Nat} (h : i < l.length) {q : Nat} (hq : q < 5) {v : PV} (hf : (f l[i]).cs = l[i].cs.take q ++ v :: l[i].cs.drop (q + 1)) : ((NcG f l i).flatMap Et.cs).take (i * 5 + q) ++ [v] ++ ((NcG f l i).flatMap Et.cs).drop (i * 5 + q + 1) = (NcG f l (i + 1)).flatMap Et.cs:=by
 have h1:=Nej f l (i:=i) Zaa
 have hl : l[i].cs.length = 5:=rfl
 obtain ⟨A,hA⟩ : ∃ A,((l.take i).map f).flatMap Et.cs = A:=⟨_,rfl⟩
 obtain ⟨B,hB⟩ : ∃ B,(l.drop (i + 1)).flatMap Et.cs = B:=⟨_,rfl⟩
 rw [NhF f l h,Nh6 f l h,hf,hA,hB]
 rw [hA] at h1
 rw [List.take_append,h1,List.take_of_length_le Zaa,show i * 5 + q - i * 5 = q by omega,List.take_append_of_le_length Zaa]
 rw [List.drop_append,h1,List.drop_of_length_le Zaa,show i * 5 + q + 1 - i * 5 = q + 1 by omega,List.drop_append_of_le_length Zaa]
 simp
theorem Nei (f : Et → Et) (l : List Et) {i : Nat} (h : i ≤ l.length) : ((NcG f l i).flatMap Et.cs).length = l.length * 5:=by
 rw [Nax Et.cs_len,Njm f l h]
theorem NkU (l : List Et) : ((l.flatMap Et.cs).all PV.flat) = true:=by
 rw [List.all_eq_true]
 intro p hp
 obtain ⟨e,-,he⟩:=List.mem_flatMap.1 hp
 simp only [Et.cs,List.mem_cons,List.not_mem_nil,or_false] at he
 rcases he with rfl | rfl | rfl | rfl | rfl <;> rfl
theorem NjG {st : St} {v : PV} {l : List Et} {n : Nat} (h : Own st 5 v n (l.flatMap Et.cs)) (hn : n = l.length) : ∃ z,Go.Pe.deep st 12 v = some (slV z l.length (l.flatMap Et.cs)):=by
 subst hn
 rcases h.deep (NkU l) with ⟨_,h0,h1,h2⟩ | h2
 ·exact ⟨true,by rw [h2,h0]; rfl⟩
 ·exact ⟨false,by rw [h2,Nlx]⟩
theorem Nn1 (l : List Et) : (l.flatMap Et.cs).all PV.one = true:=by
 rw [List.all_eq_true]
 intro p hp
 obtain ⟨e,-,he⟩:=List.mem_flatMap.1 hp
 simp only [Et.cs,List.mem_cons,List.not_mem_nil,or_false] at he
 rcases he with rfl | rfl | rfl | rfl | rfl <;> rfl
theorem Nkp (st : St) (l : List Et) : cellsOf st 5 (.fsl l.length (l.flatMap Et.cs)) = some (l.length,l.flatMap Et.cs):=by
 have:=Nax Et.cs_len l
 unfold cellsOf
 simp only [this,if_true]
end Go.Pe
