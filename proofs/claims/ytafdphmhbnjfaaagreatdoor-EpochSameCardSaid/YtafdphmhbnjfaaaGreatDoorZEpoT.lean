/-
 Epochs: what the laws share: lists of races, what is kept, the same. No condition.
-/
import Derived.Test.YtafdphmhbnjfaaaGreatDoorZGrtE
import Derived.Test.YtafdphmhbnjfaaaGreatDoorZCoeF
import Derived.Test.YtafdphmhbnjfaaaGreatDoorZRacN
import Derived.Test.YtafdphmhbnjfaaaGreatDoorZEpoG
set_option linter.unusedVariables false
set_option linter.unusedSimpArgs false
set_option maxRecDepth 100000
open Nat renaming reduceAdd → rA,reduceMul → rB,reduceLT → rC,reduceEqDiff → rD,reduceLeDiff → rE
namespace Go.Pe
open Go Go.Am Go.RowKit
theorem NlM:fvP cfgNx 400 9 []=some (.b true):=by kernel_rfl
theorem NgE(args:List PV)(r:PV)(h:gTrue args=some r):∃ fuel,evP cfgNx fuel 9 args=some r:=by
 unfold gTrue at h;split at h
 ·rw[←h];refine⟨400,?_⟩;have:=NlM;rwa[Nm4]at this
 ·cases h
def NqR:FuncId→Option (List PV→Option PV):=fun f=>if f=60 then some gNext else if f=87 then some gJoin else if f=56 then some gTick else none
theorem NjZ{Gl:Gmap}{m:Int}(hg:Gl 0 0=some (.int .i64 m)):∀ f g,NqR f=some g→NbP Go.Proofs.Tryz.prog Gl f g:=by
 intro f g h;unfold NqR at h;split at h
 ·rename_i e;simp only[Sj]at h;subst h;subst e;exact NgW (Nh6 hg)
 split at h
 ·rename_i e;simp only[Sj]at h;subst h;subst e;exact Noa
 split at h
 ·rename_i e;simp only[Sj]at h;subst h;subst e;exact NoN
 ·cases h
noncomputable def cfgR:Cfg:={ fn:=fun f=>Ndx f tblL,ext:=NqR }
theorem Nnw{Gl:Gmap}{m:Int}(hg:Gl 0 0=some (.int .i64 m)):CfgOK Go.Proofs.Tryz.prog Gl cfgR:=Nf0 Ngn (NjZ hg)
theorem Npc:CfgZ cfgR where
 nx:=by rfl
 fn:=fun _ _ h=>h
 jn:=by rfl
 tk:=by rfl
 x1:=by rfl
 x2:=by rfl
 x3:=by rfl
 x4:=by rfl
 x5:=by rfl
 x6:=by rfl
 x7:=by rfl
 x8:=by rfl
 x9:=by rfl
 y1:=by rfl
 y2:=by rfl
 y3:=by rfl
 y4:=by rfl
 y5:=by rfl
 y6:=by rfl
 z1:=by rfl
 z2:=by rfl
 z3:=by rfl
 z4:=by rfl
 z5:=by rfl
 z6:=by rfl
 z7:=by rfl
 z8:=by rfl
 r1:=by rfl
 r2:=by rfl
 r3:=by rfl
 r4:=by rfl
 r5:=by rfl
 r6:=by rfl
 r7:=by rfl
 r8:=by rfl
 a1:=by rfl
 a2:=by rfl
 a3:=by rfl
 a4:=by rfl
 k1:=by rfl
 k2:=by rfl
 k3:=by rfl
 k4:=by rfl
 k5:=by rfl
 k6:=by rfl
 k7:=by rfl
 k8:=by rfl
 k9:=by rfl
theorem Ndp{α:Type}(f:α→Nat):∀ l:List α,∃ B,∀ a,a∈l→f a≤B
 |[]=>⟨0,by simp⟩
 |a::r=>by
   obtain⟨B,hB⟩:=Ndp f r;refine⟨f a+B,fun b hb=>?_⟩;rcases List.mem_cons.1 hb with rfl|hb
   ·omega
   ·have:=hB b hb;omega
theorem NmZ(cd:Cd)(M:Nat):∃ F,CdF cd F∧M≤F:=by
 obtain⟨B1,h1⟩:=Ndp (fun t:Tx=>t.C.length) cd.T;obtain⟨B2,h2⟩:=Ndp (fun t:Tx=>Classical.choose (Ndp (fun x:In=>Exs.size x.A+x.A.length+100) t.C)) cd.T;refine⟨cd.O.length+cd.T.length+B1+B2+M,⟨by omega,by omega,fun t ht=>by have:=h1 t ht;(try simp only at this);omega,fun t ht x hx=>?_⟩,by omega⟩;have a1:=Classical.choose_spec (Ndp (fun x:In=>Exs.size x.A+x.A.length+100) t.C) x hx;have a2:=h2 t ht;try simp only at a1 a2
 omega
theorem CdF.up{cd:Cd}{F F':Nat}(h:CdF cd F)(hF:F≤F'):CdF cd F':=⟨Nat.le_trans h.o hF,Nat.le_trans h.t hF,fun t ht=>Nat.le_trans (h.c t ht) hF,fun t ht x hx=>Nat.le_trans (h.a t ht x hx) hF⟩
theorem NnA(cd:Cd)(hwf:cd.wf):∃ ck:Int,(∃ fuel,evP cfgR fuel 47 [.agg (Cd.cs cd)]=some (.i .i64 ck))∧(ck=0→OkC cd∧∀ d,d∈cd.O→Ngp cd d=true):=by
 obtain⟨F,hF,-⟩:=NmZ cd 0;obtain⟨ck,h1,h2⟩:=Nht (F:=F) Npc hwf hF;exact⟨ck,⟨F+50,h1⟩,h2⟩
noncomputable def NqQ(cd:Cd)(hwf:cd.wf):Int:=Classical.choose (NnA cd hwf)
theorem NlA(cd:Cd)(hwf:cd.wf):∃ fuel,evP cfgR fuel 47 [.agg (Cd.cs cd)]=some (.i .i64 (NqQ cd hwf)):=(Classical.choose_spec (NnA cd hwf)).1
theorem Nnz(cd:Cd)(hwf:cd.wf):NqQ cd hwf=0→OkC cd∧∀ d,d∈cd.O→Ngp cd d=true:=(Classical.choose_spec (NnA cd hwf)).2
open Classical in
noncomputable def gCk(cd:Cd)(hwf:cd.wf):List PV→Option PV:=fun args=>if args=[.agg (Cd.cs cd)]then some (.i .i64 (NqQ cd hwf))else none
theorem Npe(cd:Cd)(hwf:cd.wf)(args:List PV)(r:PV)(h:gCk cd hwf args=some r):∃ fuel,evP cfgR fuel 47 args=some r:=by
 unfold gCk at h;split at h
 ·rename_i e;simp only[Sj]at h;subst h;subst e;exact NlA cd hwf
 ·cases h
theorem NlN{cfg:Cfg}{f:FuncId}(hx:cfg.ext f=none){fuel:Nat}{args:List PV}{r:PV}(ho:NaS args=(args,{ sto:=.leaf,cnt:=1 }))(hc:∀ st,NaX st r=some r)(h:∃ r' st',NaI cfg fuel f args { sto:=.leaf,cnt:=1 }=some (r',st')∧r'=r):evP cfg fuel f args=some r:=by
 obtain⟨r',st',h1,h2⟩:=h;exact NeL hx ho ⟨r',st',h1,by rw[h2];exact hc st'⟩
noncomputable def Nrb(cd:Cd)(hwf:cd.wf):FuncId→Option (List PV→Option PV):=fun f=>if f=9 then some gTrue else if f=47 then some (gCk cd hwf)else NqR f
theorem NnM{cd:Cd}{hwf:cd.wf}{Gl:Gmap}{m:Int}(hg:Gl 0 0=some (.int .i64 m)):∀ f g,Nrb cd hwf f=some g→NbP Go.Proofs.Tryz.prog Gl f g:=by
 intro f g h;unfold Nrb at h;split at h
 ·rename_i e;simp only[Sj]at h;subst h;subst e;exact NkP (Nlx hg) NgE
 split at h
 ·rename_i e;simp only[Sj]at h;subst h;subst e;exact NkP (Nnw hg) (Npe cd hwf)
 ·exact NjZ hg f g h
theorem NoD(r:Nat×Nat×Nat):(rcC r).length=3:=rfl
theorem Nj5{l:List Et}{n:Nat}:(l.flatMap Et.cs).take (n * 5)=(l.take n).flatMap Et.cs:=by
 induction l generalizing n with
 |nil=>simp
 |cons a r ih =>
   cases n with
   |zero=>simp
   |succ n =>
     rw[List.take_succ_cons,List.flatMap_cons,List.flatMap_cons,←ih,List.take_append,Et.cs_len,List.take_of_length_le (by rw[Et.cs_len];omega)]
     congr 2
     omega
theorem Np0(n:Nat)(cs:List PV):slV false n cs=.fsl n cs:=by unfold slV;rw[if_neg Zag]
theorem Nsn(k:Nat)(l:List Et):Njf (.i .i64 (l.length:Int)) [.i .i64 ((k:Nat):Int)]=some (.i .i64 ((l.take k).length:Int)):=by
 unfold Njf;simp only[if_true,List.length_take];unfold Njf
 congr 2
 split<;>omega
theorem NrJ(k:Nat)(l:List Et):Ncu 5 none (some (.i .i64 ((l.take k).length:Int))) (.fsl l.length (l.flatMap Et.cs))=some (.fsl (l.take k).length ((l.take k).flatMap Et.cs)):=by
 have h1:(l.take k).length≤l.length:=by rw[List.length_take];omega
 have h2:(l.flatMap Et.cs).take ((l.take k).length * 5)=(l.take k).flatMap Et.cs:=by
  rw[Nj5]
  congr 1
  rw[List.length_take];by_cases h:k≤l.length
  ·rw[Nat.min_eq_left h]
  ·rw[Nat.min_eq_right Zaa,List.take_of_length_le (Nat.le_refl _),List.take_of_length_le Zaa]
 have hE:=NaH Et.cs_len l;unfold Ncu;simp only[bound];rw[if_pos ⟨by omega,by omega⟩];simp only[Int.toNat_natCast,Nat.sub_zero,Nat.zero_mul,List.drop_zero];rw[if_pos hE,h2]
end Go.Pe
set_option maxHeartbeats 8000000
namespace Go.Pe
open Go Go.Am Go.RowKit
section
variable {st:St}{z z':Bool}
theorem NpT(r:Nat×Nat):(NdZ r).length=2:=rfl
theorem Nmg{l:List (Nat×Nat)}{i:Nat}(h:i<l.length):Nbk st 2 (.fptr ((l.flatMap NdZ).drop (i * 2)))=some [.i .i64 (l[i].1:Int),.i .i64 (l[i].2:Int)]:=Nb0 NpT h
theorem NmC{cfg:Cfg}(hf:cfg.fn 15=some m15){fuel:Nat}{rs:List (Nat×Nat)}(hl:rs.length+2≤fuel)(hb:rs.length≤reachBytes) :
 ∃ r st',NaI cfg (fuel+1) 15 [slV z rs.length (rs.flatMap NdZ),slV z' rs.length (rs.flatMap NdZ)] st=some (r,st')∧r=.b true:=by
 refine NaB hf ?_;delta m15 Qa Ql Qt Qk Qm Qi Qo;have hrb:reachBytes=140737488351232:=rfl;have hlv:=NaG z rs.length (rs.flatMap NdZ);have hlv':=NaG z' rs.length (rs.flatMap NdZ);have hE:=NaH NpT rs;have bn:((rs.length:Int) != (rs.length:Int))=false:=by simp
 obtain⟨sto0,c0⟩:=st;simp only[Nal]
 iterate 5
  (try rw[Z0]);(try simp(maxSteps:=9^7)(disch:=first|omega|rfl|assumption)only[↓Yaa,Yab,Nae,Naa,rA,rB,rC,rD,reduceIte,unP,rE,Nag,Naf,hlv,hlv',bn])
 refine NaF (fun x=>x.env.get 0=slV z rs.length (rs.flatMap NdZ)∧x.env.get 1=slV z' rs.length (rs.flatMap NdZ)∧x.env.get 12=.i .i64 (rs.length:Int)∧x.env.get 13=.i .i64 ((0:Nat):Int)) ?_ ?_
 ·exact⟨Zab,Zab,Zab,Zab⟩
 rintro⟨env,⟨sto,c⟩⟩ ⟨g0,g1,g12,g13⟩;try simp only at g0 g1 g12 g13
 refine Z9 (k:=rs.length - 0) (fun m x=>∃ (i:Nat),m=rs.length - i∧x.env.get 0=slV z rs.length (rs.flatMap NdZ)∧x.env.get 1=slV z' rs.length (rs.flatMap NdZ)∧x.env.get 12=.i .i64 (rs.length:Int)∧x.env.get 13=.i .i64 (i:Int)∧(i≤rs.length)) ?_ ?_ Zaa
 ·clear g0 g1 g12 g13;rintro m ⟨env,⟨sto,c⟩⟩ ⟨i,rfl,g0,g1,g12,g13,hi⟩;try simp only at g0 g1 g12 g13
  by_cases hil:i<rs.length
  ·rw[Nay hil]at g0 g1;have hld:=fun st=>Nmg (st:=st) hil;have hq:Nhj [(0,0),(1,0)] [.i .i64 (rs[i].1:Int),.i .i64 (rs[i].2:Int)] [.i .i64 (rs[i].1:Int),.i .i64 (rs[i].2:Int)]=some true:=by simp[Nhj,eq1]
   iterate 6
    (try rw[Z0]);(try simp(maxSteps:=9^7)(disch:=first|omega|rfl|assumption)only[↓Yaa,Yab,Nae,Naa,rA,rB,rC,rD,reduceIte,unP,rE,g0,g1,g12,g13,hld,hE,hq,Option.map_some])
   exact⟨rs.length - (i+1),by omega,i+1,rfl,(Nay hil).symm,(Nay hil).symm,rfl,by omega⟩
  ·skip
   iterate 5
    (try rw[Z0]);(try simp(maxSteps:=9^7)(disch:=first|omega|rfl|assumption)only[↓Yaa,Yab,Nae,Naa,rA,rB,rC,rD,reduceIte,unP,rE,g0,g1,g12,g13])
   exact⟨nofun,_,rfl,by simp only[NaC,Yad,if_true]⟩
 ·skip
  refine⟨0,rfl,?_,?_,?_,?_,?_⟩<;>first|with_reducible rfl|with_reducible assumption|(simp[Yad,g0,g1,g12,g13]<;>omega)|assumption|rfl|omega|(simp only[Z0L_,Naw];omega)|(simp;omega)|(simp;done)
theorem NkL{v:PV}{n:Nat}{rs:List (Nat×Nat)}(h:Own st 2 v n (rs.flatMap NdZ))(hn:n=rs.length):∃ z,Go.Pe.deep st 12 v=some (slV z rs.length (rs.flatMap NdZ)):=by
 subst hn;rcases h.deep (NdA rs)with⟨_,h0,h1,h2⟩|h2
 ·exact⟨true,by rw[h2,h0];rfl⟩
 ·exact⟨false,by rw[h2,Np0]⟩
theorem Nmv(rs:List (Nat×Nat)):OutV (NoW rs) 2 rs.length (rs.flatMap NdZ):=by
 unfold NoW;split
 ·rename_i h;rw[h];exact .inl ⟨rfl,rfl,rfl⟩
 ·exact .inr rfl
theorem Nmt(rs:List (Nat×Nat)):clO (rs.flatMap NdZ)=true:=by
 unfold clO;rw[List.all_eq_true];intro p hp;obtain⟨e,-,he⟩:=List.mem_flatMap.1 hp;simp only[NdZ,List.mem_cons,List.not_mem_nil,or_false]at he;rcases he with rfl|rfl<;>rfl
theorem Nmw(rs:List (Nat×Nat×Nat)):OutV (NoY rs) 3 rs.length (rs.flatMap rcC):=by
 unfold NoY;split
 ·rename_i h;rw[h];exact .inl ⟨rfl,rfl,rfl⟩
 ·exact .inr rfl
theorem NoC(rs:List (Nat×Nat×Nat)):clO (rs.flatMap rcC)=true:=by
 unfold clO;rw[List.all_eq_true];intro p hp;obtain⟨e,-,he⟩:=List.mem_flatMap.1 hp;simp only[rcC,List.mem_cons,List.not_mem_nil,or_false]at he;rcases he with rfl|rfl|rfl<;>rfl
theorem NkK{n m:Nat}{a b:List PV}:NaS [slV z n a,slV z' m b]=([slV z n a,slV z' m b],{ sto:=.leaf,cnt:=1 }):=by
 unfold slV;split<;>split<;>rfl
theorem Nk4{cfg:Cfg}(hf:cfg.fn 15=some m15)(hx:cfg.ext 15=none){fuel:Nat}{rs:List (Nat×Nat)}(hl:rs.length+2≤fuel)(hb:rs.length≤reachBytes) :
 Nai cfg (NaI cfg (fuel+1)) 15 [slV z rs.length (rs.flatMap NdZ),slV z' rs.length (rs.flatMap NdZ)]=some (.b true) :=
 NaE hx NkK (fun _=>rfl) (NmC hf hl hb)
theorem NoE{rs:List (Nat×Nat×Nat)}{i:Nat}(h:i<rs.length):List.take 3 (List.drop (i * 3) (rs.flatMap rcC))=[.i .i64 (rs[i].1:Int),.i .i64 (rs[i].2.1:Int),.i .i64 (rs[i].2.2:Int)]:=by
 rw[NbV NoD h];rfl
end
end Go.Pe
