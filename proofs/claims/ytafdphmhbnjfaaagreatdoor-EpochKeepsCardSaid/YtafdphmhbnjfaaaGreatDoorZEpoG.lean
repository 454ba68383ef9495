/-
 Epochs: what is detected, and told: walked. No condition.
-/
import Derived.Test.YtafdphmhbnjfaaaGreatDoorZEpoF
set_option linter.unusedVariables false
set_option linter.unusedSimpArgs false
set_option maxHeartbeats 8000000
open Nat renaming reduceAdd → rA,reduceMul → rB,reduceLT → rC,reduceEqDiff → rD,reduceLeDiff → rE
namespace Go.Pe
open Go Go.Am Go.RowKit
section
variable {ck:Int}{cd:Cd}{l:List Et}{st:St}{cfg:Cfg}{Gl:Gmap}{fuel:Nat}{z:Bool}{v:PV}
def Nd9(ck:Int)(cd:Cd)(l:List Et):(Int→Sn)×(Int→Option Nat):=if trV ck cd l=true then Ncv cd l l.length else(fun _=>sn0,fun _=>none)
theorem NkT(h:trV ck cd l=true):∀ e,e∈l→e.T<cd.T.length:=by
 intro e he;unfold trV at h;simp only[Bool.and_eq_true,List.all_eq_true]at h;have:=h.2 e he;unfold etB at this;simp only[Bool.and_eq_true,decide_eq_true_eq]at this;omega
theorem NiG(h:trV ck cd l=true):ck=0:=by
 unfold trV at h;simp only[Bool.and_eq_true,beq_iff_eq]at h;exact h.1
theorem NmL(hok:CfgOK Go.Proofs.Tryz.prog Gl cfg)(hc:CfgE cfg)(htp:Top st)(hl2:l.length<900)(hfu:l.length+100≤fuel)
 (hck:∀ callE,Nai cfg callE 47 [.agg (Cd.cs cd)]=some (.i .i64 ck)) (hO:cd.O.length≤reachBytes) (hT:cd.T.length≤reachBytes) (h16:ck=0→cd.T.length≤64) :
 ∃ r st',NaK cfg (fuel+11) 22 [.agg (Cd.cs cd),slV z l.length (l.flatMap Et.cs)] st=some (r,st')∧∃ D V R,r=.ptr D 0∧DI st' D V R cd z l (Nd9 ck cd l)∧(∀ q,q<st.cnt→st'.get q=st.get q)∧Top st'∧st.cnt≤st'.cnt:=by
 obtain⟨r,st',h1,D,V,R,h2,h3,h4⟩:∃ r st',NaK cfg (fuel+11) 22 [.agg (Cd.cs cd),slV z l.length (l.flatMap Et.cs)] st=some (r,st')∧∃ D V R,r=.ptr D 0∧DI st' D V R cd z l (Nd9 ck cd l)∧(∀ q,q<st.cnt→st'.get q=st.get q):=by
  refine NaB (hc.fn _ _ (by kernel_rfl):cfg.fn 22=some m22) ?_;have gt:∀ (st:St) (key:Nat),Naq (Nai cfg (NaK cfg (fuel+10)) 33) false st key [.agg [slV cd.zo cd.O.length (cd.O.flatMap Dc.cs),slV cd.zt cd.T.length (cd.T.flatMap Tx.cs)],slV z l.length (l.flatMap Et.cs)]=some (.b (trV ck cd l),st):=fun st key=>NaT (Na4 Nbu Nf4) (Nje (fuel:=fuel+6) hc (hck _) hO hT Zaa Zaa) rfl rfl;delta m22 Qa Ql Qt Qm Qi Qw Cd.cs;obtain⟨S,hS⟩:∃ S,Nd9 ck cd l=S:=⟨_,rfl⟩;rw[hS];unfold Nd9 at hS;obtain⟨o2,ho2⟩:∃ o2,slV cd.zt cd.T.length (cd.T.flatMap Tx.cs)=o2:=⟨_,rfl⟩;obtain⟨lv,hlv⟩:∃ lv,slV z l.length (l.flatMap Et.cs)=lv:=⟨_,rfl⟩;obtain⟨o1,ho1⟩:∃ o1,slV cd.zo cd.O.length (cd.O.flatMap Dc.cs)=o1:=⟨_,rfl⟩;have q1:o1.one=true:=by rw[←ho1];exact Nag _ _ _
  have q2:o2.one=true:=by rw[←ho2];exact Nag _ _ _
  have q3:lv.one=true:=by rw[←hlv];exact Nag _ _ _
  have p1:o1.cells=[o1]:=by rw[←ho1];exact Naf _ _ _
  have p2:o2.cells=[o2]:=by rw[←ho2];exact Naf _ _ _
  have p3:lv.cells=[lv]:=by rw[←hlv];exact Naf _ _ _
  rw[ho1,ho2,hlv]at gt ⊢;obtain⟨sto0,c0⟩:=st;obtain⟨X,hX⟩:∃ X:PV→St→Prop,X=fun r st'=>∃ D V R,r=.ptr D 0∧DI st' D V R cd z l S∧(∀ q,q<c0→st'.get q=St.get ⟨sto0,c0⟩ q):=⟨_,rfl⟩
  simp only[show ∀ r st',(∃ D V R,r=.ptr D 0∧DI st' D V R cd z l S∧(∀ q,q<c0→st'.get q=St.get ⟨sto0,c0⟩ q) )=X r st' from fun _ _=>by rw[hX]];simp only[Nao]
  iterate 3
   (try rw[Z0]);(try simp(maxSteps:=9^7)(disch:=first|omega|rfl|assumption)only[↓Yaa,Yab,Nae,Naa,rA,rB,rC,rD,reduceIte,unP,rE,q1,q2,q3,p1,p2,p3])
  refine NaJ (fun x=>∃ (B:Nat) (V:Nat) (R:Nat) (D:Nat),B<x.st.cnt∧(B<V)∧V<x.st.cnt∧(V<R)∧R<x.st.cnt∧(R<D)∧D<x.st.cnt∧x.env.get 1=lv∧x.env.get 2=.ptr B 0∧x.env.get 5=.ptr D 0∧x.st.get B=some (.cells [o1,o2] false)∧x.st.get V=some (.map [])∧x.st.get R=some (.map [])∧x.st.get D=some (.cells [o1,o2,lv,.nsl,.mp V,.mp R] false)∧(c0≤B)∧(Top x.st)∧((∀ q,q<c0→x.st.get q=St.get ⟨sto0,c0⟩ q))) ?_ ?_
  ·refine⟨c0,c0+32,c0+40,c0+56,?_,?_,?_,?_,?_,?_,?_,Zab,Zab,Zab,(by simp(disch:=omega)only[Nar,Nas];exact Yaf _ _ _),(by simp(disch:=omega)only[Nar,Nas];exact Yaf _ _ _),(by simp(disch:=omega)only[Nar,Nas];exact Yaf _ _ _),(by exact Yaf _ _ _),?_,(by intro q hq;simp only[Z0L_]at hq;simp(disch:=omega)only[Nar,Nas];exact htp q (by simp only;omega)),(fun q hq=>by simp(disch:=omega)only[Nar,Nas];rfl)⟩<;>first|omega|(simp only[Z0L_,Nax];omega)|(simp only;omega)|assumption|rfl|(simp;omega)|(simp;done)
  rintro⟨env,⟨sto,c⟩⟩ ⟨B,V,R,D,bB,oV,bV,oR,bR,oD,bD,g1,g2,g5,kB,kV,kR,kD,hV,ht,kof⟩;try simp only at bB bV bR bD g1 g2 g5 ht
  replace kB:∀ n',St.get ⟨sto,n'⟩ B=some (.cells [o1,o2] false):=fun _=>kB;replace kV:∀ n',St.get ⟨sto,n'⟩ V=some (.map []):=fun _=>kV;replace kR:∀ n',St.get ⟨sto,n'⟩ R=some (.map []):=fun _=>kR;replace kD:∀ n',St.get ⟨sto,n'⟩ D=some (.cells [o1,o2,lv,.nsl,.mp V,.mp R] false):=fun _=>kD;try simp only at bB bV bR bD
  cases htr:trV ck cd l with
  |false =>
    rw[htr]at gt hS
    iterate 5
     (try rw[Z0]);(try simp(maxSteps:=9^7)(disch:=first|omega|rfl|assumption)only[↓Yaa,Yab,Nae,Naa,rA,rB,rC,rD,reduceIte,unP,rE,g1,g2,g5,kB,kV,kR,kD,gt])
    subst hX;refine⟨nofun,_,rfl,D,V,R,by simp only[NaF,Yad,if_true],?_,fun q hq=>kof q hq⟩;rw[←hS];exact⟨⟨.nsl,by rw[ho1,ho2,hlv];exact kD _⟩,VM.zero (kV _),RM.zero (kR _)⟩
  |true =>
    have hck0:=NiG htr;subst hck0;have hT64:=h16 rfl;rw[htr]at gt hS;simp only[if_true]at hS
    iterate 3
     (try rw[Z0]);(try simp(maxSteps:=9^7)(disch:=first|omega|rfl|assumption)only[↓Yaa,Yab,Nae,Naa,rA,rB,rC,rD,reduceIte,unP,rE,g1,g2,g5,kB,kV,kR,kD,gt,hc.f3])
    refine Nbk (NpE hok hc (st:=⟨sto,c+40⟩) (z:=z) (V:=V) (R:=R) hl2 hfu (NkU htr hT64) (NkT htr) hck hO hT64 (ht.le Zaa) Zad Zad Zad Zaa (by rw[ho1,ho2,hlv];exact kD _) (VM.zero (kV _)) (RM.zero (kR _))) ?_;rintro r st2 ⟨di,fr2⟩
    iterate 3
     (try rw[Z0]);(try simp(maxSteps:=9^7)(disch:=first|omega|rfl|assumption)only[↓Yaa,Yab,Nae,Naa,rA,rB,rC,rD,reduceIte,unP,rE,g1,g2,g5,kB,kV,kR,kD])
    subst hX;refine⟨nofun,_,rfl,D,V,R,by simp only[NaF,Yad,if_true],?_,fun q hq=>(fr2 q ⟨by simp only;omega,by omega,by omega,by omega⟩).trans (kof q hq)⟩;rw[←hS];exact⟨di.gD,di.gV.move Zad rfl fun _ _ _=>rfl,di.gR.same rfl⟩
 exact⟨r,st',h1,D,V,R,h2,h3,h4,Ndq hok _ _ _ _ _ _ h1 htp,(NcN hok _ _ _ _ _ _ h1).2.1⟩
def NoJ(r:Nat×Nat):List PV:=[.i .i64 (r.1:Int),.i .i64 (r.2:Int)]
def Nom(a:Int→Option Nat)(o:Nat):Option (Nat×Nat):=(a (o:Int)).map fun x=>(o,x)
def Nfu(a:Int→Option Nat)(n:Nat):List (Nat×Nat):=(List.range n).filterMap (Nom a)
theorem Nha{a:Int→Option Nat}{n:Nat}:Nfu a (n+1)=Nfu a n++(Nom a n).toList:=by
 unfold Nfu;rw[List.range_succ,List.filterMap_append];cases h:Nom a n<;>simp[h]
theorem Nol(a:Int→Option Nat)(n:Nat):(Nfu a n).length≤n:=by
 unfold Nfu;have:=List.length_filterMap_le (Nom a) (List.range n);rw[List.length_range]at this;exact this
theorem NjI(h64:ck=0→cd.O.length≤64){i:Nat}(hi:i≤cd.O.length):(Nfu (Nd9 ck cd l).2 i).length≤64:=by
 by_cases h:trV ck cd l=true
 ·have:=h64 (NiG h);have:=Nol (Nd9 ck cd l).2 i;omega
 ·have e:(Nd9 ck cd l).2=fun _=>none:=by unfold Nd9;rw[if_neg h]
  rw[e];have:Nfu (fun _=>none) i=[]:=by
   unfold Nfu;exact List.filterMap_eq_nil_iff.2 fun o _=>rfl
  rw[this];simp
def NqE(rs:List (Nat×Nat)):PV:=if rs=[]then .nsl else .osl 2 rs.length (rs.flatMap NoJ)
theorem Nfb:∀ rs:List (Nat×Nat),(rs.flatMap NoJ).all PV.flat=true
 |[]=>rfl
 |r::rs=>by rw[List.flatMap_cons,List.all_append,Nfb rs];rfl
theorem Ng9{st:St}:∀ rs:List (Nat×Nat),keysL st (rs.flatMap NoJ)=[]
 |[]=>rfl
 |r::rs=>by
   have:=Ng9 (st:=st) rs;unfold keysL at this ⊢;rw[List.flatMap_cons,List.flatMap_append,this];rfl
theorem NjC{rs:List (Nat×Nat)}(ho:Own st 2 v rs.length (rs.flatMap NoJ))(hz:rs=[]→v=.nsl):NaY st v=some (NqE rs):=by
 unfold NqE;by_cases h0:rs=[]
 ·rw[hz h0,if_pos h0];rfl
 rw[if_neg h0];rcases ho with⟨rfl,h1,_⟩|⟨k,rfl,h1,h2,h3⟩
 ·exact absurd (List.eq_nil_of_length_eq_zero h1) h0
 ·have hw:NdU? st (.rsl k 2 0 rs.length)=some (k,2,rs.length,rs.flatMap NoJ):=by
   unfold NdU?;simp only[h1];rw[if_pos ⟨trivial,h2,by omega⟩]
  unfold NaY;simp only[hw,Ng9,Nb5 (Nfb rs),List.contains_nil,Bool.false_eq_true,if_false,Option.map_some]
theorem Non(hok:CfgOK Go.Proofs.Tryz.prog Gl cfg)(hc:CfgE cfg)(htp:Top st)(hl2:l.length<900)(hfu:l.length+100≤fuel)(hOf:cd.O.length+6≤fuel)
 (hck:∀ callE,Nai cfg callE 47 [.agg (Cd.cs cd)]=some (.i .i64 ck)) (hO:cd.O.length≤reachBytes) (hT:cd.T.length≤reachBytes) (h16:ck=0→cd.T.length≤64) (h64:ck=0→cd.O.length≤64) :
 ∃ r st',NaK cfg (fuel+12) 13 [.agg (Cd.cs cd),slV z l.length (l.flatMap Et.cs)] st=some (r,st')∧NaY st' r=some (NqE (Nfu (Nd9 ck cd l).2 cd.O.length)):=by
 refine NaB (hc.fn _ _ (by kernel_rfl):cfg.fn 13=some m13) ?_;delta m13 Qa Qr Qf Qg Qc Ql Qt Qk Qm Qh Qi Qo Qw Cd.cs;have hrb:reachBytes=140737488351232:=rfl;have lD:=NaC cd.zo cd.O.length (cd.O.flatMap Dc.cs);obtain⟨S,hS⟩:∃ S,Nd9 ck cd l=S:=⟨_,rfl⟩;have hdt:=fun st h=>NmL (fuel:=fuel) (st:=st) (z:=z) hok hc h hl2 hfu hck hO hT h16;rw[hS]at hdt ⊢;unfold Cd.cs at hdt;obtain⟨sto0,c0⟩:=st;simp only[Nao];have hs1:=Nag cd.zo cd.O.length (cd.O.flatMap Dc.cs);have hs2:=Nag cd.zt cd.T.length (cd.T.flatMap Tx.cs);(try rw[Z0]);(try simp(maxSteps:=9^7)(disch:=first|omega|rfl|assumption)only[↓Yaa,Yab,Nae,Naa,rA,rB,rC,rD,reduceIte,unP,rE,Nag,Naf]);refine NaJ (fun x=>∃ (B:Nat),B<x.st.cnt∧x.env.get 1=slV z l.length (l.flatMap Et.cs)∧x.env.get 2=.ptr B 0∧x.st.get B=some (.cells [slV cd.zo cd.O.length (cd.O.flatMap Dc.cs),slV cd.zt cd.T.length (cd.T.flatMap Tx.cs)] false)∧(Top x.st)) ?_ ?_
 ·refine⟨c0,?_,Zab,Zab,?_,(by intro q hq;simp only[Z0L_]at hq;simp(disch:=omega)only[Nar,Nas];exact htp q (by simp only;omega))⟩<;>first|with_reducible rfl|with_reducible assumption|exact kB _|omega|(simp only[Z0L_,Nax];omega)|(simp only;omega)|(simp(disch:=omega)only[Nar,Nas,Yaf];first|done|with_reducible rfl|with_reducible assumption)
 rintro⟨env,⟨sto,c⟩⟩ ⟨B,bB,g1,g2,kB,ht⟩;try simp only at bB g1 g2 ht
 replace kB:∀ n',St.get ⟨sto,n'⟩ B=some (.cells [slV cd.zo cd.O.length (cd.O.flatMap Dc.cs),slV cd.zt cd.T.length (cd.T.flatMap Tx.cs)] false):=fun _=>kB;try simp only at bB
 (try rw[Z0]);(try simp(maxSteps:=9^7)(disch:=first|omega|rfl|assumption)only[↓Yaa,Yab,Nae,Naa,rA,rB,rC,rD,reduceIte,unP,rE,g1,g2,kB,hc.f4]);refine Nbk (hdt _ (ht.le Zaa)) ?_;rintro r ⟨sto2,c2⟩ ⟨D,V,R,rfl,di,fr2,tp2,cn2⟩;simp only at cn2 fr2;have kB2:∀ n',St.get ⟨sto2,n'⟩ B=_:=fun n'=>(fr2 B Zaa).trans (kB _);obtain⟨ov,gD⟩:=di.gD;have gR:=di.gR;have lDc:D<c2:=by
  by_cases h:D<c2
  ·exact h
  ·rw[tp2 D Zad]at gD;cases gD
 have lRc:R<c2:=by
  by_cases h:R<c2
  ·exact h
  ·obtain⟨es,f,h1,_⟩:=gR;rw[tp2 R Zad]at h1;cases h1
 obtain⟨o1,ho1⟩:∃ o1,slV cd.zo cd.O.length (cd.O.flatMap Dc.cs)=o1:=⟨_,rfl⟩;obtain⟨o2,ho2⟩:∃ o2,slV cd.zt cd.T.length (cd.T.flatMap Tx.cs)=o2:=⟨_,rfl⟩;obtain⟨lv,hlv⟩:∃ lv,slV z l.length (l.flatMap Et.cs)=lv:=⟨_,rfl⟩;rw[ho1,ho2,hlv]at gD;rw[ho1,ho2]at kB2;rw[ho1]at lD;refine NaJ (fun x=>x.env.get 2=.ptr B 0∧x.env.get 5=.ptr D 0∧B<x.st.cnt∧D<x.st.cnt∧R<x.st.cnt∧x.st.get B=some (.cells [o1,o2] false)∧x.st.get D=some (.cells [o1,o2,lv,ov,.mp V,.mp R] false)∧(RM x.st R S.2)) ?_ ?_
 ·refine⟨?_,?_,?_,?_,?_,(kB2 _),(by exact gD),(gR.same rfl)⟩<;>first|with_reducible rfl|with_reducible assumption|(simp[Yad,g1,g2]<;>omega)|omega|(simp only[Z0L_,Nax];omega)|(simp only;omega)
 clear bB g1 g2 kB ht;rintro⟨env,⟨sto,c⟩⟩ ⟨g2,g5,bB,bD,bR,kB,kD,hR⟩;try simp only at g2 g5 bB bD bR hR
 replace kB:∀ n',St.get ⟨sto,n'⟩ B=some (.cells [o1,o2] false):=fun _=>kB;replace kD:∀ n',St.get ⟨sto,n'⟩ D=some (.cells [o1,o2,lv,ov,.mp V,.mp R] false):=fun _=>kD;try simp only at bB bD bR
 iterate 4
  (try rw[Z0]);(try simp(maxSteps:=9^7)(disch:=first|omega|rfl|assumption)only[↓Yaa,Yab,Nae,Naa,rA,rB,rC,rD,reduceIte,unP,rE,g2,g5,kB,kD,lD])
 refine Z9 (k:=cd.O.length - 0) (fun m x=>∃ (i:Nat) (w:PV),m=cd.O.length - i∧x.env.get 5=.ptr D 0∧x.env.get 6=w∧x.env.get 15=.i .i64 (cd.O.length:Int)∧x.env.get 16=.i .i64 (i:Int)∧D<x.st.cnt∧R<x.st.cnt∧x.st.get D=some (.cells [o1,o2,lv,ov,.mp V,.mp R] false)∧(i≤cd.O.length)∧(RM x.st R S.2)∧(Own x.st 2 w (Nfu S.2 i).length ((Nfu S.2 i).flatMap NoJ))∧((Nfu S.2 i=[]→w=.nsl))) ?_ ?_ Zaa
 ·clear g2 g5 bB bD bR kB kD hR;rintro m ⟨env,⟨sto,c⟩⟩ ⟨i,w,rfl,g5,g6,g15,g16,bD,bR,kD,hi,hR,ho,hz⟩;try simp only at g5 g6 g15 g16 bD bR hR ho
  replace kD:∀ n',St.get ⟨sto,n'⟩ D=some (.cells [o1,o2,lv,ov,.mp V,.mp R] false):=fun _=>kD;try simp only at bD bR
  by_cases hil:i<cd.O.length
  ·obtain⟨es,f,qR,mR,oR⟩:=id hR;have kR:∀ n',St.get ⟨sto,n'⟩ R=some (.map es):=fun _=>qR;have hmr:Na3 0 (.i .i64 (i:Int)) es=some (f (i:Int)):=mR.get (i:Int);have hfr:=oR (i:Int);cases hfi:S.2 (i:Int)with
   |none =>
     have hnx:Nfu S.2 (i+1)=Nfu S.2 i:=(by rw[Nha,Nom,hfi];simp);rw[hfi]at hfr;simp only[Option.map_none]at hfr;rw[hfr]at hmr
     iterate 6
      (try rw[Z0]);(try simp(maxSteps:=9^7)(disch:=first|omega|rfl|assumption)only[↓Yaa,Yab,Nae,Naa,rA,rB,rC,rD,reduceIte,unP,rE,g5,g6,g15,g16,kD,kR,hmr,Option.getD_none,Option.isSome_none,Option.map_some])
     exact⟨cd.O.length - (i+1),by omega,i+1,w,rfl,rfl,rfl,by omega,hR.same rfl,by rw[hnx];exact ho.move Zad fun _ _ _=>rfl,by rw[hnx];exact hz⟩
   |some a =>
     have hnx:Nfu S.2 (i+1)=Nfu S.2 i++[(i,a)]:=(by rw[Nha,Nom,hfi];simp);rw[hfi]at hfr;simp only[Option.map_some,Njj]at hfr;rw[hfr]at hmr;have nR:R∉keyOf w:=fun h=>by
      rcases ho with⟨rfl,_⟩|⟨k,rfl,hk,_⟩
      ·simp[keyOf]at h
      ·simp only[keyOf,List.mem_singleton]at h;subst h;rw[kR]at hk;cases hk
     have nD:D∉keyOf w:=fun h=>by
      rcases ho with⟨rfl,_⟩|⟨k,rfl,hk,_⟩
      ·simp[keyOf]at h
      ·simp only[keyOf,List.mem_singleton]at h;subst h;rw[kD]at hk;simp only[Sj,PObj.cells.injEq,and_true]at hk;have:=Nfb (Nfu S.2 i);rw[←hk]at this;simp[PV.flat]at this
     have lt':∀ k,k∈keyOf w→k<c:=fun k hk=>ho.lt k hk;have hNl:(Nfu S.2 i).length≤64:=by rw[←hS];exact NjI h64 Zaa
     iterate 6
      (try rw[Z0]);(try simp(maxSteps:=9^7)(disch:=first|omega|rfl|assumption)only[↓Yaa,Yab,Nae,Naa,rA,rB,rC,rD,reduceIte,unP,rE,g5,g6,g15,g16,kD,kR,hmr,Option.getD_some,Option.isSome_some,Option.map_some,Nay])
     refine Ncw (ho.move (by simp only[Z0L_];omega) fun k hk _=>by have:=lt' k hk;simp(disch:=omega)only[Nar,Nas];rfl) (by simp only[Z0L_];omega) (fun h=>by have:=lt' _ h;omega) rfl Zaa (by unfold Na0;omega) ?_;intro v' st' hown hcnt hkey hj;simp only[Z0L_]at hcnt;have pz:∀ k,k<c→k∉keyOf w→st'.get k=St.get ⟨sto,c⟩ k:=fun k h1 h2=>(hj k Zaa h2).trans (by rw[Yae (by omega)];rfl);refine⟨cd.O.length - (i+1),by omega,i+1,v',rfl,rfl,rfl,by omega,by omega,(pz D bD nD).trans (kD _),by omega,hR.same (pz R bR nR),?_,fun h=>?_⟩
     ·rw[hnx,List.length_append,List.flatMap_append];exact hown.move Zad fun _ _ _=>rfl
     ·rw[hnx]at h;simp at h
  ·have hin:i=cd.O.length:=(by omega);subst hin
   iterate 5
    (try rw[Z0]);(try simp(maxSteps:=9^7)(disch:=first|omega|rfl|assumption)only[↓Yaa,Yab,Nae,Naa,rA,rB,rC,rD,reduceIte,unP,rE,g5,g6,g15,g16,kD])
   refine⟨nofun,_,rfl,?_⟩;simp only[NaF,Yad,if_true];exact NjC (ho.move Zad fun _ _ _=>rfl) hz
 ·skip
  refine⟨0,.nsl,rfl,?_,?_,?_,?_,?_,?_,?_,?_,(hR.same rfl),(Own.nil _ _),(fun _=>rfl)⟩<;>first|with_reducible rfl|with_reducible assumption|exact kD _|(simp[Yad,g2,g5]<;>omega)|omega|(simp only[Z0L_,Nax];omega)|(simp only;omega)|(simp(disch:=omega)only[Nar,Nas,Yaf,kB,kD];first|done|with_reducible rfl|with_reducible assumption)|assumption|rfl|(simp;omega)|(simp;done)
theorem Nmj(hok:CfgOK Go.Proofs.Tryz.prog Gl cfg)(hc:CfgE cfg)(hl2:l.length<900)(hfu:l.length+100≤fuel)(hOf:cd.O.length+6≤fuel)
 (hck:∀ callE,Nai cfg callE 47 [.agg (Cd.cs cd)]=some (.i .i64 ck)) (hO:cd.O.length≤reachBytes) (hT:cd.T.length≤reachBytes) (h16:ck=0→cd.T.length≤64) (h64:ck=0→cd.O.length≤64) :
 Nai cfg (NaK cfg (fuel+12)) 13 [.agg (Cd.cs cd),slV z l.length (l.flatMap Et.cs)]=some (NqE (Nfu (Nd9 ck cd l).2 cd.O.length)):=by
 obtain⟨r,st',h1,h2⟩:=Non hok hc NiF (z:=z) hl2 hfu hOf hck hO hT h16 h64;exact NeF hc.f5 Nco ⟨r,st',h1,h2⟩
theorem Nh3(h16:ck=0→cd.T.length≤64)(o:Int):Kept cd.T.length ((Nd9 ck cd l).1 o):=by
 unfold Nd9;by_cases h:trV ck cd l=true
 ·rw[if_pos h];have hv:=NkU h (h16 (NiG h));refine Ngc (n:=l.length) (fun i hi=>⟨(Nfk hv i).1,?_⟩) (Nat.le_refl _) o;unfold thL;rw[NeR hi];exact NkT h _ (List.getElem_mem hi)
 ·rw[if_neg h];exact NgP _
theorem Nnu(h16:ck=0→cd.T.length≤64)(o:Int):((Nd9 ck cd l).1 o).Rs.length≤64:=by
 by_cases h:trV ck cd l=true
 ·have:=(Nh3 (l:=l) h16 o).len;have:=h16 (NiG h);omega
 ·unfold Nd9;rw[if_neg h];simp[sn0]
def NbN(l:List Int):PV:=if l=[]then .nsl else .fsl l.length (NaI l)
theorem CV.deepF{b:Nat}{a:List Int}(h:CV st b v a):Go.Pe.deep st 11 v=some (NbN a):=by
 rcases h with⟨rfl,rfl⟩|⟨h0,k,rfl,h1,h2⟩
 ·rfl
 ·unfold NbN;rw[if_neg h0];show Go.Pe.deep st (10+1) _=_;unfold Go.Pe.deep;simp only[h2,cut?,Nat.zero_add,List.drop_zero];rw[if_pos (by rw[NaH];omega),Nat.mul_one,←NaH a,List.take_length];have:mapO (Go.Pe.deep st 10) (NaI a)=some (NaI a):=by
   generalize a=l;clear h0 h1 h2
   induction l with
   |nil=>rfl
   |cons c r ih =>
     have e:Go.Pe.deep st 10 (.i .i64 c)=some (.i .i64 c):=rfl;show mapO _ (.i .i64 c::NaI r)=_;simp only[mapO,e,ih];rfl
  simp only[this];rfl
theorem Nf1{b:Nat}{s:Sn}(h:CV st b v s.Rs):NaY st (.agg (snC s v))=some (.agg (snC s (NbN s.Rs))):=by
 have hd:=h.deepF;show Go.Pe.deep st (11+1) (.agg (snC s v))=_;unfold snC;show(mapO (Go.Pe.deep st 11) [.i .i64 s.W,.i .i64 s.wn,.i .i64 s.R,.i .i64 s.rn,v]).map PV.agg=_;have e:∀ n,Go.Pe.deep st 11 (.i .i64 n)=some (.i .i64 n):=fun _=>rfl;simp only[mapO,e,hd,Option.map_some]
theorem Nov(hok:CfgOK Go.Proofs.Tryz.prog Gl cfg)(hc:CfgE cfg)(htp:Top st){o:Int}(hl2:l.length<900)(hfu:l.length+100≤fuel)
 (hck:∀ callE,Nai cfg callE 47 [.agg (Cd.cs cd)]=some (.i .i64 ck)) (hO:cd.O.length≤reachBytes) (hT:cd.T.length≤reachBytes) (h16:ck=0→cd.T.length≤64) :
 ∃ r st',NaK cfg (fuel+12) 10 [.agg (Cd.cs cd),slV z l.length (l.flatMap Et.cs),.i .i64 o] st=some (r,st')∧NaY st' r=some (.agg (snC ((Nd9 ck cd l).1 o) (NbN ((Nd9 ck cd l).1 o).Rs))):=by
 refine NaB (hc.fn _ _ (by kernel_rfl):cfg.fn 10=some m10) ?_;delta m10 Qa Qr Qf Qg Qc Ql Qt Qn Qm Qh Qi Qw Cd.cs;have hrb:reachBytes=140737488351232:=rfl;obtain⟨S,hS⟩:∃ S,Nd9 ck cd l=S:=⟨_,rfl⟩;have hdt:=fun st h=>NmL (fuel:=fuel) (st:=st) (z:=z) hok hc h hl2 hfu hck hO hT h16;rw[hS]at hdt ⊢;unfold Cd.cs at hdt;have hfirst:∀ (st:St) (key:Nat),Naq (Nai cfg (NaK cfg (fuel+11)) 23) false st key []=some (.agg [.i .i64 (-1),.i .i64 0,.i .i64 (-1),.i .i64 0,.nsl],st):=fun st key=>NaG rfl (NeO (fuel:=fuel+10) hc) rfl;have hsl:=Nnu (l:=l) h16 o;rw[hS]at hsl;obtain⟨s,hs⟩:∃ s,S.1 o=s:=⟨_,rfl⟩;rw[hs]at hsl ⊢;obtain⟨sto0,c0⟩:=st;simp only[Nao];(try rw[Z0]);(try simp(maxSteps:=9^7)(disch:=first|omega|rfl|assumption)only[↓Yaa,Yab,Nae,Naa,rA,rB,rC,rD,reduceIte,unP,rE,Nag,Naf]);refine NaJ (fun x=>∃ (B:Nat) (Q:Nat),B<x.st.cnt∧(B<Q)∧Q<x.st.cnt∧x.env.get 1=slV z l.length (l.flatMap Et.cs)∧x.env.get 2=.i .i64 o∧x.env.get 3=.ptr B 0∧x.env.get 6=.ptr Q 0∧x.st.get B=some (.cells [slV cd.zo cd.O.length (cd.O.flatMap Dc.cs),slV cd.zt cd.T.length (cd.T.flatMap Tx.cs)] false)∧x.st.get Q=some (.cells [.i .i64 ((0:Nat):Int),.i .i64 ((0:Nat):Int),.i .i64 ((0:Nat):Int),.i .i64 ((0:Nat):Int),.nsl] false)∧(Top x.st)) ?_ ?_
 ·refine⟨c0,c0+8,?_,?_,?_,Zab,Zab,Zab,Zab,?_,?_,(by intro q hq;simp only[Z0L_]at hq;simp(disch:=omega)only[Nar,Nas];exact htp q (by simp only;omega))⟩<;>first|with_reducible rfl|with_reducible assumption|exact kB _|exact kQ _|omega|(simp only[Z0L_,Nax];omega)|(simp only;omega)|assumption|rfl|(simp;omega)|(simp;done)|(simp(disch:=omega)only[Nar,Nas,Yaf];first|done|with_reducible rfl|with_reducible assumption)
 rintro⟨env,⟨sto,c⟩⟩ ⟨B,Q,bB,oQ,bQ,g1,g2,g3,g6,kB,kQ,ht⟩;try simp only at bB bQ g1 g2 g3 g6 ht
 replace kB:∀ n',St.get ⟨sto,n'⟩ B=some (.cells [slV cd.zo cd.O.length (cd.O.flatMap Dc.cs),slV cd.zt cd.T.length (cd.T.flatMap Tx.cs)] false):=fun _=>kB;replace kQ:∀ n',St.get ⟨sto,n'⟩ Q=some (.cells [.i .i64 ((0:Nat):Int),.i .i64 ((0:Nat):Int),.i .i64 ((0:Nat):Int),.i .i64 ((0:Nat):Int),.nsl] false):=fun _=>kQ;try simp only at bB bQ
 iterate 2
  (try rw[Z0]);(try simp(maxSteps:=9^7)(disch:=first|omega|rfl|assumption)only[↓Yaa,Yab,Nae,Naa,rA,rB,rC,rD,reduceIte,unP,rE,g1,g2,g3,g6,kB,kQ,hc.f4])
 refine Nbk (hdt _ (ht.le Zaa)) ?_;rintro r ⟨sto2,c2⟩ ⟨D,V,R,rfl,di,fr2,tp2,cn2⟩;simp only at cn2 fr2;have kQ2:∀ n',St.get ⟨sto2,n'⟩ Q=_:=fun n'=>(fr2 Q Zaa).trans (kQ _);obtain⟨ov,gD⟩:=di.gD;obtain⟨es,f,qV,mV,oV⟩:=di.gV;have kV:∀ n',St.get ⟨sto2,n'⟩ V=some (.map es):=fun _=>qV;have hmv:Na3 0 (.i .i64 o) es=some (f o):=mV.get o;obtain⟨o1,ho1⟩:∃ o1,slV cd.zo cd.O.length (cd.O.flatMap Dc.cs)=o1:=⟨_,rfl⟩;obtain⟨o2,ho2⟩:∃ o2,slV cd.zt cd.T.length (cd.T.flatMap Tx.cs)=o2:=⟨_,rfl⟩;obtain⟨lv,hlv⟩:∃ lv,slV z l.length (l.flatMap Et.cs)=lv:=⟨_,rfl⟩;rw[ho1,ho2,hlv]at gD;have kD:∀ n',St.get ⟨sto2,n'⟩ D=_:=fun _=>gD;rcases oV o with⟨hf,hsn⟩|⟨v,hf,hcv⟩
 ·rw[hf]at hmv;rw[hs]at hsn;subst hsn
  iterate 6
   (try rw[Z0]);(try simp(maxSteps:=9^7)(disch:=first|omega|rfl|assumption)only[↓Yaa,Yab,Nae,Naa,rA,rB,rC,rD,reduceIte,unP,rE,g1,g2,g3,g6,kB,kQ,kD,kV,hmv,Option.map_some,Option.getD_none,Option.isSome_none,hfirst,kQ2])
  refine⟨nofun,_,Nem (F:=Q) (by simp[Yad,g6]) (by exact Yaf _ _ _),?_⟩;simp only[NaF];exact Nf1 (b:=0) (s:=sn0) (.inl ⟨rfl,rfl⟩)
 ·rw[hf]at hmv;rw[hs]at hcv hmv;unfold snC at hmv;have hv1:=hcv.one;have hv2:=hcv.cells1;rcases hcv with⟨rfl,h0⟩|⟨h0,k,rfl,lk,gk⟩
  ·have gcl:∀ (st:St) (key:Nat),Naq (Nai cfg (NaK cfg (fuel+11)) 24) false st key [.nsl]=some (.nsl,st):=fun st key=>NaG rfl (NeB (fuel:=fuel+10) hc (p:=.nsl) (l:=[]) rfl Zag) rfl
   iterate 8
    (try rw[Z0]);(try simp(maxSteps:=9^7)(disch:=first|omega|rfl|assumption)only[↓Yaa,Yab,Nae,Naa,rA,rB,rC,rD,reduceIte,unP,rE,g1,g2,g3,g6,kB,kQ,kD,kV,hmv,Option.map_some,Option.getD_some,Option.isSome_some,hv1,hv2,gcl,kQ2])
   refine⟨nofun,_,Nem (F:=Q) (by simp[Yad,g6]) (by exact Yaf _ _ _),?_⟩;simp only[NaF];exact Nf1 (b:=0) (s:=s) (.inl ⟨rfl,h0⟩)
  ·skip
   iterate 6
    (try rw[Z0]);(try simp(maxSteps:=9^7)(disch:=first|omega|rfl|assumption)only[↓Yaa,Yab,Nae,Naa,rA,rB,rC,rD,reduceIte,unP,rE,g1,g2,g3,g6,kB,kQ,kD,kV,hmv,Option.map_some,Option.getD_some,Option.isSome_some,hv1,hv2])
   simp only at lk;have gk2:∀ (a b:Option PObj) (n n':Nat),St.get ⟨(St.put (St.put ⟨sto2,n⟩ (c+88) a) (c+88) b).sto,n'⟩ k=some (.cells (NaI s.Rs) false):=fun a b n n'=>by
    have hk:k≠c+88:=by
     rintro rfl;have e:=fr2 (c+88) Zaa;exact absurd (gk.symm.trans (e.trans (ht (c+88) Zad))) Zag
    show St.get (St.put (St.put ⟨sto2,n⟩ (c+88) a) (c+88) b) k=_;rw[Yae (Ne.symm hk),Yae (Ne.symm hk)];exact gk
   obtain⟨w,dw,iw⟩:=CV.deep (st:=_) (b:=k+1) (.inr ⟨h0,k,rfl,by omega,gk2 (some (.cells [.i .i64 ((0:Nat):Int),.i .i64 ((0:Nat):Int),.i .i64 ((0:Nat):Int),.i .i64 ((0:Nat):Int),.nsl] false)) (some (.cells [.i .i64 s.W,.i .i64 s.wn,.i .i64 s.R,.i .i64 s.rn,.rsl k 1 0 s.Rs.length] false)) c2 (c2+56)⟩:CV _ (k+1) (.rsl k 1 0 s.Rs.length) s.Rs);have hcl:=NeB (fuel:=fuel+10) hc iw Zaa;rw[Nef h0]at hcl;refine Ndk (Nbf dw) hcl (NbB _) (by rw[NaH,Nat.mul_one]) Zad ?_;intro st3 own3 get3 cnt3 fr3;obtain⟨sto3,c3⟩:=st3;simp only at cnt3;subst cnt3;have kZ:∀ n',St.get ⟨sto3,n'⟩ (c+88)=some (.cells [.i .i64 s.W,.i .i64 s.wn,.i .i64 s.R,.i .i64 s.rn,.rsl k 1 0 s.Rs.length] false):=fun n'=>(fr3 (c+88) Zaa).trans (by exact Yaf _ _ _);have kQ3:∀ n',St.get ⟨sto3,n'⟩ Q=_:=fun n'=>(fr3 Q Zaa).trans ((show St.get (St.put (St.put ⟨sto2,c2⟩ (c+88) _) (c+88) _) Q=_ by rw[Yae Zaa,Yae Zaa]).trans (kQ2 c2));simp(disch:=first|omega|rfl|assumption)only[↓Yaa,Yac,Nae,Naa,rA,rB,rC,rD,reduceIte,unP,Xm,rE,kZ]
   iterate 4
    (try rw[Z0]);(try simp(maxSteps:=9^7)(disch:=first|omega|rfl|assumption)only[↓Yaa,Yab,Nae,Naa,rA,rB,rC,rD,reduceIte,unP,rE,g1,g2,g3,g6,kB,kQ,kQ3])
   refine⟨nofun,_,Nem (F:=Q) (by simp[Yad,g6]) (by exact Yaf _ _ _),?_⟩;simp only[NaF];refine Nf1 (b:=c2+56) (s:=s) (.inr ⟨h0,c2+32,rfl,by omega,?_⟩);show St.get (St.put ⟨(St.put ⟨sto3,c2+56⟩ (c+88) _).sto,c2+72⟩ Q _) (c2+32)=_;rw[Yae (show Q≠c2+32 by omega)];exact(Yae (show c+88≠c2+32 by omega)).trans get3
theorem NiB(hok:CfgOK Go.Proofs.Tryz.prog Gl cfg)(hc:CfgE cfg){o:Int}(hl2:l.length<900)(hfu:l.length+100≤fuel)
 (hck:∀ callE,Nai cfg callE 47 [.agg (Cd.cs cd)]=some (.i .i64 ck)) (hO:cd.O.length≤reachBytes) (hT:cd.T.length≤reachBytes) (h16:ck=0→cd.T.length≤64) :
 Nai cfg (NaK cfg (fuel+12)) 10 [.agg (Cd.cs cd),slV z l.length (l.flatMap Et.cs),.i .i64 o]=some (.agg (snC ((Nd9 ck cd l).1 o) (NbN ((Nd9 ck cd l).1 o).Rs))):=by
 obtain⟨r,st',h1,h2⟩:=Nov hok hc NiF (z:=z) (o:=o) hl2 hfu hck hO hT h16;exact NeF hc.f6 rfl ⟨r,st',h1,h2⟩
end
end Go.Pe
