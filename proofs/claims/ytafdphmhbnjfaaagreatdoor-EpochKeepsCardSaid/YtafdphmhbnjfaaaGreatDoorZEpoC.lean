/-
 Epochs: is an epoch seen by an event: walked. No condition.
-/
import Derived.Test.YtafdphmhbnjfaaaGreatDoorZEpoB
set_option linter.unusedVariables false
set_option linter.unusedSimpArgs false
set_option maxHeartbeats 8000000
open Nat renaming reduceAdd → rA,reduceMul → rB,reduceLT → rC,reduceEqDiff → rD,reduceLeDiff → rE
namespace Go.Pe
open Go Go.Am Go.RowKit
section
variable {st st':St}{j W D B A V R:Nat}{l:List Et}{cd:Cd}{z:Bool}{ov:PV}
def WhI(st:St)(W:Nat)(th:Nat→Int)(j:Nat):Prop:=st.get W=some (.cells [.nmp] false)∨∃ M,M<st.cnt∧st.get W=some (.cells [.mp M] false)∧SM st M 0 (fun u=>plN th u j)
theorem WhI.move{th:Nat→Int}(h:WhI st W th j)(hc:st.cnt≤st'.cnt)(hW:W<st.cnt)(hg:∀ k,k<st.cnt→st'.get k=st.get k):WhI st' W th j:=by
 rcases h with h|⟨M,h1,h2,h3⟩
 ·exact .inl ((hg W hW).trans h)
 ·exact .inr ⟨M,by omega,(hg W hW).trans h2,h3.move hc (hg M h1) fun q _ hq _=>hg q hq⟩
theorem Nns{w1 v1 w2 v2 w3 v3 w4 v4:PV}(h1:Go.Pe.deep st 12 w1=some v1)(h2:Go.Pe.deep st 12 w2=some v2)(h3:Go.Pe.deep st 12 w3=some v3)(h4:Go.Pe.deep st 12 w4=some v4):Nbg st [w1,w2,w3,w4]=some [v1,v2,v3,v4]:=by
 have h1':Go.Pe.deep st NbU w1=some v1:=h1;have h2':Go.Pe.deep st NbU w2=some v2:=h2;have h3':Go.Pe.deep st NbU w3=some v3:=h3;have h4':Go.Pe.deep st NbU w4=some v4:=h4;unfold Nbg;simp only[mapO,h1',h2',h3',h4']
theorem NpH(n:Nat)(cs:List PV):slV false n cs=.fsl n cs:=by unfold slV;rw[if_neg Zag]
theorem Nm0(h:j≤l.length):Ncs 5 none (some (.i .i64 (j:Int))) (.fsl l.length (l.flatMap Et.cs))=some (.fsl j ((l.take j).flatMap Et.cs)):=by
 have ft:∀ (l:List Et) (n:Nat),(l.flatMap Et.cs).take (n * 5)=(l.take n).flatMap Et.cs:=by
  intro l
  induction l with
  |nil=>intro n;simp
  |cons a r ih =>
    intro n;cases n with
    |zero=>simp
    |succ n =>
      rw[List.take_succ_cons,List.flatMap_cons,List.flatMap_cons,←ih,List.take_append,Et.cs_len,List.take_of_length_le (by rw[Et.cs_len];omega)]
      congr 2
      omega
 have hE:=NaM Et.cs_len l;unfold Ncs;simp only[bound];rw[if_pos ⟨by omega,by omega⟩];simp only[Int.toNat_natCast,Nat.sub_zero,Nat.zero_mul,List.drop_zero];rw[if_pos hE,ft]
theorem Nox{cfg:Cfg}(hc:CfgE cfg){fuel:Nat}{j:Int}(lD:D<st.cnt) :
 ∃ r st',NaK cfg (fuel+1) 59 [.ptr D 0,.i .i64 j] st=some (r,st')∧∃ B A W,r=.fn 93 [.ptr B 0,.ptr A 0,.ptr W 0]∧st.cnt≤B∧B<A∧A<W∧W<st'.cnt∧st'.get B=some (.cells [.ptr D 0] false)∧st'.get A=some (.cells [.i .i64 j] false)∧st'.get W=some (.cells [.nmp] false)∧(∀ k,k<st.cnt→st'.get k=st.get k):=by
 refine NaB (hc.fn _ _ (by kernel_rfl):cfg.fn 59=some m59) ?_;delta m59 Ql Qt Qm Qi;obtain⟨sto0,c0⟩:=st;simp only at lD;simp only[Nao]
 iterate 3
  (try rw[Z0]);(try simp(maxSteps:=9^7)(disch:=first|omega|rfl|assumption)only[↓Yaa,Yab,Nae,Naa,rA,rB,rC,rD,reduceIte,unP,rE])
 refine⟨nofun,_,rfl,c0,c0+8,c0+24,by simp only[NaF,Yad,if_true],Nat.le_refl _,by omega,by omega,by first|omega|(simp only[Z0L_];omega)|(simp only;omega),?_,?_,?_,fun k hk=>?_⟩
 ·first|exact Yaf _ _ _|rfl|(simp(disch:=omega)only[Nar,Nas];first|done|exact Yaf _ _ _|rfl)
 ·first|exact Yaf _ _ _|rfl|(simp(disch:=omega)only[Nar,Nas];first|done|exact Yaf _ _ _|rfl)
 ·first|exact Yaf _ _ _|rfl|(simp(disch:=omega)only[Nar,Nas];first|done|exact Yaf _ _ _|rfl)
 ·have hk':k<c0:=hk;simp(disch:=omega)only[Nar,Nas];rfl
structure DE(st:St)(B A W D V R:Nat)(cd:Cd)(z:Bool)(l:List Et)(j:Nat)(ov:PV):Prop where
 lB:B<st.cnt
 lA:A<st.cnt
 lW:W<st.cnt
 lD:D<st.cnt
 nB:B≠W
 nA:A≠W
 nD:D≠W
 gB:st.get B=some (.cells [.ptr D 0] false)
 gA:st.get A=some (.cells [.i .i64 (j:Int)] false)
 gD:st.get D=some (.cells [slV cd.zo cd.O.length (cd.O.flatMap Dc.cs),slV cd.zt cd.T.length (cd.T.flatMap Tx.cs),slV z l.length (l.flatMap Et.cs),ov,.mp V,.mp R] false)
 wi:WhI st W (thL l) j
 top:Top st
theorem DE.move(h:DE st B A W D V R cd z l j ov)(hc:st.cnt≤st'.cnt)(hg:∀ k,k<st.cnt→st'.get k=st.get k)(ht:Top st'):DE st' B A W D V R cd z l j ov :=
 ⟨by have:=h.lB;omega,by have:=h.lA;omega,by have:=h.lW;omega,by have:=h.lD;omega,h.nB,h.nA,h.nD,(hg B h.lB).trans h.gB,(hg A h.lA).trans h.gA,(hg D h.lD).trans h.gD,h.wi.move hc h.lW hg,ht⟩
structure SeR(st st':St)(W:Nat)(th:Nat→Int)(j:Nat)(r:PV)(b:Bool):Prop where
 res:r=.b b
 wi:WhI st' W th j
 fr:∀ k,k<st.cnt→k≠W→st'.get k=st.get k
 cnt:st.cnt≤st'.cnt
theorem DE.after{r:PV}{b:Bool}(h:DE st B A W D V R cd z l j ov)(s:SeR st st' W (thL l) j r b)(ht:Top st'):DE st' B A W D V R cd z l j ov :=
 ⟨by have:=h.lB;have:=s.cnt;omega,by have:=h.lA;have:=s.cnt;omega,by have:=h.lW;have:=s.cnt;omega,by have:=h.lD;have:=s.cnt;omega,h.nB,h.nA,h.nD,(s.fr B h.lB h.nB).trans h.gB,(s.fr A h.lA h.nA).trans h.gA,(s.fr D h.lD h.nD).trans h.gD,s.wi,ht⟩
theorem Nro{cfg:Cfg}{Gl:Gmap}(hok:CfgOK Go.Proofs.Tryz.prog Gl cfg)(hc:CfgE cfg){fuel:Nat}{u k:Int}(hj:j<l.length)(hl2:l.length<900)(hfu:l.length+10≤fuel)(hv:∀ e,e∈l→EtOK cd e)
 (hck:∀ callE,Nai cfg callE 47 [.agg (Cd.cs cd)]=some (.i .i64 0)) (hO:cd.O.length≤reachBytes) (hT:cd.T.length≤64) (hd:DE st B A W D V R cd z l j ov) :
 ∃ r st',NaK cfg (fuel+8) 93 [.i .i64 u,.i .i64 k,.ptr B 0,.ptr A 0,.ptr W 0] st=some (r,st')∧SeR st st' W (thL l) j r (Ngn cd l j u k):=by
 refine NaB (hc.fn _ _ (by kernel_rfl):cfg.fn 93=some m93) ?_;delta m93 Qa Qr Qf Qg Qc Ql Qt Qn Qs Qk Qm Qh Qi Qv Qo;obtain⟨lB,lA,lW,lD,nB,nA,nD,hB,hA,hD,hw,htp⟩:=hd;have hrb:reachBytes=140737488351232:=rfl;have hlv:=NaC z l.length (l.flatMap Et.cs);have hE:=NaM Et.cs_len l;obtain⟨sb,hsb⟩:∃ sb,Ngn cd l j u k=sb:=⟨_,rfl⟩;rw[hsb];unfold Ngn at hsb;have hzl:=NaD (z:=z) (cs:=l.flatMap Et.cs) hj;rw[hzl]at hD;have hlT:=fun st=>Nim (st:=st) hj;have htj:l[j].T=thL l j:=by unfold thL;rw[NeR hj]
 rw[htj]at hlT;have hsJ:=Nm0 (l:=l) (j:=j) Zaa;have hsJ1:=Nm0 (l:=l) (j:=j+1) Zaa;obtain⟨sto0,c0⟩:=st;simp only at lB lA lW lD;have kB:∀ n',St.get ⟨sto0,n'⟩ B=_:=fun _=>hB;have kA:∀ n',St.get ⟨sto0,n'⟩ A=_:=fun _=>hA;have kD:∀ n',St.get ⟨sto0,n'⟩ D=_:=fun _=>hD;obtain⟨X,hX⟩:∃ X:PV→St→Prop,X=fun r st'=>SeR ⟨sto0,c0⟩ st' W (thL l) j r sb:=⟨_,rfl⟩
 simp only[show ∀ r st',SeR ⟨sto0,c0⟩ st' W (thL l) j r sb=X r st' from fun _ _=>by rw[hX]];simp only[Nao];have fin:∀ (n':Nat),c0≤n'→sb=true→X (.b true) ⟨sto0,n'⟩:=fun n' h h2=>by
  subst hX;rw[h2];exact⟨rfl,hw.move h lW fun _ _=>rfl,fun _ _ _=>rfl,h⟩
 by_cases c1:u<0
 ·rw[decide_eq_true c1]at hsb
  iterate 4
   (try rw[Z0]);(try simp(maxSteps:=9^7)(disch:=first|omega|rfl|assumption)only[↓Yaa,Yab,Nae,Naa,rA,rB,rC,rD,reduceIte,unP,rE,kB,kA,kD,hlv,hE,hlT])
  exact⟨nofun,_,rfl,by simp only[NaF,Yad,if_true];exact fin _ Zaa (by rw[←hsb];rfl)⟩
 by_cases c2:u=thL l j
 ·have b2:(u==thL l j)=true:=by simpa using c2
  rw[decide_eq_true c2]at hsb
  iterate 4
   (try rw[Z0]);(try simp(maxSteps:=9^7)(disch:=first|omega|rfl|assumption)only[↓Yaa,Yab,Nae,Naa,rA,rB,rC,rD,reduceIte,unP,rE,kB,kA,kD,hlv,hE,hlT,b2])
  exact⟨nofun,_,rfl,by simp only[NaF,Yad,if_true];exact fin _ Zaa (by rw[←hsb];simp)⟩
 have b2:(u==thL l j)=false:=by simpa using c2
 by_cases c3:k<1
 ·rw[decide_eq_true c3]at hsb;have c3':k<((1:Nat):Int):=c3
  iterate 4
   (try rw[Z0]);(try simp(maxSteps:=9^7)(disch:=first|omega|rfl|assumption)only[↓Yaa,Yab,Nae,Naa,rA,rB,rC,rD,reduceIte,unP,rE,kB,kA,kD,hlv,hE,hlT,b2])
  exact⟨nofun,_,rfl,by simp only[NaF,Yad,if_true];exact fin _ Zaa (by rw[←hsb];simp)⟩
 rw[decide_eq_false c1,decide_eq_false c2,decide_eq_false c3]at hsb;simp only[Bool.false_or]at hsb;have c3':¬ k<((1:Nat):Int):=c3;clear fin
 iterate 3
  (try rw[Z0]);(try simp(maxSteps:=9^7)(disch:=first|omega|rfl|assumption)only[↓Yaa,Yab,Nae,Naa,rA,rB,rC,rD,reduceIte,unP,rE,kB,kA,kD,hlv,hE,hlT,b2])
 obtain⟨o1,ho1⟩:∃ o1,slV cd.zo cd.O.length (cd.O.flatMap Dc.cs)=o1:=⟨_,rfl⟩;obtain⟨o2,ho2⟩:∃ o2,slV cd.zt cd.T.length (cd.T.flatMap Tx.cs)=o2:=⟨_,rfl⟩;have hO1:o1.one=true∧o1.cells=[o1]:=by rw[←ho1];exact⟨Nag _ _ _,Naf _ _ _⟩
 have hO2:o2.one=true∧o2.cells=[o2]:=by rw[←ho2];exact⟨Nag _ _ _,Naf _ _ _⟩
 rw[ho1,ho2]at hD kD;obtain⟨lj,hlj⟩:∃ lj,l.take j=lj:=⟨_,rfl⟩;rw[hlj]at hsJ;have hljn:lj.length=j:=by rw[←hlj,List.length_take];omega
 have hth:∀ i,i<j→thL lj i=thL l i:=fun i hi=>by unfold thL;rw[←hlj,Nrp hi]
 refine NaJ (fun x=>x.env.get 0=.i .i64 u∧x.env.get 1=.i .i64 k∧x.env.get 2=.ptr B 0∧x.env.get 3=.ptr A 0∧x.env.get 4=.ptr W 0∧x.st.get B=some (.cells [.ptr D 0] false)∧x.st.get A=some (.cells [.i .i64 (j:Int)] false)∧x.st.get D=some (.cells [o1,o2,.fsl l.length (l.flatMap Et.cs),ov,.mp V,.mp R] false)∧(WhI x.st W (thL l) j)∧(Top x.st)∧((∀ q,q<c0→q≠W→x.st.get q=St.get ⟨sto0,c0⟩ q))∧(c0≤x.st.cnt)) ?_ ?_
 ·exact⟨Zab,Zab,Zab,Zab,Zab,(kB _),(kA _),(kD _),(hw.move Zac lW fun _ _=>rfl),(htp.le Zaa),(fun _ _ _=>rfl),Zac⟩
 rintro⟨env,⟨sto,c⟩⟩ ⟨g0,g1,g2,g3,g4,kB,kA,kD,hw,ht,kof,cc⟩;try simp only at g0 g1 g2 g3 g4 hw ht cc
 replace kB:∀ n',St.get ⟨sto,n'⟩ B=some (.cells [.ptr D 0] false):=fun _=>kB;replace kA:∀ n',St.get ⟨sto,n'⟩ A=some (.cells [.i .i64 (j:Int)] false):=fun _=>kA;replace kD:∀ n',St.get ⟨sto,n'⟩ D=some (.cells [o1,o2,.fsl l.length (l.flatMap Et.cs),ov,.mp V,.mp R] false):=fun _=>kD;refine NaX (fun x=>∃ (M:Nat),x.env.get 0=.i .i64 u∧x.env.get 1=.i .i64 k∧x.env.get 2=.ptr B 0∧x.env.get 3=.ptr A 0∧x.env.get 4=.ptr W 0∧M<x.st.cnt∧x.st.get B=some (.cells [.ptr D 0] false)∧x.st.get A=some (.cells [.i .i64 (j:Int)] false)∧x.st.get D=some (.cells [o1,o2,.fsl l.length (l.flatMap Et.cs),ov,.mp V,.mp R] false)∧x.st.get W=some (.cells [.mp M] false)∧(SM x.st M 0 (fun u=>plN (thL l) u j))∧((∀ q,q<c0→q≠W→x.st.get q=St.get ⟨sto0,c0⟩ q))∧(c0≤x.st.cnt)) ?_ ?_
 ·intro K1 hK1;try simp only at cc
  rcases hw with kW0|⟨M,hM1,kW0,hS⟩
  ·have kW:∀ n',St.get ⟨sto,n'⟩ W=_:=fun _=>kW0;have hq:Nk1 3 false .nmp .nmp=some (.b true):=rfl
   iterate 4
    (try rw[Z0]);(try simp(maxSteps:=9^7)(disch:=first|omega|rfl|assumption)only[↓Yaa,Yab,Nae,Naa,rA,rB,rC,rD,reduceIte,unP,rE,g0,g1,g2,g3,g4,kB,kA,kD,kW,hq,hsJ])
   obtain⟨M,hM⟩:∃ M,c+16=M:=⟨_,rfl⟩;refine Z9 (k:=j - 0) (fun m x=>∃ (i:Nat),m=j - i∧x.env.get 0=.i .i64 u∧x.env.get 1=.i .i64 k∧x.env.get 2=.ptr B 0∧x.env.get 3=.ptr A 0∧x.env.get 4=.ptr W 0∧x.env.get 37=.fsl j (lj.flatMap Et.cs)∧x.env.get 38=.i .i64 (j:Int)∧x.env.get 39=.i .i64 (i:Int)∧x.st.get B=some (.cells [.ptr D 0] false)∧x.st.get A=some (.cells [.i .i64 (j:Int)] false)∧x.st.get D=some (.cells [o1,o2,.fsl l.length (l.flatMap Et.cs),ov,.mp V,.mp R] false)∧x.st.get W=some (.cells [.mp M] false)∧M<x.st.cnt∧(i≤j)∧(SM x.st M (M+1) (fun u=>plN (thL l) u i))∧((∀ q,q<c0→q≠W→x.st.get q=St.get ⟨sto0,c0⟩ q))∧(c0≤x.st.cnt)∧(c0≤M)∧(Top x.st)) ?_ ?_ Zaa
   ·clear g0 g1 g2 g3 g4 kB kA kD hw ht kof cc;rintro m ⟨env,⟨sto,c⟩⟩ ⟨i,rfl,g0,g1,g2,g3,g4,g37,g38,g39,kB,kA,kD,kW,bM,hi,hS,kof,cc,hMc,ht⟩;try simp only at g0 g1 g2 g3 g4 g37 g38 g39 bM hS cc ht
    replace kB:∀ n',St.get ⟨sto,n'⟩ B=some (.cells [.ptr D 0] false):=fun _=>kB;replace kA:∀ n',St.get ⟨sto,n'⟩ A=some (.cells [.i .i64 (j:Int)] false):=fun _=>kA;replace kD:∀ n',St.get ⟨sto,n'⟩ D=some (.cells [o1,o2,.fsl l.length (l.flatMap Et.cs),ov,.mp V,.mp R] false):=fun _=>kD;replace kW:∀ n',St.get ⟨sto,n'⟩ W=some (.cells [.mp M] false):=fun _=>kW;try simp only at cc
    refine Nfw hok ht ?_;by_cases hil:i<j
    ·obtain⟨e,he⟩:∃ e,lj[i]'Zaa=e:=⟨_,rfl⟩;have hld:=fun st=>NdL (st:=st) (l:=lj) (i:=i) Zaa;simp only[he]at hld;have hEj:=NaM Et.cs_len lj;rw[hljn]at hEj;have het:e.T=thL l i:=by rw[←hth i hil,←he];unfold thL;rw[NeR (show i<lj.length by omega)]
     iterate 5
      (try rw[Z0]);(try simp(maxSteps:=9^7)(disch:=first|omega|rfl|assumption)only[↓Yaa,Yab,Nae,Naa,rA,rB,rC,rD,reduceIte,unP,rE,g0,g1,g2,g3,g4,g37,g38,g39,kB,kA,kD,kW,hld,hEj])
     refine NaJ (fun x=>∃ (E:Nat),x.env.get 0=.i .i64 u∧x.env.get 1=.i .i64 k∧x.env.get 2=.ptr B 0∧x.env.get 3=.ptr A 0∧x.env.get 4=.ptr W 0∧x.env.get 37=.fsl j (lj.flatMap Et.cs)∧x.env.get 38=.i .i64 (j:Int)∧x.env.get 39=.i .i64 (i:Int)∧x.st.get B=some (.cells [.ptr D 0] false)∧x.st.get A=some (.cells [.i .i64 (j:Int)] false)∧x.st.get D=some (.cells [o1,o2,.fsl l.length (l.flatMap Et.cs),ov,.mp V,.mp R] false)∧x.st.get W=some (.cells [.mp M] false)∧M<x.st.cnt∧(SM x.st M (M+1) (fun u=>plN (thL l) u i))∧((∀ q,q<c0→q≠W→x.st.get q=St.get ⟨sto0,c0⟩ q))∧(c0≤x.st.cnt)∧(Top x.st)∧(M<E)∧E<x.st.cnt∧x.env.get 8=.i .i64 (i:Int)∧x.env.get 9=.ptr E 0∧x.st.get E=some (.cells [.i .i64 e.T,.i .u8 (e.O.toNat:Int),.i .i64 e.J,.i .i64 e.A,.i .i64 e.B] false)) ?_ ?_
     ·refine⟨c+32,?_,?_,?_,?_,?_,?_,?_,?_,?_,?_,?_,?_,?_,(hS.move (by first|omega|(simp only[Z0L_];omega)) (by simp(disch:=omega)only[Nar,Nas];rfl) (fun q h1 h2 _=>by simp only at h2;simp(disch:=omega)only[Nar,Nas];rfl)),(fun q h1 h2=>by simp(disch:=omega)only[Nar,Nas];exact kof q h1 h2),?_,(by intro q hq;simp only[Z0L_]at hq;simp(disch:=omega)only[Nar,Nas];exact ht q (by simp only;omega)),?_,?_,?_,?_,?_⟩<;>first|with_reducible rfl|with_reducible assumption|exact kB _|exact kA _|exact kD _|exact kW _|exact kE _|(simp[Yad,g0,g1,g2,g3,g4,g37,g38,g39]<;>omega)|(simp(disch:=omega)only[Nar,Nas,Yaf,kB,kA,kD,kW];first|done|with_reducible rfl|with_reducible assumption)|omega|(simp only[Z0L_,Nax];omega)|(simp only;omega)|assumption|rfl|(simp;omega)|(simp;done)
     clear g0 g1 g2 g3 g4 g37 g38 g39 kB kA kD kW bM hS kof cc ht;rintro⟨env,⟨sto,c⟩⟩ ⟨E,g0,g1,g2,g3,g4,g37,g38,g39,kB,kA,kD,kW,bM,hS,kof,cc,ht,oE,bE,g8,g9,kE⟩;try simp only at g0 g1 g2 g3 g4 g37 g38 g39 bM hS cc ht bE g8 g9
     replace kB:∀ n',St.get ⟨sto,n'⟩ B=some (.cells [.ptr D 0] false):=fun _=>kB;replace kA:∀ n',St.get ⟨sto,n'⟩ A=some (.cells [.i .i64 (j:Int)] false):=fun _=>kA;replace kD:∀ n',St.get ⟨sto,n'⟩ D=some (.cells [o1,o2,.fsl l.length (l.flatMap Et.cs),ov,.mp V,.mp R] false):=fun _=>kD;replace kW:∀ n',St.get ⟨sto,n'⟩ W=some (.cells [.mp M] false):=fun _=>kW;replace kE:∀ n',St.get ⟨sto,n'⟩ E=some (.cells [.i .i64 e.T,.i .u8 (e.O.toNat:Int),.i .i64 e.J,.i .i64 e.A,.i .i64 e.B] false):=fun _=>kE;obtain⟨es,f,qS,mS,oS,lS,dS⟩:=hS;obtain⟨sv',hsv'⟩:∃ sv',(f e.T).getD .nsl=sv':=⟨_,rfl⟩;have own':=oS e.T;simp only[hsv']at own';have hmt':Na3 0 (.i .i64 e.T) es=some (f e.T):=mS.get e.T;have kS':∀ n',St.get ⟨sto,n'⟩ M=some (.map es):=fun _=>qS;have lk':∀ k,k∈keyOf sv'→M+1≤k:=fun k hk=>lS e.T k (by rw[hsv'];exact hk);have natC:∀ {k:Nat}{x:PV}{xs:List PV}{sn:List Nat},Own ⟨sto,c⟩ 1 sv' sn.length (sn.map Njj)→k∈keyOf sv'→St.get ⟨sto,c⟩ k=some (.cells (x::xs) false)→∃ a:Nat,x=Njj a:=by
      intro k x xs sn ho hk hg;rcases ho with⟨rfl,_⟩|⟨ks,rfl,gks,hks,_⟩
      ·simp[keyOf]at hk
      ·simp only[keyOf,List.mem_singleton]at hk;subst hk;rw[hg]at gks;simp only[Sj,PObj.cells.injEq,and_true]at gks;cases hs:sn with
       |nil=>rw[hs]at gks;cases gks
       |cons a r=>rw[hs]at gks;simp only[List.map_cons,List.cons.injEq]at gks;exact⟨a,gks.1⟩
     have nE:E∉keyOf sv':=fun h=>by
      rcases own' with⟨rfl,_⟩|⟨ks,rfl,gks,hks,_⟩
      ·simp[keyOf]at h
      ·simp only[keyOf,List.mem_singleton]at h;subst h;rw[kE]at gks;simp only[Sj,PObj.cells.injEq,and_true]at gks;have:=congrArg (fun a=>a[1]?) gks;simp only[List.getElem?_cons_succ,List.getElem?_cons_zero,List.getElem?_map]at this;cases h:(plN (thL l) e.T i)[1]? with
       |none=>rw[h]at this;cases this
       |some v=>rw[h]at this;simp[Njj]at this
     refine Neq (NcN hok _) (NcY hok _).2 (M::keyOf sv') (by rfl) (ns:=[true,true,true,false,false,false,false,false,false,false,false]) (by rfl) ht ?_;have kn:∀ d,c+d∉M::keyOf sv':=fun d h=>by
      rcases List.mem_cons.1 h with h|h
      ·omega
      ·have:=own'.lt _ h;simp only at this;omega
     have kn0:c∉M::keyOf sv':=kn 0;have hnn:∀ d n',St.get ⟨sto,n'⟩ (c+d)=none:=fun d _=>ht (c+d) Zad;have hnn0:∀ n',St.get ⟨sto,n'⟩ c=none:=fun n'=>hnn 0 n';have nES:E∉M::keyOf sv':=fun h=>by
      rcases List.mem_cons.1 h with h|h
      ·omega
      ·exact nE h
     have nWS:W∉M::keyOf sv':=fun h=>by
      rcases List.mem_cons.1 h with h|h
      ·omega
      ·have:=lk' W h;omega
     (first|rw[Nau]|rw[Nap]);(try simp(maxSteps:=9^7)(disch:=first|omega|rfl|assumption)only[↓Yaa,Yac,Nae,Naa,rA,rB,rC,rD,reduceIte,unP,Xl,rE,NaO,NaL,NaN,Nak,Naj,Nan,Nal,g4,g9,g8,kE,kW,kS',hmt',Option.map_some,hsv',NbL,NbM]);(first|rw[Nau]|rw[Nap]);(try simp(maxSteps:=9^7)(disch:=first|omega|rfl|assumption)only[↓Yaa,Yac,Nae,Naa,rA,rB,rC,rD,reduceIte,unP,Xl,rE,NaO,NaL,NaN,Nak,Naj,Nan,Nal,g4,g9,g8,kE,kW,kS',hmt',Option.map_some,hsv',NbL,NbM]);(first|rw[Nau]|rw[Nap]);(try simp(maxSteps:=9^7)(disch:=first|omega|rfl|assumption)only[↓Yaa,Yac,Nae,Naa,rA,rB,rC,rD,reduceIte,unP,Xl,rE,NaO,NaL,NaN,Nak,Naj,Nan,Nal,g4,g9,g8,kE,kW,kS',hmt',Option.map_some,hsv',NbL,NbM]);refine⟨⟨kn0,fun _ k o h=>by cases h;exact⟨by omega,nWS⟩⟩,Nbc rfl (Nou _) (hnn0 _),by rw[NaN _ _ _ _ _ _ _ rfl rfl];exact kn 8,Nbc rfl (NiA _ _) (hnn 8 _),⟨kn 16,fun _ k o h=>by cases h;exact⟨by omega,nES⟩⟩,Nbc rfl (Nos _ _) (hnn 16 _),?_⟩;(first|rw[Nau]|rw[Nap]);(try simp(maxSteps:=9^7)(disch:=first|omega|rfl|assumption)only[↓Yaa,Yac,Nae,Naa,rA,rB,rC,rD,reduceIte,unP,Xl,rE,NaO,NaL,NaN,Nak,Naj,Nan,Nal,g4,g9,g8,kE,kW,kS',hmt',Option.map_some,hsv',NbL,NbM]);(first|rw[Nau]|rw[Nap]);(try simp(maxSteps:=9^7)(disch:=first|omega|rfl|assumption)only[↓Yaa,Yac,Nae,Naa,rA,rB,rC,rD,reduceIte,unP,Xl,rE,NaO,NaL,NaN,Nak,Naj,Nan,Nal,g4,g9,g8,kE,kW,kS',hmt',Option.map_some,hsv',NbL,NbM]);(first|rw[Nau]|rw[Nap]);(try simp(maxSteps:=9^7)(disch:=first|omega|rfl|assumption)only[↓Yaa,Yac,Nae,Naa,rA,rB,rC,rD,reduceIte,unP,Xl,rE,NaO,NaL,NaN,Nak,Naj,Nan,Nal,g4,g9,g8,kE,kW,kS',hmt',Option.map_some,hsv',NbL,NbM]);(first|rw[Nau]|rw[Nap]);(try simp(maxSteps:=9^7)(disch:=first|omega|rfl|assumption)only[↓Yaa,Yac,Nae,Naa,rA,rB,rC,rD,reduceIte,unP,Xl,rE,NaO,NaL,NaN,Nak,Naj,Nan,Nal,g4,g9,g8,kE,kW,kS',hmt',Option.map_some,hsv',NbL,NbM]);refine⟨⟨kn 24,nofun⟩,NaA rfl,Nbn (kn 32),NaA rfl,⟨kn 40,nofun⟩,NaA rfl,Nbn (kn 48),NaA rfl,?_⟩;(first|rw[Nau]|rw[Nap]);(try simp(maxSteps:=9^7)(disch:=first|omega|rfl|assumption)only[↓Yaa,Yac,Nae,Naa,rA,rB,rC,rD,reduceIte,unP,Xl,rE,NaO,NaL,NaN,Nak,Naj,Nan,Nal,g4,g9,g8,kE,kW,kS',hmt',Option.map_some,hsv',NbL,NbM]);(first|rw[Nau]|rw[Nap]);(try simp(maxSteps:=9^7)(disch:=first|omega|rfl|assumption)only[↓Yaa,Yac,Nae,Naa,rA,rB,rC,rD,reduceIte,unP,Xl,rE,NaO,NaL,NaN,Nak,Naj,Nan,Nal,g4,g9,g8,kE,kW,kS',hmt',Option.map_some,hsv',NbL,NbM]);refine⟨Nbn (kn 56),NaA rfl,Nbn (kn 64),NaA rfl,?_⟩;(first|rw[Nau]|rw[Nap]);(try simp(maxSteps:=9^7)(disch:=first|omega|rfl|assumption)only[↓Yaa,Yac,Nae,Naa,rA,rB,rC,rD,reduceIte,unP,Xl,rE,NaO,NaL,NaN,Nak,Naj,Nan,Nal,Nay]);have lt':∀ k,k∈keyOf sv'→k<c:=fun k hk=>own'.lt k hk;have hpl:(plN (thL l) e.T i).length≤i:=by
      have:=NhO (th:=thL l) (u:=e.T) i;have:=Nln (th:=thL l) e.T i;omega
     refine⟨by rw[NaL _ _ _ _ _ _ _ rfl];trivial,?_⟩;refine Ncw (own'.move (by simp only[Z0L_];omega) fun k hk _=>by have:=lt' k hk;simp(disch:=omega)only[Nas];rfl) (by simp only[Z0L_];omega) (fun h=>by have:=lt' _ h;omega) rfl Zaa (by unfold Na0;omega) ?_;intro v' st' hown hcnt hkey hj';simp only[Z0L_]at hcnt;have pz:∀ k,k≠c+64→k≠c+72→k∉keyOf sv'→st'.get k=St.get ⟨sto,c⟩ k:=fun k a b d=>(hj' k b d).trans (by rw[Yae (Ne.symm a)];rfl);have nS:M∉keyOf sv':=fun h=>by have:=lk' M h;omega
     have nB':∀ q,q≤M→q∉keyOf sv':=fun q hq h=>by have:=lk' q h;omega
     obtain⟨es4,hp4,mS4⟩:=MK.put NcC e.T v' mS;have hp:Nbm 0 (.i .i64 e.T) v' es=some es4:=hp4;have gS:st'.get M=some (.map es):=(pz M Zaa Zaa nS).trans qS;refine⟨by rw[Naj _ _ _ _ _ _ _ rfl];exact fun k a b=>hj' k a fun h=>b (List.mem_cons_of_mem _ h),?_⟩;(first|rw[Nau]|rw[Nap]);(try simp(maxSteps:=9^7)(disch:=first|omega|rfl|assumption)only[↓Yaa,Yac,Nae,Naa,rA,rB,rC,rD,reduceIte,unP,Xl,rE,NaO,NaL,NaN,Nak,Naj,Nan,Nal,gS,hp,Option.map_some]);refine⟨by rw[NaL _ _ _ _ _ _ _ rfl];trivial,by rw[Naj _ _ _ _ _ _ _ rfl];exact fun k a b=>Yae fun h=>b (by rw[←h];exact List.mem_cons_self),?_⟩;rw[NfS];simp(disch:=first|omega|rfl|assumption)only[↓Yaa,Yac,Nae,Naa,rA,rB,rC,rD,reduceIte,unP,Xm,rE,g0,g1,g2,g3,g4,g37,g38,g39];intro ht2;have qz:∀ k n',k≠M→St.get ⟨(St.put st' M (some (.map es4))).sto,n'⟩ k=st'.get k:=fun k n' hk=>by
      show St.get (St.put st' M _) k=_;exact Yae (Ne.symm hk)
     have low:∀ k,k<M→st'.get k=St.get ⟨sto,c⟩ k:=fun k hk=>pz k Zaa Zaa (nB' k Zaa);have hpl1:∀ o,plN (thL l) o (i+1)=if o=e.T then plN (thL l) o i++[i]else plN (thL l) o i:=fun o=>by
      rw[plN,←het];by_cases h:o=e.T
      ·rw[if_pos h,if_pos h.symm]
      ·rw[if_neg h,if_neg (fun a=>h a.symm)]
     refine⟨j - (i+1),by omega,i+1,rfl,rfl,(low B Zaa).trans (kB _),(low A Zaa).trans (kA _),(low D Zaa).trans (kD _),(low W Zaa).trans (kW _),by omega,?_,fun q h1 h2=>?_,ht2⟩
     ·refine⟨es4,_,by show St.get (St.put st' M _) M=_;rw[Yaf],mS4,fun o=>?_,fun o k hk=>?_,fun o o' k hne hk hk'=>?_⟩
      ·by_cases ho:o=e.T
       ·subst ho;simp only[hpl1,if_true];rw[List.length_append,List.map_append];exact hown.move (by simp only[Z0L_];omega) fun k hk _=>qz k _ (fun h=>by have:=hkey k hk;omega)
       ·simp only[hpl1,if_neg ho];refine(oS o).move (by simp only[Z0L_];omega) fun k hk hlt=>?_;have h1:=lS o k hk;simp only at hlt;rw[qz k _ Zaa];exact pz k Zaa Zaa (fun h=>dS o e.T k ho hk (by rw[hsv'];exact h))
      ·by_cases ho:o=e.T
       ·rw[if_pos ho]at hk;have:=hkey k hk;omega
       ·rw[if_neg ho]at hk;exact lS o k hk
      ·have hlt:=fun o k hk=>(oS o).lt k hk;simp only at hlt;by_cases ho:o=e.T
       ·by_cases ho':o'=e.T
        ·exact hne (ho.trans ho'.symm)
        ·rw[if_pos ho]at hk;rw[if_neg ho']at hk';have:=hkey k hk;have:=hlt o' k hk';omega
       ·rw[if_neg ho]at hk;by_cases ho':o'=e.T
        ·rw[if_pos ho']at hk';have:=hkey k hk';have:=hlt o k hk;omega
        ·rw[if_neg ho']at hk';exact dS o o' k hne hk hk'
     ·exact(qz q st'.cnt Zaa).trans ((low q Zaa).trans (kof q h1 h2))
    ·have hie:i=j:=(by omega);subst hie
     iterate 4
      (try rw[Z0]);(try simp(maxSteps:=9^7)(disch:=first|omega|rfl|assumption)only[↓Yaa,Yab,Nae,Naa,rA,rB,rC,rD,reduceIte,unP,rE,g0,g1,g2,g3,g4,g37,g38,g39,kB,kA,kD,kW])
     intro ht2;refine hK1 _ ⟨M,?_,?_,?_,?_,?_,?_,?_,?_,?_,?_,(by obtain⟨es,f,q1,q2,q3,q4,q5⟩:=hS;exact⟨es,f,q1,q2,fun o=>(q3 o).move (by first|omega|(simp only;omega)) fun _ _ _=>rfl,fun _ _ _=>Nat.zero_le _,q5⟩),kof,Zac⟩<;>first|with_reducible rfl|with_reducible assumption|exact kB _|exact kA _|exact kD _|exact kW _|(simp[Yad,g0,g1,g2,g3,g4,g37,g38,g39]<;>omega)|omega|(simp only[Z0L_,Nax];omega)|(simp only;omega)|(simp(disch:=omega)only[Nar,Nas,Yaf,kB,kA,kD,kW];first|done|with_reducible rfl|with_reducible assumption)
   ·skip
    refine⟨0,rfl,?_,?_,?_,?_,?_,?_,?_,?_,?_,?_,?_,(by rw[←hM];exact Yaf _ _ _),?_,?_,(SM.zero (by rw[←hM];show St.get (St.put (St.put ⟨sto,c+32⟩ (c+16) _) W _) (c+16)=_;rw[Yae Zaa];exact Yaf _ _ _)),(fun q h1 h2=>by simp(disch:=omega)only[Nar,Nas];exact kof q h1 h2),Zac,?_,(by intro q hq;simp only at hq;simp(disch:=omega)only[Nar,Nas];exact ht q (by simp only;omega))⟩<;>first|with_reducible rfl|with_reducible assumption|exact kB _|exact kA _|exact kD _|(simp[Yad,g0,g1,g2,g3,g4]<;>omega)|(simp(disch:=omega)only[Nar,Nas,Yaf,kB,kA,kD];first|done|with_reducible rfl|with_reducible assumption)|omega|(simp only[Z0L_,Nax];omega)|(simp only;omega)|assumption|rfl|(simp;omega)|(simp;done)
  ·have kW:∀ n',St.get ⟨sto,n'⟩ W=_:=fun _=>kW0;have hq:Nk1 3 false (.mp M) .nmp=some (.b false):=rfl;simp only at hM1
   iterate 4
    (try rw[Z0]);(try simp(maxSteps:=9^7)(disch:=first|omega|rfl|assumption)only[↓Yaa,Yab,Nae,Naa,rA,rB,rC,rD,reduceIte,unP,rE,g0,g1,g2,g3,g4,kB,kA,kD,kW,hq])
   refine hK1 _ ⟨M,?_,?_,?_,?_,?_,?_,?_,?_,?_,(kW _),(hS.move Zac rfl fun _ _ _ _=>rfl),kof,Zac⟩<;>first|with_reducible rfl|with_reducible assumption|exact kB _|exact kA _|exact kD _|(simp[Yad,g0,g1,g2,g3,g4]<;>omega)|omega|(simp only[Z0L_,Nax];omega)|(simp only;omega)|(simp(disch:=omega)only[Nar,Nas,Yaf,kB,kA,kD];first|done|with_reducible rfl|with_reducible assumption)
 clear g0 g1 g2 g3 g4 kB kA kD hw ht kof cc;rintro⟨env,⟨sto,c⟩⟩ ⟨M,g0,g1,g2,g3,g4,bM,kB,kA,kD,kW,hS,kof,cc⟩;try simp only at g0 g1 g2 g3 g4 bM hS cc
 replace kB:∀ n',St.get ⟨sto,n'⟩ B=some (.cells [.ptr D 0] false):=fun _=>kB;replace kA:∀ n',St.get ⟨sto,n'⟩ A=some (.cells [.i .i64 (j:Int)] false):=fun _=>kA;replace kD:∀ n',St.get ⟨sto,n'⟩ D=some (.cells [o1,o2,.fsl l.length (l.flatMap Et.cs),ov,.mp V,.mp R] false):=fun _=>kD;replace kW:∀ n',St.get ⟨sto,n'⟩ W=some (.cells [.mp M] false):=fun _=>kW;obtain⟨es,f,qS,mS,oS,lS,dS⟩:=hS;obtain⟨sv,hsv⟩:∃ sv,(f u).getD .nsl=sv:=⟨_,rfl⟩;have own:=oS u;simp only[hsv]at own;have hmt:Na3 0 (.i .i64 u) es=some (f u):=mS.get u;have kS:∀ n',St.get ⟨sto,n'⟩ M=some (.map es):=fun _=>qS;obtain⟨pl,hpl⟩:∃ pl,plN (thL l) u j=pl:=⟨_,rfl⟩;have hpn:pl.length≤j:=by
  have:=NhO (th:=thL l) (u:=u) j;have:=Nln (th:=thL l) u j;rw[hpl]at *;omega
 rw[hpl]at own hsb;have hlo:=own.len;have wiF:∀ n',c≤n'→WhI ⟨sto,n'⟩ W (thL l) j:=fun n' hn=>.inr ⟨M,by simp only;omega,kW _,es,f,qS,mS,fun o=>(oS o).move hn fun _ _ _=>rfl,fun _ _ _=>Nat.zero_le _,dS⟩;by_cases hkn:k≤(pl.length:Int)
 ·obtain⟨m,rfl⟩:∃ m:Nat,k=(m:Int)+1:=⟨(k - 1).toNat,by omega⟩;have hm:m<pl.length:=by omega
  obtain⟨q,rfl,gq,lq,bq⟩:=own.obj Zaa;have kq:∀ n',St.get ⟨sto,n'⟩ q=_:=fun _=>gq;have hw1:IntKind.i64.wrap ((m:Int)+1 - ((1:Nat):Int))=(m:Int):=by rw[NbI _ ⟨by omega,by omega⟩];omega
  have hm1:((m:Int)+1 - 1).toNat=m:=by omega
  rw[decide_eq_true hkn,Bool.true_and,hm1,List.getD_eq_getElem?_getD,List.getElem?_eq_getElem hm,Option.getD_some]at hsb;have hna:=Noc hm;have hnl:=Nl4 pl;have hb0:=NiK hc.toCfgA (fuel:=fuel) (z:=false) (l:=l.take (j+1)) (i:=((pl[m]:Nat):Int)) (j:=(j:Int)) (hck _) (by rw[List.length_take];omega) (by rw[List.length_take];omega) hO Zaa (fun _=>hT);rw[hsb,NpH,show(l.take (j+1)).length=j+1 by rw[List.length_take];omega]at hb0;unfold Cd.cs at hb0;rw[ho1,ho2]at hb0;have hdg:∀ st,Go.Pe.deep st 12 (.agg [o1,o2])=some (.agg [o1,o2]):=fun st=>by
   have:=Nbu (st:=st) (cd:=cd);unfold Cd.cs at this;rw[ho1,ho2]at this;exact this
  iterate 3
   (try rw[Z0]);(try simp(maxSteps:=9^7)(disch:=first|omega|rfl|assumption)only[↓Yaa,Yab,Nae,Naa,rA,rB,rC,rD,reduceIte,unP,rE,g0,g1,g2,g3,g4,kB,kA,kD,kW,kS,hmt,Option.map_some,hsv,hlo,hw1,kq,hna,hnl,hsJ1])
  refine NbO (Nns (hdg _) rfl rfl rfl) hb0 rfl rfl ?_;subst hX;refine⟨nofun,_,rfl,?_⟩;simp only[NaF,Yad,if_true];exact⟨rfl,wiF _ Zaa,fun q h1 h2=>kof q h1 h2,by first|omega|(simp only;omega)⟩
 ·rw[decide_eq_false hkn,Bool.false_and]at hsb
  iterate 3
   (try rw[Z0]);(try simp(maxSteps:=9^7)(disch:=first|omega|rfl|assumption)only[↓Yaa,Yab,Nae,Naa,rA,rB,rC,rD,reduceIte,unP,rE,g0,g1,g2,g3,g4,kB,kA,kD,kW,kS,hmt,Option.map_some,hsv,hlo])
  subst hX;refine⟨nofun,_,rfl,?_⟩;simp only[NaF,Yad,if_true];rw[←hsb];exact⟨rfl,wiF _ Zaa,fun q h1 h2=>kof q h1 h2,by first|omega|(simp only;omega)⟩
end
end Go.Pe
