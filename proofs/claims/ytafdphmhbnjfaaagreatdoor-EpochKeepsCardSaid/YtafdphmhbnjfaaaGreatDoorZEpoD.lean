/-
 Epochs: what is kept behind a read and behind a write: walked. No condition.
-/
import Derived.Test.YtafdphmhbnjfaaaGreatDoorZEpoC
set_option linter.unusedVariables false
set_option linter.unusedSimpArgs false
set_option maxHeartbeats 8000000
open Nat renaming reduceAdd → rA,reduceMul → rB,reduceLT → rC,reduceEqDiff → rD,reduceLeDiff → rE
namespace Go.Pe
open Go Go.Am Go.RowKit
section
variable {st:St}{W j B A D V R b P:Nat}{ov x y u w v:PV}{cd:Cd}{z f:Bool}{l:List Et}{a:List Int}{o:Option PObj}
theorem NmZ{cfg:Cfg}{Gl:Gmap}(hok:CfgOK Go.Proofs.Tryz.prog Gl cfg)(hc:CfgE cfg){fuel:Nat}{u k:Int}(hj:j<l.length)(hl2:l.length<900)(hfu:l.length+10≤fuel)(hv:∀ e,e∈l→EtOK cd e)
 (hck:∀ callE,Nai cfg callE 47 [.agg (Cd.cs cd)]=some (.i .i64 0)) (hO:cd.O.length≤reachBytes) (hT:cd.T.length≤64) (hd:DE st B A W D V R cd z l j ov) :
 ∃ r st',NaK cfg (fuel+8) 93 [.i .i64 u,.i .i64 k,.ptr B 0,.ptr A 0,.ptr W 0] st=some (r,st')∧r=.b (Ngn cd l j u k)∧DE st' B A W D V R cd z l j ov∧(∀ q,q<st.cnt→q≠W→st'.get q=st.get q)∧st.cnt≤st'.cnt:=by
 obtain⟨r,st',h1,h2⟩:=Nro (u:=u) (k:=k) hok hc hj hl2 hfu hv hck hO hT hd;exact⟨r,st',h1,h2.res,hd.after h2 (Ndq hok _ _ _ _ _ _ h1 hd.top),h2.fr,h2.cnt⟩
def snC(s:Sn)(v:PV):List PV:=[.i .i64 s.W,.i .i64 s.wn,.i .i64 s.R,.i .i64 s.rn,v]
structure RdR(st st':St)(B A W D V R:Nat)(cd:Cd)(z:Bool)(l:List Et)(j:Nat)(ov r:PV)(p:Sn×Bool):Prop where
 res:∃ v,r=.tup [.agg (snC p.1 v),.b p.2]∧CV st' st'.cnt v p.1.Rs
 de:DE st' B A W D V R cd z l j ov
 fr:∀ k,k<st.cnt→k≠W→st'.get k=st.get k
 cnt:st.cnt≤st'.cnt
theorem NdS(l:List Int)(t:Nat)(k:Int):NcK l t k≠[]:=fun h=>by
 have:=Nce l t k;rw[h]at this;simp at this;omega
theorem Nef{l:List Int}(h:l≠[]):Nga l=.osl 1 l.length (NaI l):=if_neg h
theorem CV.lenP(h:CV st b v a):Go.Pe.lenP v=some (.i .i64 (a.length:Int)):=by
 rcases h with⟨rfl,rfl⟩|⟨_,k,rfl,_⟩<;>rfl
theorem CV.noI(h:CV st b v a):∀ k n,v≠.i k n:=by
 rcases h with⟨rfl,_⟩|⟨_,q,rfl,_⟩<;>exact nofun
theorem Ngb{z:PV}(h:[x,y,z,u,w]=NaI a)(hw:∀ k n,w≠.i k n):False:=by
 have:=congrArg (fun l=>l[4]?) h;simp only[List.getElem?_cons_succ,List.getElem?_cons_zero,NaI,List.getElem?_map]at this;cases h:a[4]? with
 |none=>rw[h]at this;cases this
 |some n=>rw[h]at this;simp only[Option.map_some,Sj]at this;exact hw _ _ this
theorem CV.put5{z:PV}(h:CV st b v a)(hP:st.get P=some (.cells [x,y,z,u,w] f))(hw:∀ k n,w≠.i k n):CV (st.put P o) b v a:=by
 refine h.move (Nat.le_refl _) fun q _ hq=>Yae ?_;rintro rfl;rcases h with⟨rfl,_⟩|⟨_,k,rfl,_,hk⟩
 ·simp[keyOf]at hq
 ·simp only[keyOf,List.mem_singleton]at hq;subst hq;rw[hP]at hk;simp only[Sj,PObj.cells.injEq]at hk;exact Ngb hk.1 hw
theorem WhI.put5{th:Nat→Int}{z:PV}(h:WhI st W th j)(hP:st.get P=some (.cells [x,y,z,u,w] f))(hw:∀ k n,w≠.i k n)(hW:P≠W):WhI (st.put P o) W th j:=by
 rcases h with h|⟨M,h1,h2,h3⟩
 ·exact .inl ((Yae hW).trans h)
 ·have hM:P≠M:=by
   rintro rfl;obtain⟨es,f,q1,_⟩:=h3;rw[hP]at q1;cases q1
  refine .inr ⟨M,h1,(Yae hW).trans h2,h3.move (Nat.le_refl _) (Yae hM) fun q _ _ ⟨a,ha⟩=>Yae ?_⟩;rintro rfl;rw[hP]at ha;simp only[Sj,PObj.cells.injEq,and_true]at ha;have e:a.map Njj=NaI (a.map fun n:Nat=>(n:Int)):=by simp[Njj,NaI]
  rw[e]at ha;exact Ngb ha.1 hw
theorem DE.put5{z':PV}(h:DE st B A W D V R cd z l j ov)(hP:st.get P=some (.cells [x,y,z',u,w] f))(hw:∀ k n,w≠.i k n)(lP:P<st.cnt)(nB:P≠B)(nA:P≠A)(nW:P≠W)(nD:P≠D):DE (st.put P o) B A W D V R cd z l j ov :=
 ⟨h.lB,h.lA,h.lW,h.lD,h.nB,h.nA,h.nD,(Yae nB).trans h.gB,(Yae nA).trans h.gA,(Yae nD).trans h.gD,h.wi.put5 hP hw nW,h.top.put lP⟩
theorem Nht{w1 v1 w2 v2 w3 v3:PV}(h1:Go.Pe.deep st 12 w1=some v1)(h2:Go.Pe.deep st 12 w2=some v2)(h3:Go.Pe.deep st 12 w3=some v3):Nbg st [w1,w2,w3]=some [v1,v2,v3]:=by
 have h1':Go.Pe.deep st NbU w1=some v1:=h1;have h2':Go.Pe.deep st NbU w2=some v2:=h2;have h3':Go.Pe.deep st NbU w3=some v3:=h3;unfold Nbg;simp only[mapO,h1',h2',h3']
theorem DE.le{sto:Trie PObj}{c c':Nat}(h:DE ⟨sto,c⟩ B A W D V R cd z l j ov)(hc:c≤c'):DE ⟨sto,c'⟩ B A W D V R cd z l j ov:=h.move hc (fun _ _=>rfl) (h.top.le hc)
theorem Nop{cfg:Cfg}{Gl:Gmap}(hok:CfgOK Go.Proofs.Tryz.prog Gl cfg)(hc:CfgE cfg){fuel:Nat}{rv:PV}{t n:Int}{s:Sn}(hj:j<l.length)(hl2:l.length<900)(hfu:l.length+100≤fuel)(hv:∀ e,e∈l→EtOK cd e)
 (hck:∀ callE,Nai cfg callE 47 [.agg (Cd.cs cd)]=some (.i .i64 0)) (hO:cd.O.length≤reachBytes) (hT:cd.T.length≤64) (hd:DE st B A W D V R cd z l j ov) (hs:CV st st.cnt rv s.Rs) (hsW:∀ k,k∈keyOf rv→k≠W) (hk:Kept cd.T.length s) (t0:0≤t) (t1:t<cd.T.length) :
 ∃ r st',NaK cfg (fuel+9) 57 [.agg (snC s rv),.i .i64 t,.i .i64 n,.fn 93 [.ptr B 0,.ptr A 0,.ptr W 0]] st=some (r,st')∧RdR st st' B A W D V R cd z l j ov r (NdT (Ngn cd l j) t n s):=by
 refine NaB (hc.fn _ _ (by kernel_rfl):cfg.fn 57=some m57) ?_;delta m57 Qa Qr Qg Ql Qt Qn Qs Qk Qm Qh Qi Qu Qv Qw snC;obtain⟨p,hp⟩:∃ p,NdT (Ngn cd l j) t n s=p:=⟨_,rfl⟩;rw[hp];unfold NdT at hp;obtain⟨sto0,c0⟩:=st;obtain⟨X,hX⟩:∃ X:PV→St→Prop,X=fun r st'=>RdR ⟨sto0,c0⟩ st' B A W D V R cd z l j ov r p:=⟨_,rfl⟩
 simp only[show ∀ r st',RdR ⟨sto0,c0⟩ st' B A W D V R cd z l j ov r p=X r st' from fun _ _=>by rw[hX]];have hsc:=fun u k st h=>NmZ (u:=u) (k:=k) (st:=st) (fuel:=fuel) (B:=B) (A:=A) (W:=W) (D:=D) (V:=V) (R:=R) (ov:=ov) (z:=z) hok hc hj hl2 Zaa hv hck hO hT h;have lW0:W<c0:=hd.lW;have lB0:B<c0:=hd.lB;have lA0:A<c0:=hd.lA;have lD0:D<c0:=hd.lD;have hs1:=hs.one;have hs2:=hs.cells1;have hcb:∀ k,k∈keyOf rv→k<c0:=fun k h=>hs.bound h;simp only[Nao];(try rw[Z0]);(try simp(maxSteps:=9^7)(disch:=first|omega|rfl|assumption)only[↓Yaa,Yab,Nae,Naa,rA,rB,rC,rD,reduceIte,unP,rE,hs1,hs2]);refine NaJ (fun x=>∃ (P:Nat) (Q:Nat),P<x.st.cnt∧(P<Q)∧Q<x.st.cnt∧x.env.get 1=.i .i64 t∧x.env.get 2=.i .i64 n∧x.env.get 3=.fn 93 [.ptr B 0,.ptr A 0,.ptr W 0]∧x.env.get 4=.ptr P 0∧x.env.get 8=.ptr Q 0∧x.env.get 9=.b false∧x.st.get P=some (.cells [.i .i64 s.W,.i .i64 s.wn,.i .i64 s.R,.i .i64 s.rn,rv] false)∧x.st.get Q=some (.cells [.i .i64 ((0:Nat):Int),.i .i64 ((0:Nat):Int),.i .i64 ((0:Nat):Int),.i .i64 ((0:Nat):Int),.nsl] false)∧(c0≤P)∧(DE x.st B A W D V R cd z l j ov)∧(CV x.st x.st.cnt rv s.Rs)∧(∀ q,q<c0→q≠W→x.st.get q=St.get ⟨sto0,c0⟩ q)) ?_ ?_
 ·refine⟨c0,c0+8,?_,?_,?_,Zab,Zab,Zab,Zab,Zab,Zab,?_,?_,?_,(hd.move (by simp only[Z0L_];omega) (fun q hq=>by simp only at hq;simp(disch:=omega)only[Nar,Nas];rfl) (by have:=hd.top;intro q hq;simp only[Z0L_]at hq;simp(disch:=omega)only[Nar,Nas];exact this q (by first|omega|(simp only;omega)))),(hs.move (by simp only[Z0L_];omega) (fun q hq _=>by simp only at hq;simp(disch:=omega)only[Nar,Nas];rfl)),(fun q hq _=>by simp(disch:=omega)only[Nar,Nas];rfl)⟩<;>first|with_reducible rfl|with_reducible assumption|exact kP _|exact kQ _|omega|(simp only[Z0L_,Nax];omega)|(simp only;omega)|assumption|rfl|(simp;omega)|(simp;done)|(simp(disch:=omega)only[Nar,Nas,Yaf];first|done|with_reducible rfl|with_reducible assumption)
 rintro⟨env,⟨sto,c⟩⟩ ⟨P,Q,bP,oQ,bQ,g1,g2,g3,g4,g8,g9,kP,kQ,hP,de,hs,kof⟩;try simp only at bP bQ g1 g2 g3 g4 g8 g9 de hs
 replace kP:∀ n',St.get ⟨sto,n'⟩ P=some (.cells [.i .i64 s.W,.i .i64 s.wn,.i .i64 s.R,.i .i64 s.rn,rv] false):=fun _=>kP;replace kQ:∀ n',St.get ⟨sto,n'⟩ Q=some (.cells [.i .i64 ((0:Nat):Int),.i .i64 ((0:Nat):Int),.i .i64 ((0:Nat):Int),.i .i64 ((0:Nat):Int),.nsl] false):=fun _=>kQ;have t1':t<64:=by omega
 refine NaX (fun x=>∃ (sn:Sn) (vn:PV),P<x.st.cnt∧Q<x.st.cnt∧x.env.get 4=.ptr P 0∧x.env.get 8=.ptr Q 0∧x.st.get P=some (.cells [.i .i64 sn.W,.i .i64 sn.wn,.i .i64 sn.R,.i .i64 sn.rn,vn] false)∧x.st.get Q=some (.cells [.i .i64 ((0:Nat):Int),.i .i64 ((0:Nat):Int),.i .i64 ((0:Nat):Int),.i .i64 ((0:Nat):Int),.nsl] false)∧(DE x.st B A W D V R cd z l j ov)∧(CV x.st x.st.cnt vn sn.Rs)∧(∀ q,q<c0→q≠W→x.st.get q=St.get ⟨sto0,c0⟩ q)∧(p=(sn,true))) ?_ ?_
 ·intro K1 hK1;try simp only at bP bQ
  iterate 2
   (try rw[Z0]);(try simp(maxSteps:=9^7)(disch:=first|omega|rfl|assumption)only[↓Yaa,Yab,Nae,Naa,rA,rB,rC,rD,reduceIte,unP,rE,g1,g2,g3,g4,g8,g9,kP,kQ,hc.e9])
  refine Nbk (hsc s.W s.wn _ (de.move Zac (fun _ _=>rfl) (de.top.le Zaa))) ?_;rintro r ⟨sto2,c2⟩ ⟨rfl,de2,fr2,cn2⟩;simp only at fr2 cn2;have mv2:∀ q,q<c→q≠W→∀ n',St.get ⟨sto2,n'⟩ q=St.get ⟨sto,c⟩ q:=fun q h1 h2 _=>fr2 q Zaa h2;have kP2:∀ n',St.get ⟨sto2,n'⟩ P=_:=fun n'=>(mv2 P Zaa Zaa n').trans (kP _);have kQ2:∀ n',St.get ⟨sto2,n'⟩ Q=_:=fun n'=>(mv2 Q Zaa Zaa n').trans (kQ _);have hsv2:CV ⟨sto2,c2⟩ c2 rv s.Rs:=hs.move Zac fun q h1 h2=>mv2 q h1 (hsW q h2) _;have hlen:=hs.lenP;cases hsb:Ngn cd l j s.W s.wn with
  |false =>
    rw[hsb,if_pos rfl]at hp
    iterate 4
     (try rw[Z0]);(try simp(maxSteps:=9^7)(disch:=first|omega|rfl|assumption)only[↓Yaa,Yab,Nae,Naa,rA,rB,rC,rD,reduceIte,unP,rE,g1,g2,g3,g4,g8,g9,kP,kQ,kP2,kQ2,hs1,hs2])
    subst hp;subst hX;refine⟨nofun,_,Ncq (F:=Q) (by simp[Yad,g8]) (by exact Yaf _ _ _),?_⟩;simp only[NaF,Yad,if_true];exact⟨⟨rv,rfl,by show CV _ (c2+24) rv s.Rs;exact(hsv2.move (b':=c2+24) (st':=⟨sto2,c2+24⟩) Zaa fun _ _ _=>rfl).put5 (kQ2 _) nofun⟩,(de2.le Zaa).put5 (kQ2 _) nofun Zac Zaa Zaa Zaa Zaa,fun q (h1:q<c0) h2=>by rw[Yae Zaa];exact(mv2 q Zaa h2 _).trans (kof q h1 h2),by first|omega|(simp only[Z0L_];omega)⟩
  |true =>
    rw[hsb,if_neg Zag]at hp;have de3:=fun n' (h:c2≤n')=>de2.le h;have cv3:=fun n' (h:c2≤n')=>hsv2.move (b':=n') (st':=⟨sto2,n'⟩) h fun _ _ _=>rfl;have fr3:∀ q,q<c0→q≠W→∀ n',St.get ⟨sto2,n'⟩ q=St.get ⟨sto0,c0⟩ q:=fun q h1 h2 n'=>(mv2 q Zaa h2 n').trans (kof q h1 h2);by_cases hR:s.Rs=[]
    ·rw[if_neg (by simp[hR])]at hp;have hrv:rv=.nsl:=by
      rcases hs with⟨h,_⟩|⟨h,_⟩
      ·exact h
      ·exact absurd hR h
     subst hrv;by_cases hR0:s.R<0
     ·rw[if_pos (.inl hR0)]at hp;have hR0':s.R<((0:Nat):Int):=hR0
      iterate 6
       (try rw[Z0]);(try simp(maxSteps:=9^7)(disch:=first|omega|rfl|assumption)only[↓Yaa,Yab,Nae,Naa,rA,rB,rC,rD,reduceIte,unP,rE,g1,g2,g3,g4,g8,g9,kP,kQ,kP2])
      refine hK1 _ ⟨{ s with R:=t,rn:=n },.nsl,?_,?_,?_,?_,(by exact Yaf _ _ _),(by simp(disch:=omega)only[Nar,Nas];exact kQ2 _),(((de3 _ Zaa).put5 (kP2 _) nofun Zac Zaa Zaa Zaa Zaa).put5 (Yaf _ _ _) nofun (by first|omega|(simp only[Z0L_];omega)) Zaa Zaa Zaa Zaa),(.inl ⟨rfl,hR⟩),(fun q h1 h2=>by simp(disch:=omega)only[Nar,Nas];exact fr3 q h1 h2 _),hp.symm⟩<;>first|with_reducible rfl|with_reducible assumption|omega|(simp only[Z0L_,Nax];omega)|(simp only;omega)|(simp[Yad,g1,g2,g3,g4,g8,g9]<;>omega)
     ·have hR0':¬ s.R<((0:Nat):Int):=hR0;have hk1:=hk.rT
      iterate 4
       (try rw[Z0]);(try simp(maxSteps:=9^7)(disch:=first|omega|rfl|assumption)only[↓Yaa,Yab,Nae,Naa,rA,rB,rC,rD,reduceIte,unP,rE,g1,g2,g3,g4,g8,g9,kP,kQ,kP2,hc.e9])
      refine Nbk (hsc s.R s.rn _ (de3 _ Zaa)) ?_;rintro r ⟨sto4,c4⟩ ⟨rfl,de4,fr4,cn4⟩;simp only at fr4 cn4;have mv4:∀ q,q<c→q≠W→∀ n',St.get ⟨sto4,n'⟩ q=St.get ⟨sto2,n'⟩ q:=fun q h1 h2 _=>fr4 q Zaa h2;have kP4:∀ n',St.get ⟨sto4,n'⟩ P=_:=fun n'=>(mv4 P Zaa Zaa n').trans (kP2 _);have kQ4:∀ n',St.get ⟨sto4,n'⟩ Q=_:=fun n'=>(mv4 Q Zaa Zaa n').trans (kQ2 _);have fr5:∀ q,q<c0→q≠W→∀ n',St.get ⟨sto4,n'⟩ q=St.get ⟨sto0,c0⟩ q:=fun q h1 h2 n'=>(mv4 q Zaa h2 n').trans (fr3 q h1 h2 n');cases hs4:Ngn cd l j s.R s.rn with
      |true =>
        rw[if_pos (.inr hs4)]at hp
        iterate 3
         (try rw[Z0]);(try simp(maxSteps:=9^7)(disch:=first|omega|rfl|assumption)only[↓Yaa,Yab,Nae,Naa,rA,rB,rC,rD,reduceIte,unP,rE,g1,g2,g3,g4,g8,g9,kP,kQ,kP4])
        refine hK1 _ ⟨{ s with R:=t,rn:=n },.nsl,?_,?_,?_,?_,(by exact Yaf _ _ _),(by simp(disch:=omega)only[Nar,Nas];exact kQ4 _),(((de4.le Zaa).put5 (kP4 _) nofun Zac Zaa Zaa Zaa Zaa).put5 (Yaf _ _ _) nofun (by first|omega|(simp only[Z0L_];omega)) Zaa Zaa Zaa Zaa),(.inl ⟨rfl,hR⟩),(fun q h1 h2=>by simp(disch:=omega)only[Nar,Nas];exact fr5 q h1 h2 _),hp.symm⟩<;>first|with_reducible rfl|with_reducible assumption|omega|(simp only[Z0L_,Nax];omega)|(simp only;omega)|(simp[Yad,g1,g2,g3,g4,g8,g9]<;>omega)
      |false =>
        rw[if_neg (fun h=>h.elim hR0 (by rw[hs4];simp))]at hp
        iterate 3
         (try rw[Z0]);(try simp(maxSteps:=9^7)(disch:=first|omega|rfl|assumption)only[↓Yaa,Yab,Nae,Naa,rA,rB,rC,rD,reduceIte,unP,rE,g1,g2,g3,g4,g8,g9,kP,kQ,kP4])
        have hp1:=NhQ hc (fuel:=fuel+6) (p:=.nsl) (l:=[]) (t:=s.R) (k:=s.rn) rfl Zag Zaa Zaa Zaa;rw[Nef (NdS _ _ _)]at hp1;obtain⟨a1,ha1⟩:∃ a1,NcK [] s.R.toNat s.rn=a1:=⟨_,rfl⟩;rw[ha1]at hp1 hp;have n1:a1≠[]:=ha1▸NdS _ _ _;have l1:a1.length<500:=(by rw[←ha1,Nce];simp only[List.length_nil];omega);refine Ndk (Nht rfl rfl rfl) hp1 (NbB _) (by rw[NaH,Nat.mul_one]) Zad ?_;intro st5 own5 get5 cnt5 fr5';obtain⟨sto5,c5⟩:=st5;simp only at cnt5;subst cnt5;obtain⟨w,dw,iw⟩:=(CV.new (st:=⟨sto5,c4+80⟩) n1 Zad get5).deep;have hp2:=NhQ hc (fuel:=fuel+6) (t:=t) (k:=n) iw l1 t0 Zaa Zaa;rw[Nef (NdS _ _ _)]at hp2;obtain⟨a2,ha2⟩:∃ a2,NcK a1 t.toNat n=a2:=⟨_,rfl⟩;rw[ha2]at hp2 hp;have n2:a2≠[]:=ha2▸NdS _ _ _;refine Ndk (Nht dw rfl rfl) hp2 (NbB _) (by rw[NaH,Nat.mul_one]) Zad ?_;intro st6 own6 get6 cnt6 fr6;obtain⟨sto6,c6⟩:=st6;simp only at cnt6;subst cnt6;have mv6:∀ q,q<c4∨c4+80≤q→∀ n',St.get ⟨sto6,n'⟩ q=St.get ⟨sto4,n'⟩ q:=fun q h1 _=>(fr6 q Zaa).trans (fr5' q Zaa);have kP6:∀ n',St.get ⟨sto6,n'⟩ P=_:=fun n'=>(mv6 P Zaa n').trans (kP4 _);have kQ6:∀ n',St.get ⟨sto6,n'⟩ Q=_:=fun n'=>(mv6 Q Zaa n').trans (kQ4 _);have cv6:CV ⟨sto6,c4+80⟩ (c4+80) (.rsl (c4+56) 1 0 a2.length) a2:=CV.new (st:=⟨sto6,c4+80⟩) n2 Zad get6;have de6:DE ⟨sto6,c4+80⟩ B A W D V R cd z l j ov:=de4.move Zac (fun q hq=>mv6 q (.inl hq) _) (fun q hq=>by simp only at hq;exact(mv6 q (.inr hq) _).trans (de4.top q Zad));simp(disch:=first|omega|rfl|assumption)only[↓Yaa,Yac,Nae,Naa,rA,rB,rC,rD,reduceIte,unP,Xm,rE,kP6];refine hK1 _ ⟨{ s with Rs:=a2,R:=-1,rn:=0 },_,?_,?_,?_,?_,(by exact Yaf _ _ _),(by simp(disch:=omega)only[Nar,Nas];exact kQ6 _),(DE.put5 (DE.put5 (DE.move (st:=St.put ⟨sto6,c4+80⟩ P _) (de6.put5 (kP6 _) Zai Zac Zaa Zaa Zaa Zaa) (by first|omega|(simp only[Z0L_];omega)) (fun _ _=>rfl) (Top.putN de6.top Zaa Zaa)) (by exact Yaf _ _ _) Zai Zac Zaa Zaa Zaa Zaa) (Yaf _ _ _) Zai (by first|omega|(simp only[Z0L_];omega)) Zaa Zaa Zaa Zaa),(CV.put5 (CV.put5 (CV.move (st:=St.put ⟨sto6,c4+80⟩ P _) (b:=c4+80) (cv6.put5 (kP6 _) Zai) (by first|omega|(simp only[Z0L_];omega)) (fun _ _ _=>rfl)) (by exact Yaf _ _ _) Zai) (Yaf _ _ _) Zai),(fun q h1 h2=>by simp(disch:=omega)only[Nar,Nas];exact(mv6 q Zaa _).trans (fr5 q h1 h2 _)),hp.symm⟩<;>first|with_reducible rfl|with_reducible assumption|omega|(simp only[Z0L_,Nax];omega)|(simp only;omega)|(simp[Yad,g1,g2,g3,g4,g8,g9]<;>omega)
    ·rw[if_pos hR]at hp;have hR1:((s.Rs.length:Int) > ((0:Nat):Int)):=(by have:=List.length_pos_iff.2 hR;omega);have hk2:=hk.len
     iterate 4
      (try rw[Z0]);(try simp(maxSteps:=9^7)(disch:=first|omega|rfl|assumption)only[↓Yaa,Yab,Nae,Naa,rA,rB,rC,rD,reduceIte,unP,rE,g1,g2,g3,g4,g8,g9,kP,kQ,kP2,hlen])
     obtain⟨w,dw,iw⟩:=(hsv2.move (b':=c2) (st':=⟨sto2,c2+96⟩) (Nat.le_refl _) fun _ _ _=>rfl).deep;have hp2:=NhQ hc (fuel:=fuel+6) (t:=t) (k:=n) iw Zaa t0 Zaa Zaa;rw[Nef (NdS _ _ _)]at hp2;obtain⟨a2,ha2⟩:∃ a2,NcK s.Rs t.toNat n=a2:=⟨_,rfl⟩;rw[ha2]at hp2 hp;have n2:a2≠[]:=ha2▸NdS _ _ _;refine Ndk (Nht dw rfl rfl) hp2 (NbB _) (by rw[NaH,Nat.mul_one]) Zad ?_;intro st6 own6 get6 cnt6 fr6;obtain⟨sto6,c6⟩:=st6;simp only at cnt6;subst cnt6;have mv6:∀ q,q<c2∨c2+96≤q→∀ n',St.get ⟨sto6,n'⟩ q=St.get ⟨sto2,n'⟩ q:=fun q h1 _=>fr6 q Zaa;have kP6:∀ n',St.get ⟨sto6,n'⟩ P=_:=fun n'=>(mv6 P Zaa n').trans (kP2 _);have kQ6:∀ n',St.get ⟨sto6,n'⟩ Q=_:=fun n'=>(mv6 Q Zaa n').trans (kQ2 _);have cv6:CV ⟨sto6,c2+96⟩ (c2+96) (.rsl (c2+72) 1 0 a2.length) a2:=CV.new (st:=⟨sto6,c2+96⟩) n2 Zad get6;have de6:DE ⟨sto6,c2+96⟩ B A W D V R cd z l j ov:=de2.move Zac (fun q hq=>mv6 q (.inl hq) _) (fun q hq=>by simp only at hq;exact(mv6 q (.inr hq) _).trans (de2.top q Zad));simp(disch:=first|omega|rfl|assumption)only[↓Yaa,Yac,Nae,Naa,rA,rB,rC,rD,reduceIte,unP,Xm,rE,kP6];refine hK1 _ ⟨{ s with Rs:=a2 },_,?_,?_,?_,?_,(by exact Yaf _ _ _),(by simp(disch:=omega)only[Nar,Nas];exact kQ6 _),(de6.put5 (kP6 _) hs.noI Zac Zaa Zaa Zaa Zaa),(cv6.put5 (kP6 _) hs.noI),(fun q h1 h2=>by simp(disch:=omega)only[Nar,Nas];exact(mv6 q Zaa _).trans (fr3 q h1 h2 _)),hp.symm⟩<;>first|with_reducible rfl|with_reducible assumption|omega|(simp only[Z0L_,Nax];omega)|(simp only;omega)|(simp[Yad,g1,g2,g3,g4,g8,g9]<;>omega)
 clear bP bQ g1 g2 g3 g4 g8 g9 kP kQ de hs kof;rintro⟨env,⟨sto,c⟩⟩ ⟨sn,vn,bP,bQ,g4,g8,kP,kQ,de,hs,kof,hpn⟩;try simp only at bP bQ g4 g8 de hs
 replace kP:∀ n',St.get ⟨sto,n'⟩ P=some (.cells [.i .i64 sn.W,.i .i64 sn.wn,.i .i64 sn.R,.i .i64 sn.rn,vn] false):=fun _=>kP;replace kQ:∀ n',St.get ⟨sto,n'⟩ Q=some (.cells [.i .i64 ((0:Nat):Int),.i .i64 ((0:Nat):Int),.i .i64 ((0:Nat):Int),.i .i64 ((0:Nat):Int),.nsl] false):=fun _=>kQ;have hv1:=hs.one;have hv2:=hs.cells1
 iterate 3
  (try rw[Z0]);(try simp(maxSteps:=9^7)(disch:=first|omega|rfl|assumption)only[↓Yaa,Yab,Nae,Naa,rA,rB,rC,rD,reduceIte,unP,rE,g4,g8,kP,kQ,hv1,hv2])
 subst hpn;subst hX;refine⟨nofun,_,Ncq (F:=Q) (by simp[Yad,g8]) (by exact Yaf _ _ _),?_⟩;simp only[NaF,Yad,if_true];exact⟨⟨vn,rfl,by show CV _ (c+24) vn sn.Rs;exact CV.put5 (hs.move (b':=c+24) (st':=⟨sto,c+24⟩) Zaa fun _ _ _=>rfl) (kQ _) nofun⟩,(de.le Zaa).put5 (kQ _) nofun Zac Zaa Zaa Zaa Zaa,fun q (h1:q<c0) h2=>by rw[Yae Zaa];exact kof q h1 h2,by first|omega|(simp only[Z0L_];omega)⟩
end
end Go.Pe
