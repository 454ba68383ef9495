/-
 Epochs: what is kept behind a write: walked. No condition.
-/
import Derived.Test.YtafdphmhbnjfaaaGreatDoorZEpoD
set_option linter.unusedVariables false
set_option linter.unusedSimpArgs false
set_option maxHeartbeats 8000000
open Nat renaming reduceAdd → rA,reduceMul → rB,reduceLT → rC,reduceEqDiff → rD,reduceLeDiff → rE
namespace Go.Pe
open Go Go.Am Go.RowKit
theorem NjZ{l:List Int}{i:Nat}(h:i<l.length):List.take 1 (List.drop i (NaI l))=[.i .i64 (gi l i)]:=by
 have h2:i<(NaI l).length:=by rw[NaH];exact h
 rw[List.drop_eq_getElem_cons h2,Nea h];simp[NaI]
theorem NkF{f:Nat→Bool}{i:Nat}:(List.range (i+1)).all f=((List.range i).all f&&f i):=by
 rw[List.range_succ,List.all_append];simp
theorem NkG{f:Nat→Bool}{i n:Nat}(h:i<n)(hf:f i=false):(List.range n).all f=false:=by
 rw[List.all_eq_false];exact⟨i,List.mem_range.2 h,by rw[hf];simp⟩
theorem NmB{cfg:Cfg}{Gl:Gmap}(hok:CfgOK Go.Proofs.Tryz.prog Gl cfg)(hc:CfgE cfg){fuel B A W D V R:Nat}{ov rv:PV}{t n:Int}{s:Sn}{st:St}{cd:Cd}{z:Bool}{l:List Et}{j:Nat}(hj:j<l.length)(hl2:l.length<900)(hfu:l.length+100≤fuel)(hv:∀ e,e∈l→EtOK cd e)
 (hck:∀ callE,Nai cfg callE 47 [.agg (Cd.cs cd)]=some (.i .i64 0)) (hO:cd.O.length≤reachBytes) (hT:cd.T.length≤64) (hd:DE st B A W D V R cd z l j ov) (hs:CV st st.cnt rv s.Rs) (hsW:∀ k,k∈keyOf rv→k≠W) (hk:Kept cd.T.length s) :
 ∃ r st',NaK cfg (fuel+9) 58 [.agg (snC s rv),.i .i64 t,.i .i64 n,.fn 93 [.ptr B 0,.ptr A 0,.ptr W 0]] st=some (r,st')∧RdR st st' B A W D V R cd z l j ov r (Nct (Ngn cd l j) t n s):=by
 refine NaB (hc.fn _ _ (by kernel_rfl):cfg.fn 58=some m58) ?_;delta m58 Qa Qr Qg Ql Qt Qn Qs Qk Qm Qh Qi Qu Qv Qo Qw snC;obtain⟨p,hp⟩:∃ p,Nct (Ngn cd l j) t n s=p:=⟨_,rfl⟩;rw[hp];unfold Nct at hp;obtain⟨sto0,c0⟩:=st;obtain⟨X,hX⟩:∃ X:PV→St→Prop,X=fun r st'=>RdR ⟨sto0,c0⟩ st' B A W D V R cd z l j ov r p:=⟨_,rfl⟩
 simp only[show ∀ r st',RdR ⟨sto0,c0⟩ st' B A W D V R cd z l j ov r p=X r st' from fun _ _=>by rw[hX]];have hsc:=fun u k st h=>NmZ (u:=u) (k:=k) (st:=st) (fuel:=fuel) (B:=B) (A:=A) (W:=W) (D:=D) (V:=V) (R:=R) (ov:=ov) (z:=z) hok hc hj hl2 Zaa hv hck hO hT h;have hfirst:∀ (st:St) (key:Nat),Naq (Nai cfg (NaK cfg (fuel+8)) 23) false st key []=some (.agg [.i .i64 (-1),.i .i64 0,.i .i64 (-1),.i .i64 0,.nsl],st):=fun st key=>NaG rfl (NeO hc) rfl;have lW0:W<c0:=hd.lW;have lB0:B<c0:=hd.lB;have lA0:A<c0:=hd.lA;have lD0:D<c0:=hd.lD;have hs1:=hs.one;have hs2:=hs.cells1;have hlen:=hs.lenP;have hk2:=hk.len;have hcb:∀ k,k∈keyOf rv→k<c0:=fun k h=>hs.bound h;simp only[Nao];(try rw[Z0]);(try simp(maxSteps:=9^7)(disch:=first|omega|rfl|assumption)only[↓Yaa,Yab,Nae,Naa,rA,rB,rC,rD,reduceIte,unP,rE,hs1,hs2]);refine NaJ (fun x=>∃ (P:Nat) (Q:Nat),P<x.st.cnt∧(P<Q)∧Q<x.st.cnt∧x.env.get 1=.i .i64 t∧x.env.get 2=.i .i64 n∧x.env.get 3=.fn 93 [.ptr B 0,.ptr A 0,.ptr W 0]∧x.env.get 4=.ptr P 0∧x.env.get 8=.ptr Q 0∧x.st.get P=some (.cells [.i .i64 s.W,.i .i64 s.wn,.i .i64 s.R,.i .i64 s.rn,rv] false)∧x.st.get Q=some (.cells [.i .i64 ((0:Nat):Int),.i .i64 ((0:Nat):Int),.i .i64 ((0:Nat):Int),.i .i64 ((0:Nat):Int),.nsl] false)∧(c0≤P)∧(DE x.st B A W D V R cd z l j ov)∧(CV x.st x.st.cnt rv s.Rs)∧(∀ q,q<c0→q≠W→x.st.get q=St.get ⟨sto0,c0⟩ q)) ?_ ?_
 ·refine⟨c0,c0+8,?_,?_,?_,Zab,Zab,Zab,Zab,Zab,?_,?_,?_,(hd.move (by simp only[Z0L_];omega) (fun q hq=>by simp only at hq;simp(disch:=omega)only[Nar,Nas];rfl) (by have:=hd.top;intro q hq;simp only[Z0L_]at hq;simp(disch:=omega)only[Nar,Nas];exact this q (by simp only;omega))),(hs.move (by simp only[Z0L_];omega) (fun q hq _=>by simp only at hq;simp(disch:=omega)only[Nar,Nas];rfl)),(fun q hq _=>by simp(disch:=omega)only[Nar,Nas];rfl)⟩<;>first|with_reducible rfl|with_reducible assumption|exact kP _|exact kQ _|omega|(simp only[Z0L_,Nax];omega)|(simp only;omega)|assumption|rfl|(simp;omega)|(simp;done)|(simp(disch:=omega)only[Nar,Nas,Yaf];first|done|with_reducible rfl|with_reducible assumption)
 rintro⟨env,⟨sto,c⟩⟩ ⟨P,Q,bP,oQ,bQ,g1,g2,g3,g4,g8,kP,kQ,hP,de,hs,kof⟩;try simp only at bP bQ g1 g2 g3 g4 g8 de hs
 replace kP:∀ n',St.get ⟨sto,n'⟩ P=some (.cells [.i .i64 s.W,.i .i64 s.wn,.i .i64 s.R,.i .i64 s.rn,rv] false):=fun _=>kP;replace kQ:∀ n',St.get ⟨sto,n'⟩ Q=some (.cells [.i .i64 ((0:Nat):Int),.i .i64 ((0:Nat):Int),.i .i64 ((0:Nat):Int),.i .i64 ((0:Nat):Int),.nsl] false):=fun _=>kQ;try simp only at bP bQ
 have fin:∀ (sto2:Trie PObj) (c2:Nat) (x:St) (v:PV) (s2:Sn) (b:Bool),x=St.put ⟨sto2,c2⟩ Q (some (.cells [.i .i64 s2.W,.i .i64 s2.wn,.i .i64 s2.R,.i .i64 s2.rn,v] false))→DE ⟨sto2,c2⟩ B A W D V R cd z l j ov→CV ⟨sto2,c2⟩ c2 v s2.Rs→Q<c2→St.get ⟨sto2,c2⟩ Q=some (.cells [.i .i64 ((0:Nat):Int),.i .i64 ((0:Nat):Int),.i .i64 ((0:Nat):Int),.i .i64 ((0:Nat):Int),.nsl] false)→(∀ q,q<c0→q≠W→St.get ⟨sto2,c2⟩ q=St.get ⟨sto0,c0⟩ q)→p=(s2,b)→X (.tup [.agg [.i .i64 s2.W,.i .i64 s2.wn,.i .i64 s2.R,.i .i64 s2.rn,v],.b b]) x:=by
  intro sto2 c2 x v s2 b hx d2 v2 lQ kQ2 m2 hps;subst hx;subst hps;subst hX;exact⟨⟨v,rfl,v2.put5 kQ2 nofun⟩,d2.put5 kQ2 nofun lQ Zaa Zaa Zaa Zaa,fun q (h1:q<c0) h2=>by rw[Yae Zaa];exact m2 q h1 h2,by simp only[Z0L_];omega⟩
 iterate 2
  (try rw[Z0]);(try simp(maxSteps:=9^7)(disch:=first|omega|rfl|assumption)only[↓Yaa,Yab,Nae,Naa,rA,rB,rC,rD,reduceIte,unP,rE,g1,g2,g3,g4,g8,kP,kQ,hc.e9])
 refine Nbk (hsc s.W s.wn _ (de.le Zaa)) ?_;rintro r ⟨sto2,c2⟩ ⟨rfl,de2,fr2,cn2⟩;simp only at fr2 cn2;have mv2:∀ q,q<c→q≠W→∀ n',St.get ⟨sto2,n'⟩ q=St.get ⟨sto,c⟩ q:=fun q h1 h2 _=>fr2 q Zaa h2;have kP2:∀ n',St.get ⟨sto2,n'⟩ P=_:=fun n'=>(mv2 P Zaa Zaa n').trans (kP _);have kQ2:∀ n',St.get ⟨sto2,n'⟩ Q=_:=fun n'=>(mv2 Q Zaa Zaa n').trans (kQ _);have hsv2:∀ n',c2≤n'→CV ⟨sto2,n'⟩ n' rv s.Rs:=fun n' hn=>hs.move Zac fun q h1 h2=>mv2 q h1 (hsW q h2) _;cases hsb:Ngn cd l j s.W s.wn with
 |false =>
   rw[hsb,if_pos (.inl rfl)]at hp
   iterate 4
    (try rw[Z0]);(try simp(maxSteps:=9^7)(disch:=first|omega|rfl|assumption)only[↓Yaa,Yab,Nae,Naa,rA,rB,rC,rD,reduceIte,unP,rE,g1,g2,g3,g4,g8,kP,kQ,kP2,kQ2,hs1,hs2])
   refine⟨nofun,_,Ncq (F:=Q) (by simp[Yad,g8]) (by exact Yaf _ _ _),?_⟩;simp only[NaF,Yad,if_true];exact fin sto2 (c2+24) _ rv s false rfl (de2.le Zaa) (hsv2 _ Zaa) Zaa (kQ2 _) (fun q h1 h2=>(mv2 q Zaa h2 _).trans (kof q h1 h2)) hp.symm
 |true =>
   (try rw[Z0]);(try simp(maxSteps:=9^7)(disch:=first|omega|rfl|assumption)only[↓Yaa,Yab,Nae,Naa,rA,rB,rC,rD,reduceIte,unP,rE,g1,g2,g3,g4,g8,kP,kQ,kP2,hc.e9]);refine Nbk (hsc s.R s.rn _ (de2.le Zaa)) ?_;rintro r ⟨sto4,c4⟩ ⟨rfl,de4,fr4,cn4⟩;simp only at fr4 cn4;have mv4:∀ q,q<c→q≠W→∀ n',St.get ⟨sto4,n'⟩ q=St.get ⟨sto,c⟩ q:=fun q h1 h2 n'=>(fr4 q Zaa h2).trans (mv2 q h1 h2 _);have kP4:∀ n',St.get ⟨sto4,n'⟩ P=_:=fun n'=>(mv4 P Zaa Zaa n').trans (kP _);have kQ4:∀ n',St.get ⟨sto4,n'⟩ Q=_:=fun n'=>(mv4 Q Zaa Zaa n').trans (kQ _);have hsv4:∀ n',c4≤n'→CV ⟨sto4,n'⟩ n' rv s.Rs:=fun n' hn=>hs.move Zac fun q h1 h2=>mv4 q h1 (hsW q h2) _;cases hs4:Ngn cd l j s.R s.rn with
   |false =>
     rw[hs4,if_pos (.inr rfl)]at hp
     iterate 4
      (try rw[Z0]);(try simp(maxSteps:=9^7)(disch:=first|omega|rfl|assumption)only[↓Yaa,Yab,Nae,Naa,rA,rB,rC,rD,reduceIte,unP,rE,g1,g2,g3,g4,g8,kP,kQ,kP4,kQ4,hs1,hs2])
     refine⟨nofun,_,Ncq (F:=Q) (by simp[Yad,g8]) (by exact Yaf _ _ _),?_⟩;simp only[NaF,Yad,if_true];exact fin sto4 (c4+24) _ rv s false rfl (de4.le Zaa) (hsv4 _ Zaa) Zaa (kQ4 _) (fun q h1 h2=>(mv4 q Zaa h2 _).trans (kof q h1 h2)) hp.symm
   |true =>
     rw[hsb,hs4,if_neg Zag]at hp
     iterate 4
      (try rw[Z0]);(try simp(maxSteps:=9^7)(disch:=first|omega|rfl|assumption)only[↓Yaa,Yab,Nae,Naa,rA,rB,rC,rD,reduceIte,unP,rE,g1,g2,g3,g4,g8,kP,kQ,kP4,kQ4,hs1,hs2,hlen])
     have hil0:=NaH s.Rs;refine Z9 (k:=s.Rs.length - 0) (fun m x=>∃ (i:Nat),m=s.Rs.length - i∧x.env.get 1=.i .i64 t∧x.env.get 2=.i .i64 n∧x.env.get 3=.fn 93 [.ptr B 0,.ptr A 0,.ptr W 0]∧x.env.get 4=.ptr P 0∧x.env.get 8=.ptr Q 0∧x.env.get 30=rv∧x.env.get 31=.i .i64 (s.Rs.length:Int)∧x.env.get 32=.i .i64 (i:Int)∧P<x.st.cnt∧Q<x.st.cnt∧x.st.get P=some (.cells [.i .i64 s.W,.i .i64 s.wn,.i .i64 s.R,.i .i64 s.rn,rv] false)∧x.st.get Q=some (.cells [.i .i64 ((0:Nat):Int),.i .i64 ((0:Nat):Int),.i .i64 ((0:Nat):Int),.i .i64 ((0:Nat):Int),.nsl] false)∧(i≤s.Rs.length)∧(DE x.st B A W D V R cd z l j ov)∧(CV x.st x.st.cnt rv s.Rs)∧((∀ q,q<c0→q≠W→x.st.get q=St.get ⟨sto0,c0⟩ q))∧(((List.range i).all fun u=>Ngn cd l j (u:Int) (gi s.Rs u))=true)) ?_ ?_ Zaa
     ·clear bP bQ g1 g2 g3 g4 g8 kP kQ de hs kof;rintro m ⟨env,⟨sto,c⟩⟩ ⟨i,rfl,g1,g2,g3,g4,g8,g30,g31,g32,bP,bQ,kP,kQ,hi,de,hs,kof,hall⟩;try simp only at g1 g2 g3 g4 g8 g30 g31 g32 bP bQ de hs
      replace kP:∀ n',St.get ⟨sto,n'⟩ P=some (.cells [.i .i64 s.W,.i .i64 s.wn,.i .i64 s.R,.i .i64 s.rn,rv] false):=fun _=>kP;replace kQ:∀ n',St.get ⟨sto,n'⟩ Q=some (.cells [.i .i64 ((0:Nat):Int),.i .i64 ((0:Nat):Int),.i .i64 ((0:Nat):Int),.i .i64 ((0:Nat):Int),.nsl] false):=fun _=>kQ;try simp only at bP bQ
      have hsX:=hs;by_cases hil:i<s.Rs.length
      ·rcases hs with⟨_,h0⟩|⟨_,q,rfl,bq,gq⟩
       ·rw[h0]at hil;simp at hil
       try simp only at bq
       have kq:∀ n',St.get ⟨sto,n'⟩ q=_:=fun _=>gq;have hna:=NjZ hil
       iterate 6
        (try rw[Z0]);(try simp(maxSteps:=9^7)(disch:=first|omega|rfl|assumption)only[↓Yaa,Yab,Nae,Naa,rA,rB,rC,rD,reduceIte,unP,rE,g1,g2,g3,g4,g8,g30,g31,g32,kP,kQ,hna,hil0,kq,hc.e9])
       refine Nbk (hsc (i:Int) (gi s.Rs i) _ (de.le Zaa)) ?_;rintro r ⟨sto5,c5⟩ ⟨rfl,de5,fr5,cn5⟩;simp only at fr5 cn5;have mv5:∀ q,q<c→q≠W→∀ n',St.get ⟨sto5,n'⟩ q=St.get ⟨sto,c⟩ q:=fun q h1 h2 _=>fr5 q Zaa h2;have kP5:∀ n',St.get ⟨sto5,n'⟩ P=_:=fun n'=>(mv5 P Zaa Zaa n').trans (kP _);have kQ5:∀ n',St.get ⟨sto5,n'⟩ Q=_:=fun n'=>(mv5 Q Zaa Zaa n').trans (kQ _);have hsv5:∀ n',c5≤n'→CV ⟨sto5,n'⟩ n' (.rsl q 1 0 s.Rs.length) s.Rs:=fun n' hn=>hsX.move Zac fun q h1 h2=>mv5 q h1 (hsW q h2) _;cases hs5:Ngn cd l j (i:Int) (gi s.Rs i)with
       |false =>
         rw[if_pos (NkG (f:=fun u:Nat=>Ngn cd l j (u:Int) (gi s.Rs u)) hil hs5)]at hp
         iterate 4
          (try rw[Z0]);(try simp(maxSteps:=9^7)(disch:=first|omega|rfl|assumption)only[↓Yaa,Yab,Nae,Naa,rA,rB,rC,rD,reduceIte,unP,rE,g1,g2,g3,g4,g8,g30,g31,g32,kP,kQ,kP5,kQ5,hs1,hs2])
         refine⟨nofun,_,Ncq (F:=Q) (by simp[Yad,g8]) (by exact Yaf _ _ _),?_⟩;simp only[NaF,Yad,if_true];exact fin sto5 (c5+24) _ _ s false rfl (de5.le Zaa) (hsv5 _ Zaa) Zaa (kQ5 _) (fun q h1 h2=>(mv5 q Zaa h2 _).trans (kof q h1 h2)) hp.symm
       |true =>
         iterate 4
          (try rw[Z0]);(try simp(maxSteps:=9^7)(disch:=first|omega|rfl|assumption)only[↓Yaa,Yab,Nae,Naa,rA,rB,rC,rD,reduceIte,unP,rE,g1,g2,g3,g4,g8,g30,g31,g32,kP,kQ])
         refine⟨s.Rs.length - (i+1),by omega,i+1,rfl,rfl,kP5 _,kQ5 _,by omega,de5.le Zaa,hsv5 _ Zaa,fun q h1 h2=>(mv5 q Zaa h2 _).trans (kof q h1 h2),?_⟩;rw[NkF,hall,hs5];rfl
      ·have hie:i=s.Rs.length:=(by omega);subst hie;rw[hall,if_neg Zag]at hp
       iterate 8
        (try rw[Z0]);(try simp(maxSteps:=9^7)(disch:=first|omega|rfl|assumption)only[↓Yaa,Yab,Nae,Naa,rA,rB,rC,rD,reduceIte,unP,rE,g1,g2,g3,g4,g8,g30,g31,g32,kP,kQ,hfirst])
       refine⟨nofun,_,Ncq (F:=Q) (by simp[Yad,g8]) (by exact Yaf _ _ _),?_⟩;simp only[NaF,Yad,if_true];refine fin _ (c+96) _ .nsl { sn0 with W:=t,wn:=n } true rfl ?_ (.inl ⟨rfl,rfl⟩) Zaa (by simp(disch:=omega)only[Nar,Nas];exact kQ _) (fun q h1 h2=>by simp(disch:=omega)only[Nar,Nas];exact kof q h1 h2) hp.symm;have e1:DE (St.put ⟨sto,c+24⟩ P (some (.cells [.i .i64 (-1),.i .i64 0,.i .i64 (-1),.i .i64 0,.nsl] false))) B A W D V R cd z l j ov:=(de.le Zaa).put5 (kP _) hsX.noI Zac Zaa Zaa Zaa Zaa;have e2:DE ⟨(St.put ⟨sto,c+24⟩ P (some (.cells [.i .i64 (-1),.i .i64 0,.i .i64 (-1),.i .i64 0,.nsl] false))).sto,c+72⟩ B A W D V R cd z l j ov:=e1.move (by simp only[Z0L_];omega) (fun _ _=>rfl) (Top.putN (de.le (c':=c+24) Zaa).top Zaa Zaa);have e3:=e2.put5 (P:=P) (o:=some (.cells [.i .i64 t,.i .i64 ((0:Nat):Int),.i .i64 (-1),.i .i64 ((0:Nat):Int),.nsl] false)) (by exact Yaf _ _ _) Zai Zac Zaa Zaa Zaa Zaa;have e4:=e3.put5 (P:=P) (o:=some (.cells [.i .i64 t,.i .i64 n,.i .i64 (-1),.i .i64 ((0:Nat):Int),.nsl] false)) (by exact Yaf _ _ _) Zai (by first|omega|(simp only[Z0L_];omega)) Zaa Zaa Zaa Zaa;exact DE.move e4 (by simp only[Z0L_];omega) (fun _ _=>rfl) (fun q hq=>by have:=e4.top q (by simp only[Z0L_];simp only at hq;omega);exact this)
     ·skip
      refine⟨0,rfl,?_,?_,?_,?_,?_,?_,?_,?_,?_,?_,(kP4 _),(kQ4 _),?_,(de4.le Zaa),(hsv4 _ Zaa),(fun q h1 h2=>(mv4 q Zaa h2 _).trans (kof q h1 h2)),rfl⟩<;>first|with_reducible rfl|with_reducible assumption|(simp[Yad,g1,g2,g3,g4,g8]<;>omega)|omega|(simp only[Z0L_,Nax];omega)|(simp only;omega)|assumption|rfl|(simp;omega)|(simp;done)
end Go.Pe
