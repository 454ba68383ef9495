/-
 CheckTells: the document's Check: walked. No condition.
-/
import Derived.Test.YtjnofhibldppoaaGreatZTelE
import Derived.Test.YtjnofhibldppoaaGreatZTelG
set_option linter.unusedVariables false
set_option linter.unusedSimpArgs false
set_option maxHeartbeats 16000000
open Nat renaming reduceAdd → rB,reduceMul → rC,reduceLT → rD,reduceEqDiff → rE,reduceLeDiff → rF
namespace Go.Pe
open Go Go.Am Go.RowKit
theorem Nip(s:List UInt8)(x:List UInt8):∀ l:List (List UInt8),NbN s (l++[x])=(NbN s l||(x==s))
 |[]=>by
   rw[Zap,NbN,NbN,NbN];have hc:(s==x)=(x==s):=BEq.comm;rw[hc];cases x==s<;>simp
 |t::r=>by
   rw[Zaq,NbN,NbN,Nip s x r];cases s==t<;>simp
theorem Nlc(t:Td)(seen:List (List UInt8))(x:List UInt8)(b:Int×Int):NdP t (seen++[x]) b=if(x==t.S)=true then fI (NdP t seen b) 112 t.R else NdP t seen b:=by
 unfold NdP;rw[Nip];cases h1:NbN t.S seen<;>cases h2:x==t.S<;>simp[Nf7 (show(112:Int)≠0 by decide)]
theorem St10.clr{c0 C:Nat}{kv:List Nat}{s0:St}{a b:PV}{w:(Int×Int)×List (List UInt8)}{v:PV}{sto:Trie PObj}{n:Nat}(h:St10 c0 C kv s0 a b w v ⟨sto,n⟩){n2 n':Nat}{o:Option PObj}(ho:o=some (.cells [a,b,.i .i64 w.1.1,.i .i64 w.1.2,.nsl] false))(hn:n≤n'):St10 c0 C kv s0 a b (w.1,[]) .nsl ⟨(St.put ⟨sto,n2⟩ C o).sto,n'⟩:=by
 have l1:=h.lt;have l2:c0≤n:=h.le;exact⟨h.lt,Nat.le_trans l2 hn,by rw[ho];exact Yaf _ _ _,Own.nil _ _,by simp[keyOf],fun k hk=>by simp[keyOf]at hk,fun j h1 h3 h4=>(Yae (st:=⟨sto,n2⟩) (Ne.symm h3)).trans (h.ko j h1 h3 h4),h.top.putN Zaa hn⟩
theorem Nmm{st:St}{l:List Dc}{i:Nat}(h:i<l.length):NaY st 5 (.fptr ((l.flatMap Dc.cs).drop (i * 5)))=some [.i .u8 (l[i].K.toNat:Int),.s l[i].S,.i .i64 l[i].N,.s l[i].O,.i .i64 l[i].R]:=by
 rw[Nbj Dc.cs_len h];rfl
theorem Niy{st:St}{l:List Td}{i:Nat}(h:i<l.length):NaY st 1 (.fptr ((l.flatMap Td.cs).drop (i * 3)))=some [.s l[i].S]∧NaY st 1 (.fptr (((l.flatMap Td.cs).drop (i * 3)).drop 1))=some [slV l[i].z l[i].B.length (Sms.cs l[i].B)]∧NaY st 1 (.fptr (((l.flatMap Td.cs).drop (i * 3)).drop 2))=some [.i .i64 l[i].R]:=by
 rw[Nbj Td.cs_len h];refine⟨?_,?_,?_⟩<;>(show cut? _ 0 1=_;unfold cut?;rw[if_pos (by simp[Td.cs])];rfl)
theorem Nng{s:List UInt8}{D:List Dc}:(0≤NjC s D 0)↔(getN s (esD D)).isSome=true:=by
 obtain⟨h1,h2⟩:=Nf9 s D 0;cases h:getN s (esD D)with
 |none=>rw[h1 h];simp
 |some k =>
   obtain⟨j,hj,e,-⟩:=h2 k h;rw[e];simp
set_option pp.deepTerms false
set_option pp.deepTerms.threshold 6
theorem Ni1{P:Program}{Gl:Gmap}{cfg:Cfg}(hok:CfgOK P Gl cfg)(hr:CfgR cfg)(hc:Cfg10 cfg){p:Pg}{q:Nat}(hfu:2 * Tds.size p.T+p.D.length+80≤q)(hn:Tds.size p.T≤100000)(hD:p.D.length≤100000) :
 ∃ r st',NaC cfg (q+5) 8 [.agg (Pg.cs p)] { sto:=.leaf,cnt:=1 }=some (r,st')∧r=.agg [.i .i64 (Npg p).1,.i .i64 (Npg p).2]:=by
 refine NaA hc.f9 ?_;delta m8 Qa Qr Qf Qg Qc Ql Qt Qn Qs Qk Qm Qh Qi Qu Qv Qo Qw Pg.cs;have lD:=NaD p.zd p.D.length (p.D.flatMap Dc.cs);have lT:=NaD p.zt p.T.length (p.T.flatMap Td.cs);have cD:=NaR Dc.cs_len p.D;have cT:=NaR Td.cs_len p.T;have hTl:=Tds.len_le p.T;obtain⟨R,hR⟩:∃ R,Npg p=R:=⟨_,rfl⟩;rw[hR];unfold Npg at hR;have ht0:Top { sto:=.leaf,cnt:=1 }:=fun k _=>rfl;simp only[Nai];have gR:∀ (st:St) (key:Nat),Nam (Naj cfg (NaC cfg (q+4)) 17) false st key [.agg [slV p.zd p.D.length (p.D.flatMap Dc.cs),slV p.zt p.T.length (p.T.flatMap Td.cs)]]=some (.b (Njs p),st):=fun st key =>
  NaU (NaX (NbM _ _)) (Naq hr.rc (Ncb _ _) (fun _=>rfl) (NkV hr (p:=p) (q:=q) Zaa Zaa)) rfl rfl
 (try rw[Z0]);(try simp(maxSteps:=9^7)(disch:=first|omega|rfl|assumption)only[↓Yaa,Yab,Nae,Naa,rB,rC,rD,rE,reduceIte,unP,rF,Nag,Naf]);refine NaL (fun x=>∃ (Q:Nat) (F:Nat),Q<x.st.cnt∧(Q<F)∧F<x.st.cnt∧x.env.get 1=.ptr Q 0∧x.env.get 2=.ptr F 0∧x.st.get Q=some (.cells [slV p.zd p.D.length (p.D.flatMap Dc.cs),slV p.zt p.T.length (p.T.flatMap Td.cs)] false)∧x.st.get F=some (.cells [.i .i64 ((0:Nat):Int),.i .i64 ((0:Nat):Int)] false)∧(Top x.st)) ?_ ?_
 ·exact⟨1,9,Zab,Zad,Zab,Zac,Zac,(by rw[Yae (by omega)];exact Yaf _ _ _),(by exact Yaf _ _ _),(Top.put (Top.put (ht0.le Zag) Zag) Zal)⟩
 rintro⟨env,⟨sto,c⟩⟩ ⟨Q,F,bQ,oF,bF,g1,g2,kQ,kF,ht⟩;try simp only at bQ bF g1 g2 ht
 replace kQ:∀ n',St.get ⟨sto,n'⟩ Q=some (.cells [slV p.zd p.D.length (p.D.flatMap Dc.cs),slV p.zt p.T.length (p.T.flatMap Td.cs)] false):=fun _=>kQ;replace kF:∀ n',St.get ⟨sto,n'⟩ F=some (.cells [.i .i64 ((0:Nat):Int),.i .i64 ((0:Nat):Int)] false):=fun _=>kF;have oQF:Q≠F:=by omega
 refine NaQ (fun x=>Q<x.st.cnt∧F<x.st.cnt∧x.env.get 1=.ptr Q 0∧x.env.get 2=.ptr F 0∧x.st.get Q=some (.cells [slV p.zd p.D.length (p.D.flatMap Dc.cs),slV p.zt p.T.length (p.T.flatMap Td.cs)] false)∧x.st.get F=some (.cells [.i .i64 ((0:Nat):Int),.i .i64 ((0:Nat):Int)] false)∧(Top x.st)∧(Njs p=true)) ?_ ?_
 ·intro K1 hK1;cases hrr:Njs p with
  |true =>
    iterate 2
     (try rw[Z0]);(try simp(maxSteps:=9^7)(disch:=first|omega|rfl|assumption)only[↓Yaa,Yab,Nae,Naa,rB,rC,rD,rE,reduceIte,unP,rF,g1,g2,kQ,kF,Nag,Naf,gR,hrr,Bool.not_true])
    refine hK1 _ ⟨Zab,Zab,?_,?_,?_,?_,(ht.le Zag),hrr⟩<;>first|with_reducible rfl|with_reducible assumption|exact kQ _|exact kF _|(simp[Yad,g1,g2]<;>omega)|(simp(disch:=omega)only[NaP,NaV,Yaf,kQ,kF];first|done|with_reducible rfl|with_reducible assumption)
  |false =>
    rw[hrr,if_neg Zaf]at hR;subst hR
    iterate 2
     (try rw[Z0]);(try simp(maxSteps:=9^7)(disch:=first|omega|rfl|assumption)only[↓Yaa,Yab,Nae,Naa,rB,rC,rD,rE,reduceIte,unP,rF,g1,g2,kQ,kF,Nag,Naf,gR,hrr,Bool.not_false])
    exact⟨nofun,_,Nb2 (by simp only[Yad,rE,if_false];exact g2) (a:=103) (b:=0) (by rw[Yaf];rfl),rfl⟩
 clear bQ bF g1 g2 kQ kF ht;rintro⟨env,⟨sto,c⟩⟩ ⟨bQ,bF,g1,g2,kQ,kF,ht,hRt⟩;try simp only at bQ bF g1 g2 ht
 replace kQ:∀ n',St.get ⟨sto,n'⟩ Q=some (.cells [slV p.zd p.D.length (p.D.flatMap Dc.cs),slV p.zt p.T.length (p.T.flatMap Td.cs)] false):=fun _=>kQ;replace kF:∀ n',St.get ⟨sto,n'⟩ F=some (.cells [.i .i64 ((0:Nat):Int),.i .i64 ((0:Nat):Int)] false):=fun _=>kF;rw[if_pos hRt]at hR;have htr:Tds.rt p.T=true:=by
  unfold Njs at hRt;simp only[Bool.and_eq_true]at hRt;exact hRt.2.2
 (try rw[Z0]);(try simp(maxSteps:=9^7)(disch:=first|omega|rfl|assumption)only[↓Yaa,Yab,Nae,Naa,rB,rC,rD,rE,reduceIte,unP,rF,g1,g2,kQ,kF,Nag,Naf]);refine NaL (fun x=>∃ (C:Nat),(F<C)∧C<x.st.cnt∧x.env.get 1=.ptr Q 0∧x.env.get 2=.ptr F 0∧x.env.get 3=.ptr C 0∧Q<x.st.cnt∧F<x.st.cnt∧x.st.get Q=some (.cells [slV p.zd p.D.length (p.D.flatMap Dc.cs),slV p.zt p.T.length (p.T.flatMap Td.cs)] false)∧x.st.get F=some (.cells [.i .i64 ((0:Nat):Int),.i .i64 ((0:Nat):Int)] false)∧x.st.get C=some (.cells [slV p.zd p.D.length (p.D.flatMap Dc.cs),slV p.zt p.T.length (p.T.flatMap Td.cs),.i .i64 ((0:Nat):Int),.i .i64 ((0:Nat):Int),.nsl] false)∧(Q<C)∧(F<C)∧(Top x.st)) ?_ ?_
 ·refine⟨c+16,Zad,Zab,?_,?_,?_,Zab,Zab,(by rw[Yae (by omega)];exact kQ _),(by rw[Yae (by omega)];exact kF _),(by exact Yaf _ _ _),Zad,Zad,(Top.put (ht.le Zag) Zag)⟩<;>first|with_reducible rfl|with_reducible assumption|(simp[Yad,g1,g2]<;>omega)
 clear bQ bF g1 g2 kQ kF ht;rintro⟨env,⟨sto,c⟩⟩ ⟨C,oC,bC,g1,g2,g3,bQ,bF,kQ,kF,kC,oQC,oFC,ht⟩;try simp only at bC g1 g2 g3 bQ bF ht
 replace kQ:∀ n',St.get ⟨sto,n'⟩ Q=some (.cells [slV p.zd p.D.length (p.D.flatMap Dc.cs),slV p.zt p.T.length (p.T.flatMap Td.cs)] false):=fun _=>kQ;replace kF:∀ n',St.get ⟨sto,n'⟩ F=some (.cells [.i .i64 ((0:Nat):Int),.i .i64 ((0:Nat):Int)] false):=fun _=>kF;replace kC:∀ n',St.get ⟨sto,n'⟩ C=some (.cells [slV p.zd p.D.length (p.D.flatMap Dc.cs),slV p.zt p.T.length (p.T.flatMap Td.cs),.i .i64 ((0:Nat):Int),.i .i64 ((0:Nat):Int),.nsl] false):=fun _=>kC;obtain⟨S0,hS0⟩:∃ S0:St,S0=⟨sto,c⟩:=⟨_,rfl⟩;obtain⟨c0,hc0⟩:∃ c0,c0=c:=⟨_,rfl⟩;have hs0:St10 c0 C [] S0 (slV p.zd p.D.length (p.D.flatMap Dc.cs)) (slV p.zt p.T.length (p.T.flatMap Td.cs)) ((0,0),[]) .nsl ⟨sto,c⟩:=by
  rw[hS0,hc0];exact⟨bC,Nat.le_refl _,kC _,Own.nil _ _,by simp[keyOf],fun k hk=>by simp[keyOf]at hk,fun _ _ _ _=>rfl,ht⟩
 have q0:S0.get Q=some (.cells [slV p.zd p.D.length (p.D.flatMap Dc.cs),slV p.zt p.T.length (p.T.flatMap Td.cs)] false):=by rw[hS0];exact kQ _
 have q1:S0.get F=some (.cells [.i .i64 ((0:Nat):Int),.i .i64 ((0:Nat):Int)] false):=by rw[hS0];exact kF _
 have lQ:Q<c0:=by omega
 have lF:F<c0:=by omega
 clear hS0 hc0;refine NaL (fun x=>x.env.get 1=.ptr Q 0∧x.env.get 2=.ptr F 0∧x.env.get 3=.ptr C 0∧(St10 c0 C [] S0 (slV p.zd p.D.length (p.D.flatMap Dc.cs)) (slV p.zt p.T.length (p.T.flatMap Td.cs)) ((0,0),[]) .nsl x.st)) ?_ ?_
 ·refine⟨?_,?_,?_,hs0⟩<;>first|with_reducible rfl|with_reducible assumption|(simp[Yad,g1,g2,g3]<;>omega)
 clear bC g1 g2 g3 bQ bF kQ kF kC ht;rintro⟨env,⟨sto,c⟩⟩ ⟨g1,g2,g3,hs⟩;try simp only at g1 g2 g3 hs
 have nQC:Q≠C:=by omega
 have nFC:F≠C:=by omega
 obtain⟨w0,hw0⟩:∃ w0,Neo p.D [] (0,0)=w0:=⟨_,rfl⟩;rw[hw0]at hR;refine NaQ (fun x=>x.env.get 1=.ptr Q 0∧x.env.get 2=.ptr F 0∧x.env.get 3=.ptr C 0∧(St10 c0 C [] S0 (slV p.zd p.D.length (p.D.flatMap Dc.cs)) (slV p.zt p.T.length (p.T.flatMap Td.cs)) (w0,[]) .nsl x.st)) ?_ ?_
 ·intro K2 hK2;(try rw[Z0]);(try simp(maxSteps:=9^7)(disch:=first|omega|rfl|assumption)only[↓Yaa,Yab,Nae,Naa,rB,rC,rD,rE,reduceIte,unP,rF,g1,g2,g3]);refine Z9 (k:=p.D.length - 0) (fun m x=>∃ (i:Nat) (w:Int×Int),m=p.D.length - i∧x.env.get 1=.ptr Q 0∧x.env.get 2=.ptr F 0∧x.env.get 3=.ptr C 0∧x.env.get 4=.i .i64 (i:Int)∧(St10 c0 C [] S0 (slV p.zd p.D.length (p.D.flatMap Dc.cs)) (slV p.zt p.T.length (p.T.flatMap Td.cs)) (w,[]) .nsl x.st)∧(i≤p.D.length)∧(Neo (p.D.drop i) (esD (p.D.take i)) w=w0)) ?_ ?_ Zaa
  ·clear g1 g2 g3 hs;rintro m ⟨env,⟨sto,c⟩⟩ ⟨i,w,rfl,g1,g2,g3,g4,hs,hi,hob⟩;try simp only at g1 g2 g3 g4 hs
   have kQ:∀ n',St.get ⟨sto,n'⟩ Q=some (.cells [slV p.zd p.D.length (p.D.flatMap Dc.cs),slV p.zt p.T.length (p.T.flatMap Td.cs)] false):=fun _=>(hs.ko Q lQ nQC Zaf).trans q0;by_cases hil:i<p.D.length
   ·have hsp:=fun z cs=>Nan (z:=z) (cs:=cs) hil;obtain⟨d,he⟩:∃ d,p.D[i]=d:=⟨_,rfl⟩;have hld:=fun st=>Nmm (st:=st) hil;simp only[he]at hld;have htk:=Nr5 (l:=p.D) (k:=i) Zaa;have hlt:(p.D.take i).length≤100000:=(by rw[List.length_take];omega);have htl:(p.D.take i).length=i:=(by rw[List.length_take];omega);rw[List.drop_eq_getElem_cons hil,he,Neo]at hob;have hes1:esD (p.D.take (i+1))=esD (p.D.take i)++[(d.S,d.K.toNat)]:=by rw[List.take_succ_eq_append_getElem hil,he];simp[esD]
    iterate 2
     (try rw[Z0]);(try simp(maxSteps:=9^7)(disch:=first|omega|rfl|assumption)only[↓Yaa,Yab,Nae,Naa,rB,rC,rD,rE,reduceIte,unP,rF,g1,g2,g3,g4,kQ,lD])
    refine Nbn fun K9 hK9=>?_;have hK':∀ x':Now,(x'.env.get 1=.ptr Q 0∧x'.env.get 2=.ptr F 0∧x'.env.get 3=.ptr C 0∧x'.env.get 4=.i .i64 (i:Int)∧St10 c0 C [] S0 (slV p.zd p.D.length (p.D.flatMap Dc.cs)) (slV p.zt p.T.length (p.T.flatMap Td.cs)) (Nby d (esD (p.D.take i)) (Ndo d (esD (p.D.take i)) w),[]) .nsl x'.st)→K9 x':=by
     clear g1 g2 g3 g4 hs kQ;rintro⟨env,⟨sto,c⟩⟩ ⟨g1,g2,g3,g4,hs⟩;simp only at g1 g2 g3 g4 hs;refine hK9 _ ?_
     iterate 2
      (try rw[Z0]);(try simp(maxSteps:=9^7)(disch:=first|omega|rfl|assumption)only[↓Yaa,Yab,Nae,Naa,rB,rC,rD,rE,reduceIte,unP,rF,g1,g2,g3,g4])
     exact⟨p.D.length - (i+1),by omega,i+1,Nby d (esD (p.D.take i)) (Ndo d (esD (p.D.take i)) w),rfl,rfl,hs.cnt Zaa,by omega,by rw[hes1];exact hob⟩
    clear hK9
    iterate 2
     (try rw[Z0]);(try simp(maxSteps:=9^7)(disch:=first|omega|rfl|assumption)only[↓Yaa,Yab,Nae,Naa,rB,rC,rD,rE,reduceIte,unP,rF,g1,g2,g3,g4,kQ,hsp,cD,hld])
    have hCc:C<c:=Nat.lt_of_lt_of_le hs.lt hs.le;have nB:=hs.new (B:=c+80) Zag;refine NaL (fun x=>∃ (B:Nat),(C<B)∧B<x.st.cnt∧x.env.get 1=.ptr Q 0∧x.env.get 2=.ptr F 0∧x.env.get 3=.ptr C 0∧x.env.get 4=.i .i64 (i:Int)∧x.env.get 5=.ptr B 0∧x.st.get B=some (.cells [.i .u8 (d.K.toNat:Int),.s d.S,.i .i64 d.N,.s d.O,.i .i64 d.R] false)∧(St10 c0 C [] S0 (slV p.zd p.D.length (p.D.flatMap Dc.cs)) (slV p.zt p.T.length (p.T.flatMap Td.cs)) (w,[]) .nsl x.st)∧(B≠C∧c0≤B)) ?_ ?_
    ·refine⟨c+80,Zad,Zab,?_,?_,?_,?_,?_,(by exact Yaf _ _ _),((hs.put (n':=c+96) nB.1 nB.2.1 nB.2.2 Zaa Zaa).put (n':=c+96) nB.1 nB.2.1 nB.2.2 Zaa Zaa),⟨nB.1,nB.2.2⟩⟩<;>first|with_reducible rfl|with_reducible assumption|(simp[Yad,g1,g2,g3,g4]<;>omega)
    clear g1 g2 g3 g4 hs;rintro⟨env,⟨sto,c⟩⟩ ⟨B,oB,bB,g1,g2,g3,g4,g5,kB,hs,hB⟩;try simp only at bB g1 g2 g3 g4 g5 hs
    replace kB:∀ n',St.get ⟨sto,n'⟩ B=some (.cells [.i .u8 (d.K.toNat:Int),.s d.S,.i .i64 d.N,.s d.O,.i .i64 d.R] false):=fun _=>kB;refine NaQ (fun x=>B<x.st.cnt∧x.env.get 1=.ptr Q 0∧x.env.get 2=.ptr F 0∧x.env.get 3=.ptr C 0∧x.env.get 4=.i .i64 (i:Int)∧x.env.get 5=.ptr B 0∧x.st.get B=some (.cells [.i .u8 (d.K.toNat:Int),.s d.S,.i .i64 d.N,.s d.O,.i .i64 d.R] false)∧(St10 c0 C [] S0 (slV p.zd p.D.length (p.D.flatMap Dc.cs)) (slV p.zt p.T.length (p.T.flatMap Td.cs)) (Ndo d (esD (p.D.take i)) w,[]) .nsl x.st)) ?_ ?_
    ·intro K3 hK3;have kQ:∀ n',St.get ⟨sto,n'⟩ Q=some (.cells [slV p.zd p.D.length (p.D.flatMap Dc.cs),slV p.zt p.T.length (p.T.flatMap Td.cs)] false):=fun _=>(hs.ko Q lQ nQC Zaf).trans q0;have hs1:∀ d,St10 c0 C [] S0 (slV p.zd p.D.length (p.D.flatMap Dc.cs)) (slV p.zt p.T.length (p.T.flatMap Td.cs)) (w,[]) .nsl ⟨sto,c+d⟩:=fun d=>hs.cnt Zaa;have gF:=NeE (q:=q+3) (D:=p.D.take i) (z:=false) (s:=d.S) hc Zaa Zaa;rw[Nk3]at gF;(try rw[Z0]);(try simp(maxSteps:=9^7)(disch:=first|omega|rfl|assumption)only[↓Yaa,Yab,Nae,Naa,rB,rC,rD,rE,reduceIte,unP,rF,g1,g2,g3,g4,g5,kB,kQ,hsp,cD,htk]);refine NaS (Na8 rfl) gF rfl rfl ?_;by_cases hf:0≤NjC d.S (p.D.take i) 0
     ·have hr1:Ndo d (esD (p.D.take i)) w=fI w 112 d.R:=by unfold Ndo;rw[if_pos (Nng.1 hf)]
      iterate 2
       (try rw[Z0]);(try simp(maxSteps:=9^7)(disch:=first|omega|rfl|assumption)only[↓Yaa,Yab,Nae,Naa,rB,rC,rD,rE,reduceIte,unP,rF,g1,g2,g3,g4,g5,kB,hf,hc.x5])
      refine Ncf (Na6 hok hc (hs1 96).self) ?_;rintro r1 ⟨sto1,c1⟩ ⟨rfl,h2'⟩;have hle:=h2'.le;simp only at hle;have kB1:St.get ⟨sto1,c1⟩ B=_:=(h2'.ko B Zae hB.1 (by simp[keyOf])).trans (kB _);refine hK3 _ ⟨Zab,?_,?_,?_,?_,?_,kB1,(by rw[hr1];exact(hs1 96).trans h2')⟩<;>first|with_reducible rfl|with_reducible assumption|(simp[Yad,g1,g2,g3,g4,g5]<;>omega)
     ·have hr1:Ndo d (esD (p.D.take i)) w=w:=by unfold Ndo;rw[if_neg (fun h=>hf (Nng.2 h))]
      iterate 2
       (try rw[Z0]);(try simp(maxSteps:=9^7)(disch:=first|omega|rfl|assumption)only[↓Yaa,Yab,Nae,Naa,rB,rC,rD,rE,reduceIte,unP,rF,g1,g2,g3,g4,g5,kB,hf])
      refine hK3 _ ⟨Zab,?_,?_,?_,?_,?_,?_,(by rw[hr1];exact hs1 64)⟩<;>first|with_reducible rfl|with_reducible assumption|exact kB _|(simp[Yad,g1,g2,g3,g4,g5]<;>omega)|(simp(disch:=omega)only[NaP,NaV,Yaf,kB];first|done|with_reducible rfl|with_reducible assumption)
    clear bB g1 g2 g3 g4 g5 kB hs;rintro⟨env,⟨sto,c⟩⟩ ⟨bB,g1,g2,g3,g4,g5,kB,hs⟩;try simp only at bB g1 g2 g3 g4 g5 hs
    replace kB:∀ n',St.get ⟨sto,n'⟩ B=some (.cells [.i .u8 (d.K.toNat:Int),.s d.S,.i .i64 d.N,.s d.O,.i .i64 d.R] false):=fun _=>kB;have kQ:∀ n',St.get ⟨sto,n'⟩ Q=some (.cells [slV p.zd p.D.length (p.D.flatMap Dc.cs),slV p.zt p.T.length (p.T.flatMap Td.cs)] false):=fun _=>(hs.ko Q lQ nQC Zaf).trans q0;have hs1:∀ e,St10 c0 C [] S0 (slV p.zd p.D.length (p.D.flatMap Dc.cs)) (slV p.zt p.T.length (p.T.flatMap Td.cs)) (Ndo d (esD (p.D.take i)) w,[]) .nsl ⟨sto,c+e⟩:=fun e=>hs.cnt Zaa;obtain⟨b1,hb1⟩:∃ b1,Ndo d (esD (p.D.take i)) w=b1:=⟨_,rfl⟩;rw[hb1]at hs1 hK';by_cases h3:d.K.toNat=3
    ·have e3:((d.K.toNat:Int)==Int.ofNat 3)=true:=(by rw[h3];rfl);have e8:((d.K.toNat:Int)==Int.ofNat 8)=false:=(by rw[h3];rfl);have e5:((d.K.toNat:Int)==Int.ofNat 5)=false:=(by rw[h3];rfl);have e4:((d.K.toNat:Int)==Int.ofNat 4)=false:=(by rw[h3];rfl);have hkn:kn2 d (esD (p.D.take i))=Nfq 1048576 d.N:=(by unfold kn2;rw[if_neg Zaa,if_neg Zaa,if_pos h3]);by_cases a1:d.N<1
     ·have hr2:Nby d (esD (p.D.take i)) b1=fI b1 113 d.R:=by unfold Nby;rw[hkn];unfold Nfq;rw[if_pos a1];exact if_neg Zaj
      iterate 5
       (try rw[Z0]);(try simp(maxSteps:=9^7)(disch:=first|omega|rfl|assumption)only[↓Yaa,Yab,Nae,Naa,rB,rC,rD,rE,reduceIte,unP,rF,g1,g2,g3,g4,g5,kB,e3,e8,e5,e4,a1,hc.x5])
      refine Ncf (Na6 hok hc (hs1 _).self) ?_;rintro r1 ⟨sto1,c1⟩ ⟨rfl,h2'⟩;exact hK' _ ⟨by simp[Yad,g1],by simp[Yad,g2],by simp[Yad,g3],by simp[Yad,g4],by rw[hr2];exact(hs1 _).trans h2'⟩
     ·by_cases a2:(1048576:Int)<d.N
      ·have hr2:Nby d (esD (p.D.take i)) b1=fI b1 113 d.R:=by unfold Nby;rw[hkn];unfold Nfq;rw[if_neg a1,if_pos a2];exact if_neg Zaj
       iterate 5
        (try rw[Z0]);(try simp(maxSteps:=9^7)(disch:=first|omega|rfl|assumption)only[↓Yaa,Yab,Nae,Naa,rB,rC,rD,rE,reduceIte,unP,rF,g1,g2,g3,g4,g5,kB,e3,e8,e5,e4,a1,a2,hc.x5])
       refine Ncf (Na6 hok hc (hs1 _).self) ?_;rintro r1 ⟨sto1,c1⟩ ⟨rfl,h2'⟩;exact hK' _ ⟨by simp[Yad,g1],by simp[Yad,g2],by simp[Yad,g3],by simp[Yad,g4],by rw[hr2];exact(hs1 _).trans h2'⟩
      ·have hr2:Nby d (esD (p.D.take i)) b1=b1:=by unfold Nby;rw[hkn];unfold Nfq;rw[if_neg a1,if_neg a2];exact if_pos rfl
       iterate 5
        (try rw[Z0]);(try simp(maxSteps:=9^7)(disch:=first|omega|rfl|assumption)only[↓Yaa,Yab,Nae,Naa,rB,rC,rD,rE,reduceIte,unP,rF,g1,g2,g3,g4,g5,kB,e3,e8,e5,e4,a1,a2])
       exact hK' _ ⟨by simp[Yad,g1],by simp[Yad,g2],by simp[Yad,g3],by simp[Yad,g4],by rw[hr2];exact hs1 _⟩
    by_cases h8:d.K.toNat=8
    ·have e3:((d.K.toNat:Int)==Int.ofNat 3)=false:=(by rw[h8];rfl);have e8:((d.K.toNat:Int)==Int.ofNat 8)=true:=(by rw[h8];rfl);have e5:((d.K.toNat:Int)==Int.ofNat 5)=false:=(by rw[h8];rfl);have e4:((d.K.toNat:Int)==Int.ofNat 4)=false:=(by rw[h8];rfl);have hkn:kn2 d (esD (p.D.take i))=Nfq 1048576 d.N:=(by unfold kn2;rw[if_neg Zaa,if_neg Zaa,if_neg Zaa,if_pos h8]);by_cases a1:d.N<1
     ·have hr2:Nby d (esD (p.D.take i)) b1=fI b1 113 d.R:=by unfold Nby;rw[hkn];unfold Nfq;rw[if_pos a1];exact if_neg Zaj
      iterate 5
       (try rw[Z0]);(try simp(maxSteps:=9^7)(disch:=first|omega|rfl|assumption)only[↓Yaa,Yab,Nae,Naa,rB,rC,rD,rE,reduceIte,unP,rF,g1,g2,g3,g4,g5,kB,e3,e8,e5,e4,a1,hc.x5])
      refine Ncf (Na6 hok hc (hs1 _).self) ?_;rintro r1 ⟨sto1,c1⟩ ⟨rfl,h2'⟩;exact hK' _ ⟨by simp[Yad,g1],by simp[Yad,g2],by simp[Yad,g3],by simp[Yad,g4],by rw[hr2];exact(hs1 _).trans h2'⟩
     ·by_cases a2:(1048576:Int)<d.N
      ·have hr2:Nby d (esD (p.D.take i)) b1=fI b1 113 d.R:=by unfold Nby;rw[hkn];unfold Nfq;rw[if_neg a1,if_pos a2];exact if_neg Zaj
       iterate 5
        (try rw[Z0]);(try simp(maxSteps:=9^7)(disch:=first|omega|rfl|assumption)only[↓Yaa,Yab,Nae,Naa,rB,rC,rD,rE,reduceIte,unP,rF,g1,g2,g3,g4,g5,kB,e3,e8,e5,e4,a1,a2,hc.x5])
       refine Ncf (Na6 hok hc (hs1 _).self) ?_;rintro r1 ⟨sto1,c1⟩ ⟨rfl,h2'⟩;exact hK' _ ⟨by simp[Yad,g1],by simp[Yad,g2],by simp[Yad,g3],by simp[Yad,g4],by rw[hr2];exact(hs1 _).trans h2'⟩
      ·have hr2:Nby d (esD (p.D.take i)) b1=b1:=by unfold Nby;rw[hkn];unfold Nfq;rw[if_neg a1,if_neg a2];exact if_pos rfl
       iterate 5
        (try rw[Z0]);(try simp(maxSteps:=9^7)(disch:=first|omega|rfl|assumption)only[↓Yaa,Yab,Nae,Naa,rB,rC,rD,rE,reduceIte,unP,rF,g1,g2,g3,g4,g5,kB,e3,e8,e5,e4,a1,a2])
       exact hK' _ ⟨by simp[Yad,g1],by simp[Yad,g2],by simp[Yad,g3],by simp[Yad,g4],by rw[hr2];exact hs1 _⟩
    by_cases h5:d.K.toNat=5
    ·have e3:((d.K.toNat:Int)==Int.ofNat 3)=false:=(by rw[h5];rfl);have e8:((d.K.toNat:Int)==Int.ofNat 8)=false:=(by rw[h5];rfl);have e5:((d.K.toNat:Int)==Int.ofNat 5)=true:=(by rw[h5];rfl);have e4:((d.K.toNat:Int)==Int.ofNat 4)=false:=(by rw[h5];rfl);have hkn:kn2 d (esD (p.D.take i))=Nfq 16 d.N:=(by unfold kn2;rw[if_pos h5]);by_cases a1:d.N<1
     ·have hr2:Nby d (esD (p.D.take i)) b1=fI b1 113 d.R:=by unfold Nby;rw[hkn];unfold Nfq;rw[if_pos a1];exact if_neg Zaj
      iterate 5
       (try rw[Z0]);(try simp(maxSteps:=9^7)(disch:=first|omega|rfl|assumption)only[↓Yaa,Yab,Nae,Naa,rB,rC,rD,rE,reduceIte,unP,rF,g1,g2,g3,g4,g5,kB,e3,e8,e5,e4,a1,hc.x5])
      refine Ncf (Na6 hok hc (hs1 _).self) ?_;rintro r1 ⟨sto1,c1⟩ ⟨rfl,h2'⟩;exact hK' _ ⟨by simp[Yad,g1],by simp[Yad,g2],by simp[Yad,g3],by simp[Yad,g4],by rw[hr2];exact(hs1 _).trans h2'⟩
     ·by_cases a2:(16:Int)<d.N
      ·have hr2:Nby d (esD (p.D.take i)) b1=fI b1 113 d.R:=by unfold Nby;rw[hkn];unfold Nfq;rw[if_neg a1,if_pos a2];exact if_neg Zaj
       iterate 5
        (try rw[Z0]);(try simp(maxSteps:=9^7)(disch:=first|omega|rfl|assumption)only[↓Yaa,Yab,Nae,Naa,rB,rC,rD,rE,reduceIte,unP,rF,g1,g2,g3,g4,g5,kB,e3,e8,e5,e4,a1,a2,hc.x5])
       refine Ncf (Na6 hok hc (hs1 _).self) ?_;rintro r1 ⟨sto1,c1⟩ ⟨rfl,h2'⟩;exact hK' _ ⟨by simp[Yad,g1],by simp[Yad,g2],by simp[Yad,g3],by simp[Yad,g4],by rw[hr2];exact(hs1 _).trans h2'⟩
      ·have hr2:Nby d (esD (p.D.take i)) b1=b1:=by unfold Nby;rw[hkn];unfold Nfq;rw[if_neg a1,if_neg a2];exact if_pos rfl
       iterate 5
        (try rw[Z0]);(try simp(maxSteps:=9^7)(disch:=first|omega|rfl|assumption)only[↓Yaa,Yab,Nae,Naa,rB,rC,rD,rE,reduceIte,unP,rF,g1,g2,g3,g4,g5,kB,e3,e8,e5,e4,a1,a2])
       exact hK' _ ⟨by simp[Yad,g1],by simp[Yad,g2],by simp[Yad,g3],by simp[Yad,g4],by rw[hr2];exact hs1 _⟩
    by_cases h4:d.K.toNat=4
    ·have hkn:kn2 d (esD (p.D.take i))=NbK d.O 1 (esD (p.D.take i)):=(by unfold kn2;rw[if_neg Zaa,if_pos h4]);have e3:((d.K.toNat:Int)==Int.ofNat 3)=false:=(by rw[h4];rfl);have e8:((d.K.toNat:Int)==Int.ofNat 8)=false:=(by rw[h4];rfl);have e5:((d.K.toNat:Int)==Int.ofNat 5)=false:=(by rw[h4];rfl);have e4:((d.K.toNat:Int)==Int.ofNat 4)=true:=(by rw[h4];rfl);have gF:=NeE (q:=q+3) (D:=p.D.take i) (z:=false) (s:=d.O) hc Zaa Zaa;rw[Nk3]at gF;obtain⟨fg1,fg2⟩:=Nf9 d.O (p.D.take i) 0
     iterate 5
      (try rw[Z0]);(try simp(maxSteps:=9^7)(disch:=first|omega|rfl|assumption)only[↓Yaa,Yab,Nae,Naa,rB,rC,rD,rE,reduceIte,unP,rF,g1,g2,g3,g4,g5,kB,kQ,hsp,cD,htk,e3,e8,e5,e4])
     (try rw[Z0]);(try simp(maxSteps:=9^7)(disch:=first|omega|rfl|assumption)only[↓Yaa,Yab,Nae,Naa,rB,rC,rD,rE,reduceIte,unP,rF,g1,g2,g3,g4,g5,kB,kQ,hsp,cD,htk]);refine NaS (Na8 rfl) gF rfl rfl ?_;cases hg:getN d.O (esD (p.D.take i))with
     |none =>
       have hr2:Nby d (esD (p.D.take i)) b1=fI b1 110 d.R:=(by unfold Nby;rw[hkn];unfold NbK;rw[hg];exact if_neg Zaj);rw[fg1 hg]
       iterate 4
        (try rw[Z0]);(try simp(maxSteps:=9^7)(disch:=first|omega|rfl|assumption)only[↓Yaa,Yab,Nae,Naa,rB,rC,rD,rE,reduceIte,unP,rF,g1,g2,g3,g4,g5,kB,hc.x5])
       refine Ncf (Na6 hok hc (hs1 _).self) ?_;rintro r1 ⟨sto1,c1⟩ ⟨rfl,h2'⟩;exact hK' _ ⟨by simp[Yad,g1],by simp[Yad,g2],by simp[Yad,g3],by simp[Yad,g4],by rw[hr2];exact(hs1 _).trans h2'⟩
     |some kk =>
       obtain⟨j,hj,hfj,hkj⟩:=fg2 kk hg;rw[Nat.zero_add]at hfj;have hjD:j<p.D.length:=(by omega);have hkj':p.D[j].K.toNat=kk:=(by rw[←hkj,List.getElem_take]);have lK:=fun st=>Niu (st:=st) hjD;simp only[hkj']at lK;rw[hfj];by_cases hk1:kk=1
       ·have n1:((kk:Int) != Int.ofNat 1)=false:=(by rw[hk1];rfl);have hr2:Nby d (esD (p.D.take i)) b1=b1:=by unfold Nby;rw[hkn];unfold NbK;rw[hg];simp only;rw[if_pos hk1];exact if_pos rfl
        iterate 4
         (try rw[Z0]);(try simp(maxSteps:=9^7)(disch:=first|omega|rfl|assumption)only[↓Yaa,Yab,Nae,Naa,rB,rC,rD,rE,reduceIte,unP,rF,g1,g2,g3,g4,g5,kB,kQ,hsp,cD,lK,n1])
        exact hK' _ ⟨by simp[Yad,g1],by simp[Yad,g2],by simp[Yad,g3],by simp[Yad,g4],by rw[hr2];exact hs1 _⟩
       ·have n1:((kk:Int) != Int.ofNat 1)=true:=(by simp;omega);have hr2:Nby d (esD (p.D.take i)) b1=fI b1 111 d.R:=by unfold Nby;rw[hkn];unfold NbK;rw[hg];simp only;rw[if_neg hk1];exact if_neg Zaj
        iterate 4
         (try rw[Z0]);(try simp(maxSteps:=9^7)(disch:=first|omega|rfl|assumption)only[↓Yaa,Yab,Nae,Naa,rB,rC,rD,rE,reduceIte,unP,rF,g1,g2,g3,g4,g5,kB,kQ,hsp,cD,lK,n1,hc.x5])
        refine Ncf (Na6 hok hc (hs1 _).self) ?_;rintro r1 ⟨sto1,c1⟩ ⟨rfl,h2'⟩;exact hK' _ ⟨by simp[Yad,g1],by simp[Yad,g2],by simp[Yad,g3],by simp[Yad,g4],by rw[hr2];exact(hs1 _).trans h2'⟩
    ·have hkn:kn2 d (esD (p.D.take i))=0:=(by unfold kn2;rw[if_neg Zaa,if_neg Zaa,if_neg Zaa,if_neg Zaa]);have e3:((d.K.toNat:Int)==Int.ofNat 3)=false:=(by simp;omega);have e8:((d.K.toNat:Int)==Int.ofNat 8)=false:=(by simp;omega);have e5:((d.K.toNat:Int)==Int.ofNat 5)=false:=(by simp;omega);have e4:((d.K.toNat:Int)==Int.ofNat 4)=false:=(by simp;omega);have hr2:Nby d (esD (p.D.take i)) b1=b1:=by unfold Nby;rw[hkn];exact if_pos rfl
     iterate 5
      (try rw[Z0]);(try simp(maxSteps:=9^7)(disch:=first|omega|rfl|assumption)only[↓Yaa,Yab,Nae,Naa,rB,rC,rD,rE,reduceIte,unP,rF,g1,g2,g3,g4,g5,kB,e3,e8,e5,e4])
     exact hK' _ ⟨by simp[Yad,g1],by simp[Yad,g2],by simp[Yad,g3],by simp[Yad,g4],by rw[hr2];exact hs1 _⟩
   ·have h0:p.D.drop i=[]:=List.drop_of_length_le Zaa;rw[h0,Neo]at hob
    iterate 6
     (try rw[Z0]);(try simp(maxSteps:=9^7)(disch:=first|omega|rfl|assumption)only[↓Yaa,Yab,Nae,Naa,rB,rC,rD,rE,reduceIte,unP,rF,g1,g2,g3,g4,kQ,lD])
    refine hK2 _ ⟨?_,?_,?_,(by rw[←hob];exact hs.cnt (by first|omega|(simp only;omega)))⟩<;>first|with_reducible rfl|with_reducible assumption|(simp[Yad,g1,g2,g3,g4]<;>omega)
  ·skip
   refine⟨0,(0,0),rfl,?_,?_,?_,?_,(hs.cnt Zag),Zad,(by rw[List.drop_zero,List.take_zero];exact hw0)⟩<;>first|with_reducible rfl|with_reducible assumption|(simp[Yad,g1,g2,g3]<;>omega)
 clear g1 g2 g3 hs;rintro⟨env,⟨sto,c⟩⟩ ⟨g1,g2,g3,hs⟩;try simp only at g1 g2 g3 hs
 obtain⟨wE,hwE⟩:∃ wE,Nfs (esD p.D) p.T [] w0=wE:=⟨_,rfl⟩;rw[hwE]at hR;refine NaQ (fun x=>∃ (lsE:List (List UInt8)) (vE:PV),x.env.get 1=.ptr Q 0∧x.env.get 2=.ptr F 0∧x.env.get 3=.ptr C 0∧(St10 c0 C [] S0 (slV p.zd p.D.length (p.D.flatMap Dc.cs)) (slV p.zt p.T.length (p.T.flatMap Td.cs)) (wE,lsE) vE x.st)) ?_ ?_
 ·intro K4 hK4;(try rw[Z0]);(try simp(maxSteps:=9^7)(disch:=first|omega|rfl|assumption)only[↓Yaa,Yab,Nae,Naa,rB,rC,rD,rE,reduceIte,unP,rF,g1,g2,g3]);refine Z9 (k:=p.T.length - 0) (fun m x=>∃ (i:Nat) (w:Int×Int) (ls:List (List UInt8)) (v:PV),m=p.T.length - i∧x.env.get 1=.ptr Q 0∧x.env.get 2=.ptr F 0∧x.env.get 3=.ptr C 0∧x.env.get 7=.i .i64 (i:Int)∧(St10 c0 C [] S0 (slV p.zd p.D.length (p.D.flatMap Dc.cs)) (slV p.zt p.T.length (p.T.flatMap Td.cs)) (w,ls) v x.st)∧(i≤p.T.length)∧(Nfs (esD p.D) (p.T.drop i) ((p.T.take i).map Td.S) w=wE)∧(Tds.rt (p.T.drop i)=true)) ?_ ?_ Zaa
  ·clear g1 g2 g3 hs;rintro m ⟨env,⟨sto,c⟩⟩ ⟨i,w,ls,v,rfl,g1,g2,g3,g7,hs,hi,hob,hrd⟩;try simp only at g1 g2 g3 g7 hs
   have kQ:∀ n',St.get ⟨sto,n'⟩ Q=some (.cells [slV p.zd p.D.length (p.D.flatMap Dc.cs),slV p.zt p.T.length (p.T.flatMap Td.cs)] false):=fun _=>(hs.ko Q lQ nQC Zaf).trans q0;by_cases hil:i<p.T.length
   ·have hsp:=fun z cs=>Nan (z:=z) (cs:=cs) hil;obtain⟨t,he⟩:∃ t,p.T[i]=t:=⟨_,rfl⟩;have hld:=fun st=>Niy (st:=st) hil;simp only[he]at hld;have ld0:=fun st=>(hld st).1;have ld1:=fun st=>(hld st).2.1;have ld2:=fun st=>(hld st).2.2;rw[List.drop_eq_getElem_cons hil,he,Nfs]at hob;rw[List.drop_eq_getElem_cons hil,he,Tds.rt]at hrd;simp only[Bool.and_eq_true]at hrd;have hB:Sms.rt t.B=true∧Tds.rt (p.T.drop (i+1))=true:=by
     first|exact⟨hrd.1.2,hrd.2⟩|exact⟨hrd.2.1,hrd.2.2⟩
    have htm:Sms.size t.B+1≤Tds.size p.T:=Tds.size_mem (he▸List.getElem_mem hil);have hts1:(p.T.take (i+1)).map Td.S=(p.T.take i).map Td.S++[t.S]:=(by rw[List.take_succ_eq_append_getElem hil,he];simp);obtain⟨w1,hw1⟩:∃ w1,NdP t ((p.T.take i).map Td.S) w=w1:=⟨_,rfl⟩;rw[hw1]at hob
    iterate 2
     (try rw[Z0]);(try simp(maxSteps:=9^7)(disch:=first|omega|rfl|assumption)only[↓Yaa,Yab,Nae,Naa,rB,rC,rD,rE,reduceIte,unP,rF,g1,g2,g3,g7,kQ,lT])
    refine Nbn fun K9 hK9=>?_;(try rw[Z0]);(try simp(maxSteps:=9^7)(disch:=first|omega|rfl|assumption)only[↓Yaa,Yab,Nae,Naa,rB,rC,rD,rE,reduceIte,unP,rF,g1,g2,g3,g7]);refine NaQ (fun x=>x.env.get 1=.ptr Q 0∧x.env.get 2=.ptr F 0∧x.env.get 3=.ptr C 0∧x.env.get 7=.i .i64 (i:Int)∧(St10 c0 C [] S0 (slV p.zd p.D.length (p.D.flatMap Dc.cs)) (slV p.zt p.T.length (p.T.flatMap Td.cs)) (w1,ls) v x.st)) ?_ ?_
    ·intro K5 hK5;(try rw[Z0]);(try simp(maxSteps:=9^7)(disch:=first|omega|rfl|assumption)only[↓Yaa,Yab,Nae,Naa,rB,rC,rD,rE,reduceIte,unP,rF,g1,g2,g3,g7]);refine Z9 (k:=i - 0) (fun m x=>∃ (k:Nat) (w':Int×Int),m=i - k∧x.env.get 1=.ptr Q 0∧x.env.get 2=.ptr F 0∧x.env.get 3=.ptr C 0∧x.env.get 7=.i .i64 (i:Int)∧x.env.get 8=.i .i64 (k:Int)∧(St10 c0 C [] S0 (slV p.zd p.D.length (p.D.flatMap Dc.cs)) (slV p.zt p.T.length (p.T.flatMap Td.cs)) (w',ls) v x.st)∧(k≤i)∧(NdP t ((p.T.take k).map Td.S) w=w')) ?_ ?_ Zaa
     ·clear g1 g2 g3 g7 hs;rintro m ⟨env,⟨sto,c⟩⟩ ⟨k,w',rfl,g1,g2,g3,g7,g8,hs,hk,hob2⟩;try simp only at g1 g2 g3 g7 g8 hs
      have kQ:∀ n',St.get ⟨sto,n'⟩ Q=some (.cells [slV p.zd p.D.length (p.D.flatMap Dc.cs),slV p.zt p.T.length (p.T.flatMap Td.cs)] false):=fun _=>(hs.ko Q lQ nQC Zaf).trans q0;by_cases hki:k<i
      ·have hkl:k<p.T.length:=(by omega);obtain⟨u,hu⟩:∃ u,p.T[k]=u:=⟨_,rfl⟩;have lk0:=fun st=>(Niy (st:=st) hkl).1;simp only[hu]at lk0;have hts2:(p.T.take (k+1)).map Td.S=(p.T.take k).map Td.S++[u.S]:=(by rw[List.take_succ_eq_append_getElem hkl,hu];simp);have hs1:∀ e,St10 c0 C [] S0 (slV p.zd p.D.length (p.D.flatMap Dc.cs)) (slV p.zt p.T.length (p.T.flatMap Td.cs)) (w',ls) v ⟨sto,c+e⟩:=fun e=>hs.cnt Zaa;have ho3:=Nlc t ((p.T.take k).map Td.S) u.S w;rw[←hts2,hob2]at ho3
       iterate 2
        (try rw[Z0]);(try simp(maxSteps:=9^7)(disch:=first|omega|rfl|assumption)only[↓Yaa,Yab,Nae,Naa,rB,rC,rD,rE,reduceIte,unP,rF,g1,g2,g3,g7,g8])
       refine Nbn fun K8 hK8=>?_;(try rw[Z0]);(try simp(maxSteps:=9^7)(disch:=first|omega|rfl|assumption)only[↓Yaa,Yab,Nae,Naa,rB,rC,rD,rE,reduceIte,unP,rF,g1,g2,g3,g7,g8]);cases hus:u.S==t.S with
       |true =>
         rw[hus,if_pos rfl]at ho3
         iterate 3
          (try rw[Z0]);(try simp(maxSteps:=9^7)(disch:=first|omega|rfl|assumption)only[↓Yaa,Yab,Nae,Naa,rB,rC,rD,rE,reduceIte,unP,rF,g1,g2,g3,g7,g8,kQ,hsp,cT,lk0,ld0,ld2,hus,hc.x5])
         refine Ncf (Na6 hok hc (hs1 _).self) ?_;rintro r1 ⟨sto1,c1⟩ ⟨rfl,h2'⟩;have hs3:=(hs1 _).trans h2';refine hK8 _ ?_
         iterate 2
          (try rw[Z0]);(try simp(maxSteps:=9^7)(disch:=first|omega|rfl|assumption)only[↓Yaa,Yab,Nae,Naa,rB,rC,rD,rE,reduceIte,unP,rF,g1,g2,g3,g7,g8])
         exact⟨i - (k+1),by omega,k+1,fI w' 112 t.R,rfl,rfl,hs3.cnt Zaa,by omega,ho3⟩
       |false =>
         rw[hus,if_neg Zaf]at ho3
         iterate 3
          (try rw[Z0]);(try simp(maxSteps:=9^7)(disch:=first|omega|rfl|assumption)only[↓Yaa,Yab,Nae,Naa,rB,rC,rD,rE,reduceIte,unP,rF,g1,g2,g3,g7,g8,kQ,hsp,cT,lk0,ld0,ld2,hus])
         refine hK8 _ ?_
         iterate 2
          (try rw[Z0]);(try simp(maxSteps:=9^7)(disch:=first|omega|rfl|assumption)only[↓Yaa,Yab,Nae,Naa,rB,rC,rD,rE,reduceIte,unP,rF,g1,g2,g3,g7,g8])
         exact⟨i - (k+1),by omega,k+1,w',rfl,rfl,hs.cnt Zaa,by omega,ho3⟩
      ·obtain rfl:k=i:=by omega
       iterate 6
        (try rw[Z0]);(try simp(maxSteps:=9^7)(disch:=first|omega|rfl|assumption)only[↓Yaa,Yab,Nae,Naa,rB,rC,rD,rE,reduceIte,unP,rF,g1,g2,g3,g7,g8])
       refine hK5 _ ⟨?_,?_,?_,?_,(by rw[←hw1,hob2];exact hs.cnt (by first|omega|(simp only;omega)))⟩<;>first|with_reducible rfl|with_reducible assumption|(simp[Yad,g1,g2,g3,g7,g8]<;>omega)
     ·skip
      refine⟨0,w,rfl,?_,?_,?_,?_,?_,(hs.cnt Zag),Zad,(by rw[List.take_zero];simp[NdP,NbN])⟩<;>first|with_reducible rfl|with_reducible assumption|(simp[Yad,g1,g2,g3,g7]<;>omega)
    clear g1 g2 g3 g7 hs;rintro⟨env,⟨sto,c⟩⟩ ⟨g1,g2,g3,g7,hs⟩;try simp only at g1 g2 g3 g7 hs
    refine NaQ (fun x=>x.env.get 1=.ptr Q 0∧x.env.get 2=.ptr F 0∧x.env.get 3=.ptr C 0∧x.env.get 7=.i .i64 (i:Int)∧(St10 c0 C [] S0 (slV p.zd p.D.length (p.D.flatMap Dc.cs)) (slV p.zt p.T.length (p.T.flatMap Td.cs)) (w1,[]) .nsl x.st)) ?_ ?_
    ·intro K6 hK6;have kC:∀ n',St.get ⟨sto,n'⟩ C=some (.cells [slV p.zd p.D.length (p.D.flatMap Dc.cs),slV p.zt p.T.length (p.T.flatMap Td.cs),.i .i64 w1.1,.i .i64 w1.2,v] false):=fun _=>hs.kC
     iterate 2
      (try rw[Z0]);(try simp(maxSteps:=9^7)(disch:=first|omega|rfl|assumption)only[↓Yaa,Yab,Nae,Naa,rB,rC,rD,rE,reduceIte,unP,rF,g1,g2,g3,g7,kC])
     refine hK6 _ ⟨?_,?_,?_,?_,(hs.clr (n2:=c+32) (n':=c+32) rfl Zaa)⟩<;>first|with_reducible rfl|with_reducible assumption|(simp[Yad,g1,g2,g3,g7]<;>omega)
    clear g1 g2 g3 g7 hs;rintro⟨env,⟨sto,c⟩⟩ ⟨g1,g2,g3,g7,hs⟩;try simp only at g1 g2 g3 g7 hs
    obtain⟨W,hW⟩:∃ W,Sms.rk (esD p.D) t.B (w1,[])=W:=⟨_,rfl⟩;rw[hW]at hob;refine NaQ (fun x=>∃ (v2:PV),x.env.get 1=.ptr Q 0∧x.env.get 2=.ptr F 0∧x.env.get 3=.ptr C 0∧x.env.get 7=.i .i64 (i:Int)∧(St10 c0 C [] S0 (slV p.zd p.D.length (p.D.flatMap Dc.cs)) (slV p.zt p.T.length (p.T.flatMap Td.cs)) W v2 x.st)) ?_ ?_
    ·intro K7 hK7;have kQ:∀ n',St.get ⟨sto,n'⟩ Q=some (.cells [slV p.zd p.D.length (p.D.flatMap Dc.cs),slV p.zt p.T.length (p.T.flatMap Td.cs)] false):=fun _=>(hs.ko Q lQ nQC Zaf).trans q0;have hs1:∀ e,St10 c0 C [] S0 (slV p.zd p.D.length (p.D.flatMap Dc.cs)) (slV p.zt p.T.length (p.T.flatMap Td.cs)) (w1,[]) .nsl ⟨sto,c+e⟩:=fun e=>hs.cnt Zaa
     iterate 2
      (try rw[Z0]);(try simp(maxSteps:=9^7)(disch:=first|omega|rfl|assumption)only[↓Yaa,Yab,Nae,Naa,rB,rC,rD,rE,reduceIte,unP,rF,g1,g2,g3,g7,kQ,hsp,cT,ld1,hc.x7])
     refine Ncf (Nju hok hc hD (q+3) t.B t.z (w1,[]) .nsl _ (by simp only[List.length_nil];omega) (by simp only[List.length_nil];omega) hB.1 (hs1 _).self) ?_;rintro r1 ⟨sto1,c1⟩ ⟨rfl,v3,h2'⟩;rw[hW]at h2';refine hK7 _ ⟨v3,?_,?_,?_,?_,((hs1 _).trans h2')⟩<;>first|with_reducible rfl|with_reducible assumption|(simp[Yad,g1,g2,g3,g7]<;>omega)
    clear g1 g2 g3 g7 hs;rintro⟨env,⟨sto,c⟩⟩ ⟨v2,g1,g2,g3,g7,hs⟩;try simp only at g1 g2 g3 g7 hs
    have kQ:∀ n',St.get ⟨sto,n'⟩ Q=some (.cells [slV p.zd p.D.length (p.D.flatMap Dc.cs),slV p.zt p.T.length (p.T.flatMap Td.cs)] false):=fun _=>(hs.ko Q lQ nQC Zaf).trans q0;have hs1:∀ e,St10 c0 C [] S0 (slV p.zd p.D.length (p.D.flatMap Dc.cs)) (slV p.zt p.T.length (p.T.flatMap Td.cs)) W v2 ⟨sto,c+e⟩:=fun e=>hs.cnt Zaa;have gL:∀ (st:St) (key:Nat),Nam (Naj cfg (NaC cfg (q+4)) 21) false st key [slV t.z t.B.length (Sms.cs t.B)]=some (.i .i64 (Sms.lg t.B 0),st):=fun st key =>
     Nal Zam (Naq hc.x8 NbQ (fun _=>rfl) (Nko hc.f8 hc.f3 hc.x8 hc.x3 (q+3) t.B t.z { sto:=.leaf,cnt:=1 } Zaa Zaa hB.1)) rfl
    by_cases h15:15000<Sms.lg t.B 0
    ·have hr3:Nfk t W.1=fI W.1 113 t.R:=(by unfold Nfk;rw[if_pos h15]);rw[hr3,←hts1]at hob
     iterate 3
      (try rw[Z0]);(try simp(maxSteps:=9^7)(disch:=first|omega|rfl|assumption)only[↓Yaa,Yab,Nae,Naa,rB,rC,rD,rE,reduceIte,unP,rF,g1,g2,g3,g7,kQ,hsp,cT,ld1,ld2,gL,h15,hc.x5])
     refine Ncf (Na6 hok hc (hs1 _).self) ?_;rintro r1 ⟨sto1,c1⟩ ⟨rfl,h2'⟩;have hs3:=(hs1 _).trans h2';refine hK9 _ ?_
     iterate 2
      (try rw[Z0]);(try simp(maxSteps:=9^7)(disch:=first|omega|rfl|assumption)only[↓Yaa,Yab,Nae,Naa,rB,rC,rD,rE,reduceIte,unP,rF,g1,g2,g3,g7])
     exact⟨p.T.length - (i+1),by omega,i+1,fI W.1 113 t.R,W.2,v2,rfl,rfl,hs3.cnt Zaa,by omega,hob,hB.2⟩
    ·have hr3:Nfk t W.1=W.1:=(by unfold Nfk;rw[if_neg h15]);rw[hr3,←hts1]at hob
     iterate 3
      (try rw[Z0]);(try simp(maxSteps:=9^7)(disch:=first|omega|rfl|assumption)only[↓Yaa,Yab,Nae,Naa,rB,rC,rD,rE,reduceIte,unP,rF,g1,g2,g3,g7,kQ,hsp,cT,ld1,ld2,gL,h15])
     refine hK9 _ ?_
     iterate 2
      (try rw[Z0]);(try simp(maxSteps:=9^7)(disch:=first|omega|rfl|assumption)only[↓Yaa,Yab,Nae,Naa,rB,rC,rD,rE,reduceIte,unP,rF,g1,g2,g3,g7])
     exact⟨p.T.length - (i+1),by omega,i+1,W.1,W.2,v2,rfl,rfl,hs.cnt Zaa,by omega,hob,hB.2⟩
   ·have h0:p.T.drop i=[]:=List.drop_of_length_le Zaa;rw[h0,Nfs]at hob
    iterate 6
     (try rw[Z0]);(try simp(maxSteps:=9^7)(disch:=first|omega|rfl|assumption)only[↓Yaa,Yab,Nae,Naa,rB,rC,rD,rE,reduceIte,unP,rF,g1,g2,g3,g7,kQ,lT])
    refine hK4 _ ⟨ls,v,?_,?_,?_,(by rw[←hob];exact hs.cnt (by first|omega|(simp only;omega)))⟩<;>first|with_reducible rfl|with_reducible assumption|(simp[Yad,g1,g2,g3,g7]<;>omega)
  ·skip
   refine⟨0,w0,[],.nsl,rfl,?_,?_,?_,?_,(hs.cnt Zag),Zad,(by rw[List.drop_zero,List.take_zero];exact hwE),(by rw[List.drop_zero];exact htr)⟩<;>first|with_reducible rfl|with_reducible assumption|(simp[Yad,g1,g2,g3]<;>omega)
 clear g1 g2 g3 hs;rintro⟨env,⟨sto,c⟩⟩ ⟨lsE,vE,g1,g2,g3,hs⟩;try simp only at g1 g2 g3 hs
 have kC:∀ n',St.get ⟨sto,n'⟩ C=some (.cells [slV p.zd p.D.length (p.D.flatMap Dc.cs),slV p.zt p.T.length (p.T.flatMap Td.cs),.i .i64 wE.1,.i .i64 wE.2,vE] false):=fun _=>hs.kC;have kF:∀ n',St.get ⟨sto,n'⟩ F=some (.cells [.i .i64 ((0:Nat):Int),.i .i64 ((0:Nat):Int)] false):=fun _=>(hs.ko F lF nFC Zaf).trans q1;subst hR
 iterate 3
  (try rw[Z0]);(try simp(maxSteps:=9^7)(disch:=first|omega|rfl|assumption)only[↓Yaa,Yab,Nae,Naa,rB,rC,rD,rE,reduceIte,unP,rF,g1,g2,g3,kC,kF])
 exact⟨nofun,_,Nb2 (by simp only[Yad,rE,if_false];exact g2) (by rw[Yaf]),rfl⟩
end Go.Pe
