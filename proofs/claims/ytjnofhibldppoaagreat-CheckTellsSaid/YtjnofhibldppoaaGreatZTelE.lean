/-
 CheckTells: the document's checker: stmts: walked. No condition.
-/
import Derived.Test.YtjnofhibldppoaaGreatZTelH
set_option linter.unusedVariables false
set_option linter.unusedSimpArgs false
set_option maxHeartbeats 16000000
open Nat renaming reduceAdd → rB,reduceMul → rC,reduceLT → rD,reduceEqDiff → rE,reduceLeDiff → rF
namespace Go.Pe
open Go Go.Am Go.RowKit
theorem NkX(i:List UInt8)(ls:List (List UInt8)):(rkL i ls).length≤ls.length+1:=by
 unfold rkL;split
 ·omega
 split
 ·omega
 ·rw[List.length_append];simp
mutual
theorem Sm.rk_len(es:List (List UInt8×Nat)):∀ (s:Sm) (w:(Int×Int)×List (List UInt8)),(s.rk es w).2.length≤w.2.length+s.size
 |.mk k o j i n za a zb b ze e r,w=>by
   rw[Sm.rk,Sm.size];have h1:=Sms.rk_len es b (rkI es (.mk k o j i n za a zb b ze e r) w);have h2:=Sms.rk_len es e (Sms.rk es b (rkI es (.mk k o j i n za a zb b ze e r) w));have h3:(rkI es (.mk k o j i n za a zb b ze e r) w).2.length≤w.2.length+1:=NkX _ _;omega
theorem Sms.rk_len(es:List (List UInt8×Nat)):∀ (l:List Sm) (w:(Int×Int)×List (List UInt8)),(Sms.rk es l w).2.length≤w.2.length+Sms.size l
 |[],w=>by rw[Sms.rk];omega
 |s::t,w=>by
   rw[Sms.rk,Sms.size];have h1:=Sm.rk_len es s w;have h2:=Sms.rk_len es t (s.rk es w);omega
end
theorem NmI{st:St}{sz n:Nat}{v:PV}{cs:List PV}(h:Own st sz v n cs):NdI v=some (.i .i64 (n:Int)):=by
 rcases h with⟨rfl,rfl,-⟩|⟨k,rfl,-⟩<;>rfl
theorem St10.app{c0 C:Nat}{kv:List Nat}{s0:St}{a b:PV}{w:(Int×Int)×List (List UInt8)}{v:PV}{sto:Trie PObj}{n:Nat}(h:St10 c0 C kv s0 a b w v ⟨sto,n⟩){i:List UInt8}{v':PV}{st2:St}{key:Nat}(ho:Own st2 1 v' (w.2.length+1) (stC w.2++[.s i]))(hk:∀ j,j∈keyOf v'→j=key)(hkn:n≤key)(hf:∀ j,j<n→j∉keyOf v→st2.get j=St.get ⟨sto,n⟩ j){n2 n':Nat}{o:Option PObj}(hoC:o=some (.cells [a,b,.i .i64 w.1.1,.i .i64 w.1.2,v'] false))(hc:st2.cnt≤n')(hn:n≤n')(ht:Top ⟨(St.put ⟨st2.sto,n2⟩ C o).sto,n'⟩):St10 c0 C kv s0 a b (w.1,w.2++[i]) v' ⟨(St.put ⟨st2.sto,n2⟩ C o).sto,n'⟩:=by
 have l1:=h.lt;have l2:c0≤n:=h.le;refine⟨h.lt,Nat.le_trans l2 hn,by rw[hoC];exact Yaf _ _ _,?_,fun hC=>by have:=hk _ hC;omega,fun k hk'=>.inr (by have:=hk k hk';omega),fun j h1 h3 h4=>(Yae (st:=⟨st2.sto,n2⟩) (Ne.symm h3)).trans ((hf j Zaa (fun h5=>(h.kk j h5).elim h4 Zaa)).trans (h.ko j h1 h3 h4)),ht⟩;have e:(w.2++[i]).length=w.2.length+1:=by simp
 have e2:stC (w.2++[i])=stC w.2++[.s i]:=by simp[stC]
 show Own _ 1 v' (w.2++[i]).length (stC (w.2++[i]));rw[e,e2];exact ho.move hc fun k hk' _=>Yae (st:=⟨st2.sto,n2⟩) (fun e=>by have:=hk k hk';omega)
theorem Niu{st:St}{l:List Dc}{i:Nat}(h:i<l.length):NaY st 1 (.fptr ((l.flatMap Dc.cs).drop (i * 5)))=some [.i .u8 (l[i].K.toNat:Int)]:=by
 rw[Nbj Dc.cs_len h];rfl
set_option pp.deepTerms false
set_option pp.deepTerms.threshold 6
theorem Nju{P:Program}{Gl:Gmap}{cfg:Cfg}(hok:CfgOK P Gl cfg)(hc:Cfg10 cfg){C:Nat}{zo:Bool}{D:List Dc}{b:PV}(hD:D.length≤100000):∀ (fuel:Nat) (l:List Sm) (z:Bool) (w:(Int×Int)×List (List UInt8)) (v:PV) (st:St),w.2.length+2 * Sms.size l+D.length+30≤fuel→w.2.length+Sms.size l≤1000000→Sms.rt l=true→St10 st.cnt C (keyOf v) st (slV zo D.length (D.flatMap Dc.cs)) b w v st →
 ∃ r' st',NaC cfg (fuel+1) 20 [.ptr C 0,slV z l.length (Sms.cs l)] st=some (r',st')∧(r'=.tup []∧∃ v',St10 st.cnt C (keyOf v) st (slV zo D.length (D.flatMap Dc.cs)) b (Sms.rk (esD D) l w) v' st'):=by
 intro fuel
 induction fuel with
 |zero=>intro l z w v st h;omega
 |succ q ih =>
   intro l z w v st hfu hn hrt hs0;refine NaA hc.f7 ?_;delta m20 Qa Qr Qf Qg Qc Ql Qt Qn Qs Qk Qm Qh Qi Qu Qv Qo;have hlv:=NaD z l.length (Sms.cs l);have hsz:=Sms.len l;have hlle:=Sms.len_le l;obtain⟨a,ha⟩:∃ a,slV zo D.length (D.flatMap Dc.cs)=a:=⟨_,rfl⟩;simp only[ha]at ih hs0 ⊢;obtain⟨R,hR⟩:∃ R,Sms.rk (esD D) l w=R:=⟨_,rfl⟩;rw[hR];obtain⟨sto0,c0⟩:=st;obtain⟨kv,hkv⟩:∃ kv,keyOf v=kv:=⟨_,rfl⟩;rw[hkv]at hs0 ⊢;simp only at hs0 ⊢;obtain⟨Y,hY⟩:∃ Y:St→Prop,Y=fun st'=>∃ v',St10 c0 C kv ⟨sto0,c0⟩ a b R v' st':=⟨_,rfl⟩
   simp only[show ∀ st',(∃ v',St10 c0 C kv ⟨sto0,c0⟩ a b R v' st')=Y st' from fun st'=>by rw[hY]];simp only[Nai]
   iterate 3
    (try rw[Z0]);(try simp(maxSteps:=9^7)(disch:=first|omega|rfl|assumption)only[↓Yaa,Yab,Nae,Naa,rB,rC,rD,rE,reduceIte,unP,rF])
   refine Z9 (k:=l.length - 0) (fun m x=>∃ (i:Nat) (w1:(Int×Int)×List (List UInt8)) (v1:PV),m=l.length - i∧x.env.get 0=.ptr C 0∧x.env.get 1=slV z l.length (Sms.cs l)∧x.env.get 4=.i .i64 (i:Int)∧(St10 c0 C kv ⟨sto0,c0⟩ a b w1 v1 x.st)∧(i≤l.length)∧(Sms.rt (l.drop i)=true)∧(w1.2.length+Sms.size (l.drop i)≤w.2.length+Sms.size l)∧(Sms.rk (esD D) (l.drop i) w1=R)) ?_ ?_ Zaa
   ·skip
    rintro m ⟨env,⟨sto,c⟩⟩ ⟨i,w1,v1,rfl,g0,g1,g4,hs,hi,hrd,hln,hob⟩;try simp only at g0 g1 g4 hs
    by_cases hil:i<l.length
    ·rw[Nan hil]at g1 hlv;obtain⟨s,he⟩:∃ s,l[i]=s:=⟨_,rfl⟩;have hld:=fun st=>NcL (st:=st) hil;simp only[he]at hld;have hel:s.size≤Sms.size l:=Sms.size_mem (he▸List.getElem_mem hil);have hes:=Sm.size_eq s;rw[List.drop_eq_getElem_cons hil,he,Sms.rk,Sm.rk_eq]at hob;rw[List.drop_eq_getElem_cons hil,he,Sms.rt,Bool.and_eq_true]at hrd;rw[List.drop_eq_getElem_cons hil,he,Sms.size]at hln;obtain⟨hsh,hrB,hrE,-⟩:=No7 hrd.1;have hrd2:=hrd.2;have hOf:=(Ngq hsh).2.1
     iterate 2
      (try rw[Z0]);(try simp(maxSteps:=9^7)(disch:=first|omega|rfl|assumption)only[↓Yaa,Yab,Nae,Naa,rB,rC,rD,rE,reduceIte,unP,rF,g0,g1,g4,hlv])
     refine Nbn fun K9 hK9=>?_;(try rw[Z0]);(try simp(maxSteps:=9^7)(disch:=first|omega|rfl|assumption)only[↓Yaa,Yab,Nae,Naa,rB,rC,rD,rE,reduceIte,unP,rF,g0,g1,g4]);(try rw[Z0]);(try simp(maxSteps:=9^7)(disch:=first|omega|rfl|assumption)only[↓Yaa,Yab,Nae,Naa,rB,rC,rD,rE,reduceIte,unP,rF,g0,g1,g4,hsz,hld,Nag,Naf]);have nB:=hs.new (B:=c+64) Zae;refine NaL (fun x=>∃ (B:Nat),B<x.st.cnt∧x.env.get 0=.ptr C 0∧x.env.get 1=.fsl l.length (Sms.cs l)∧x.env.get 4=.i .i64 (i:Int)∧x.env.get 5=.ptr B 0∧x.st.get B=some (.cells [.i .u8 (s.K.toNat:Int),.i .u8 (s.O.toNat:Int),.s s.J,.s s.I,.i .i64 s.N,slV s.za s.A.length (Exs.cs s.A),slV s.zb s.B.length (Sms.cs s.B),slV s.ze s.E.length (Sms.cs s.E),.i .i64 s.R] false)∧(St10 c0 C kv ⟨sto0,c0⟩ a b w1 v1 x.st)∧(B≠C∧B∉keyOf v1∧c0≤B)) ?_ ?_
     ·refine⟨c+64,Zab,?_,?_,?_,?_,(by rw[Yaf]),((hs.put (n':=c+80) nB.1 nB.2.1 nB.2.2 Zaa Zaa).put (n':=c+80) nB.1 nB.2.1 nB.2.2 Zaa Zaa),nB⟩<;>first|with_reducible rfl|with_reducible assumption|(simp[Yad,g0,g1,g4]<;>omega)
     clear g0 g1 g4 hs;rintro⟨env,⟨sto,c⟩⟩ ⟨B,bB,g0,g1,g4,g5,kB,hs,hB⟩;try simp only at bB g0 g1 g4 g5 hs
     replace kB:∀ n',St.get ⟨sto,n'⟩ B=some (.cells [.i .u8 (s.K.toNat:Int),.i .u8 (s.O.toNat:Int),.s s.J,.s s.I,.i .i64 s.N,slV s.za s.A.length (Exs.cs s.A),slV s.zb s.B.length (Sms.cs s.B),slV s.ze s.E.length (Sms.cs s.E),.i .i64 s.R] false):=fun _=>kB;refine NaQ (fun x=>x.env.get 0=.ptr C 0∧x.env.get 1=.fsl l.length (Sms.cs l)∧x.env.get 4=.i .i64 (i:Int)∧x.env.get 5=.ptr B 0∧B<x.st.cnt∧x.st.get B=some (.cells [.i .u8 (s.K.toNat:Int),.i .u8 (s.O.toNat:Int),.s s.J,.s s.I,.i .i64 s.N,slV s.za s.A.length (Exs.cs s.A),slV s.zb s.B.length (Sms.cs s.B),slV s.ze s.E.length (Sms.cs s.E),.i .i64 s.R] false)∧(St10 c0 C kv ⟨sto0,c0⟩ a b (rk1 (esD D) s w1.1,w1.2) v1 x.st)) ?_ ?_
     ·intro K1 hK1;have kC:∀ n',St.get ⟨sto,n'⟩ C=some (.cells [a,b,.i .i64 w1.1.1,.i .i64 w1.1.2,v1] false):=fun _=>hs.kC;have hs1:∀ d,St10 c0 C kv ⟨sto0,c0⟩ a b w1 v1 ⟨sto,c+d⟩:=fun d=>hs.cnt Zaa;by_cases hk1:s.K.toNat=1
      ·have k1:((s.K.toNat:Int)==Int.ofNat 1)=true:=(by rw[hk1];rfl);obtain⟨o1,o2,-⟩:=hOf hk1;have hpre:Nhp (esD D) s=NbK s.J (ofN s.O.toNat) (esD D):=(by unfold Nhp;rw[if_pos hk1]);obtain⟨fg1,fg2⟩:=Nf9 s.J D 0;cases hg:getN s.J (esD D)with
       |none =>
         have hn1:NbK s.J (ofN s.O.toNat) (esD D)=110:=(by unfold NbK;rw[hg]);have hr1:rk1 (esD D) s w1.1=fI w1.1 110 s.R:=(by unfold rk1;rw[hpre,hn1,if_neg Zaj]);have gF:=NeE (q:=q) (D:=D) (z:=zo) (s:=s.J) hc Zaa Zaa;rw[ha,fg1 hg]at gF
         iterate 2
          (try rw[Z0]);(try simp(maxSteps:=9^7)(disch:=first|omega|rfl|assumption)only[↓Yaa,Yab,Nae,Naa,rB,rC,rD,rE,reduceIte,unP,rF,g0,g1,g4,g5,kB,k1,kC])
         refine NaS (Na8 (by rw[←ha];simp only[List.all_cons,List.all_nil,Nbd,Bool.true_and];rfl)) gF rfl rfl ?_
         iterate 2
          (try rw[Z0]);(try simp(maxSteps:=9^7)(disch:=first|omega|rfl|assumption)only[↓Yaa,Yab,Nae,Naa,rB,rC,rD,rE,reduceIte,unP,rF,g0,g1,g4,g5,kB,hc.x5])
         refine Ncf (Na6 hok hc (hs1 144).self) ?_;rintro r1 ⟨sto1,c1⟩ ⟨rfl,h2'⟩;have hle:=h2'.le;simp only at hle;have kB1:St.get ⟨sto1,c1⟩ B=_:=(h2'.ko B Zae hB.1 hB.2.1).trans (kB _);refine hK1 _ ⟨?_,?_,?_,?_,Zab,kB1,(by rw[hr1];exact(hs1 144).trans h2')⟩<;>first|with_reducible rfl|with_reducible assumption|(simp[Yad,g0,g1,g4,g5]<;>omega)
       |some kk =>
         obtain⟨j,hj,hfj,hkj⟩:=fg2 kk hg;have gF:=NeE (q:=q) (D:=D) (z:=zo) (s:=s.J) hc Zaa Zaa;rw[hfj,Nan hj,Nat.zero_add]at gF;have ha2:a=.fsl D.length (D.flatMap Dc.cs):=(by rw[←ha];exact Nan hj);have gO:Naj cfg (NaC cfg (q+1)) 33 [.i .u8 (s.O.toNat:Int)]=some (.i .u8 (ofN s.O.toNat:Int)):=Naq hc.x4 rfl (fun _=>rfl) (Nmu hc.f4 o1 o2);rw[ha2]at kC;have lK:=fun st=>(Niu (st:=st) hj);simp only[hkj]at lK;have lC:=NaR Dc.cs_len D
         iterate 2
          (try rw[Z0]);(try simp(maxSteps:=9^7)(disch:=first|omega|rfl|assumption)only[↓Yaa,Yab,Nae,Naa,rB,rC,rD,rE,reduceIte,unP,rF,g0,g1,g4,g5,kB,k1,kC])
         refine NaS (Na8 (by simp[PV.flat])) gF rfl rfl ?_
         iterate 2
          (try rw[Z0]);(try simp(maxSteps:=9^7)(disch:=first|omega|rfl|assumption)only[↓Yaa,Yab,Nae,Naa,rB,rC,rD,rE,reduceIte,unP,rF,g0,g1,g4,g5,kB,kC,lK,lC])
         refine NaS (Na8 rfl) gO rfl rfl ?_;by_cases hkk:kk=ofN s.O.toNat
         ·have n1:((kk:Int) != (ofN s.O.toNat:Int))=false:=(by rw[hkk];exact bne_self_eq_false _);have hn1:NbK s.J (ofN s.O.toNat) (esD D)=0:=(by unfold NbK;rw[hg];exact if_pos hkk);have hr1:rk1 (esD D) s w1.1=w1.1:=by unfold rk1;rw[hpre,hn1,if_pos rfl]
          iterate 2
           (try rw[Z0]);(try simp(maxSteps:=9^7)(disch:=first|omega|rfl|assumption)only[↓Yaa,Yab,Nae,Naa,rB,rC,rD,rE,reduceIte,unP,rF,g0,g1,g4,g5,kB,n1])
          refine hK1 _ ⟨?_,?_,?_,?_,Zab,?_,(by rw[hr1];exact hs1 216)⟩<;>first|with_reducible rfl|with_reducible assumption|exact kB _|(simp[Yad,g0,g1,g4,g5]<;>omega)|(simp(disch:=omega)only[NaP,NaV,Yaf,kB];first|done|with_reducible rfl|with_reducible assumption)
         ·have n1:((kk:Int) != (ofN s.O.toNat:Int))=true:=(by simp;omega);have hn1:NbK s.J (ofN s.O.toNat) (esD D)=111:=(by unfold NbK;rw[hg];exact if_neg hkk);have hr1:rk1 (esD D) s w1.1=fI w1.1 111 s.R:=by unfold rk1;rw[hpre,hn1,if_neg Zaj]
          iterate 2
           (try rw[Z0]);(try simp(maxSteps:=9^7)(disch:=first|omega|rfl|assumption)only[↓Yaa,Yab,Nae,Naa,rB,rC,rD,rE,reduceIte,unP,rF,g0,g1,g4,g5,kB,n1,hc.x5])
          refine Ncf (Na6 hok hc (hs1 248).self) ?_;rintro r1 ⟨sto1,c1⟩ ⟨rfl,h2'⟩;have hle:=h2'.le;simp only at hle;have kB1:St.get ⟨sto1,c1⟩ B=_:=(h2'.ko B Zae hB.1 hB.2.1).trans (kB _);refine hK1 _ ⟨?_,?_,?_,?_,Zab,kB1,(by rw[hr1];exact(hs1 248).trans h2')⟩<;>first|with_reducible rfl|with_reducible assumption|(simp[Yad,g0,g1,g4,g5]<;>omega)
      ·have k1:((s.K.toNat:Int)==Int.ofNat 1)=false:=(by simp;omega);have hpre:Nhp (esD D) s=0:=(by unfold Nhp;rw[if_neg hk1]);have hr1:rk1 (esD D) s w1.1=w1.1:=by unfold rk1;rw[hpre,if_pos rfl]
       iterate 2
        (try rw[Z0]);(try simp(maxSteps:=9^7)(disch:=first|omega|rfl|assumption)only[↓Yaa,Yab,Nae,Naa,rB,rC,rD,rE,reduceIte,unP,rF,g0,g1,g4,g5,kB,k1,kC])
       refine hK1 _ ⟨?_,?_,?_,?_,Zab,?_,(by rw[hr1];exact hs1 24)⟩<;>first|with_reducible rfl|with_reducible assumption|exact kB _|(simp[Yad,g0,g1,g4,g5]<;>omega)|(simp(disch:=omega)only[NaP,NaV,Yaf,kB];first|done|with_reducible rfl|with_reducible assumption)
     clear bB g0 g1 g4 g5 kB hs;rintro⟨env,⟨sto,c⟩⟩ ⟨g0,g1,g4,g5,bB,kB,hs⟩;try simp only at g0 g1 g4 g5 bB hs
     replace kB:∀ n',St.get ⟨sto,n'⟩ B=some (.cells [.i .u8 (s.K.toNat:Int),.i .u8 (s.O.toNat:Int),.s s.J,.s s.I,.i .i64 s.N,slV s.za s.A.length (Exs.cs s.A),slV s.zb s.B.length (Sms.cs s.B),slV s.ze s.E.length (Sms.cs s.E),.i .i64 s.R] false):=fun _=>kB;obtain⟨w2,hw2⟩:∃ w2,rk1 (esD D) s w1.1=w2:=⟨_,rfl⟩;rw[hw2]at hs;refine NaQ (fun x=>x.env.get 0=.ptr C 0∧x.env.get 1=.fsl l.length (Sms.cs l)∧x.env.get 4=.i .i64 (i:Int)∧x.env.get 5=.ptr B 0∧B<x.st.cnt∧x.st.get B=some (.cells [.i .u8 (s.K.toNat:Int),.i .u8 (s.O.toNat:Int),.s s.J,.s s.I,.i .i64 s.N,slV s.za s.A.length (Exs.cs s.A),slV s.zb s.B.length (Sms.cs s.B),slV s.ze s.E.length (Sms.cs s.E),.i .i64 s.R] false)∧(St10 c0 C kv ⟨sto0,c0⟩ a b (rk2 w1.2 s w2,w1.2) v1 x.st)) ?_ ?_
     ·intro K2 hK2;have hs1:∀ d,St10 c0 C kv ⟨sto0,c0⟩ a b (w2,w1.2) v1 ⟨sto,c+d⟩:=fun d=>hs.cnt Zaa
      iterate 2
       (try rw[Z0]);(try simp(maxSteps:=9^7)(disch:=first|omega|rfl|assumption)only[↓Yaa,Yab,Nae,Naa,rB,rC,rD,rE,reduceIte,unP,rF,g0,g1,g4,g5,kB,hc.x6])
      refine Ncf (Ni9 hok hc (ls:=w1.2) Zaa q s.A s.za w2 ⟨sto,c+48⟩ Zaa Zaa (hs1 48).self) ?_;rintro r1 ⟨sto1,c1⟩ ⟨rfl,h2'⟩;have hle:=h2'.le;simp only at hle;have kB1:St.get ⟨sto1,c1⟩ B=_:=(h2'.ko B Zae hB.1 hB.2.1).trans (kB _);refine hK2 _ ⟨?_,?_,?_,?_,Zab,kB1,((hs1 48).trans h2')⟩<;>first|with_reducible rfl|with_reducible assumption|(simp[Yad,g0,g1,g4,g5]<;>omega)
     clear g0 g1 g4 g5 bB kB hs;rintro⟨env,⟨sto,c⟩⟩ ⟨g0,g1,g4,g5,bB,kB,hs⟩;try simp only at g0 g1 g4 g5 bB hs
     replace kB:∀ n',St.get ⟨sto,n'⟩ B=some (.cells [.i .u8 (s.K.toNat:Int),.i .u8 (s.O.toNat:Int),.s s.J,.s s.I,.i .i64 s.N,slV s.za s.A.length (Exs.cs s.A),slV s.zb s.B.length (Sms.cs s.B),slV s.ze s.E.length (Sms.cs s.E),.i .i64 s.R] false):=fun _=>kB;obtain⟨w3,hw3⟩:∃ w3,rk2 w1.2 s w2=w3:=⟨_,rfl⟩;rw[hw3]at hs;refine NaQ (fun x=>∃ (v2:PV),x.env.get 0=.ptr C 0∧x.env.get 1=.fsl l.length (Sms.cs l)∧x.env.get 4=.i .i64 (i:Int)∧x.env.get 5=.ptr B 0∧B<x.st.cnt∧x.st.get B=some (.cells [.i .u8 (s.K.toNat:Int),.i .u8 (s.O.toNat:Int),.s s.J,.s s.I,.i .i64 s.N,slV s.za s.A.length (Exs.cs s.A),slV s.zb s.B.length (Sms.cs s.B),slV s.ze s.E.length (Sms.cs s.E),.i .i64 s.R] false)∧(St10 c0 C kv ⟨sto0,c0⟩ a b (rk3 w1.2 s w3,rkL s.I w1.2) v2 x.st)∧(B≠C∧B∉keyOf v2∧c0≤B)) ?_ ?_
     ·intro K3 hK3;have kC:∀ n',St.get ⟨sto,n'⟩ C=some (.cells [a,b,.i .i64 w3.1,.i .i64 w3.2,v1] false):=fun _=>hs.kC;have hs1:∀ d,St10 c0 C kv ⟨sto0,c0⟩ a b (w3,w1.2) v1 ⟨sto,c+d⟩:=fun d=>hs.cnt Zaa;cases hI:s.I==([]:List UInt8)with
      |true =>
        have hI2:s.I=[]:=(by simpa using hI);have hr3:rk3 w1.2 s w3=w3:=(by unfold rk3;rw[if_pos hI2]);have hl1:rkL s.I w1.2=w1.2:=by unfold rkL;rw[if_pos hI2]
        iterate 2
         (try rw[Z0]);(try simp(maxSteps:=9^7)(disch:=first|omega|rfl|assumption)only[↓Yaa,Yab,Nae,Naa,rB,rC,rD,rE,reduceIte,unP,rF,g0,g1,g4,g5,kB,hI,Bool.not_true,kC])
        refine hK3 _ ⟨v1,?_,?_,?_,?_,Zab,?_,(by rw[hr3,hl1];exact hs1 104),hB⟩<;>first|with_reducible rfl|with_reducible assumption|exact kB _|(simp[Yad,g0,g1,g4,g5]<;>omega)|(simp(disch:=omega)only[NaP,NaV,Yaf,kB];first|done|with_reducible rfl|with_reducible assumption)
      |false =>
        have hI2:s.I≠[]:=(by simpa using hI);(try rw[Z0]);(try simp(maxSteps:=9^7)(disch:=first|omega|rfl|assumption)only[↓Yaa,Yab,Nae,Naa,rB,rC,rD,rE,reduceIte,unP,rF,g0,g1,g4,g5,kB,hI,Bool.not_false,kC]);obtain⟨z1,hz1⟩:=NkM (hs1 96).ow (Nk7 w1.2);refine NaS (NbL rfl hz1) (NkZ (q:=q) (ls:=w1.2) hc Zaa Zaa) rfl rfl ?_;cases hh:NbN s.I w1.2 with
        |true =>
          have hr3:rk3 w1.2 s w3=w3:=(by unfold rk3;rw[if_neg hI2,if_pos hh]);have hl1:rkL s.I w1.2=w1.2:=by unfold rkL;rw[if_neg hI2,if_pos hh]
          iterate 2
           (try rw[Z0]);(try simp(maxSteps:=9^7)(disch:=first|omega|rfl|assumption)only[↓Yaa,Yab,Nae,Naa,rB,rC,rD,rE,reduceIte,unP,rF,g0,g1,g4,g5,kB,Bool.not_true])
          refine hK3 _ ⟨v1,?_,?_,?_,?_,Zab,?_,(by rw[hr3,hl1];exact hs1 104),hB⟩<;>first|with_reducible rfl|with_reducible assumption|exact kB _|(simp[Yad,g0,g1,g4,g5]<;>omega)|(simp(disch:=omega)only[NaP,NaV,Yaf,kB];first|done|with_reducible rfl|with_reducible assumption)
        |false =>
          have hl1:rkL s.I w1.2=w1.2++[s.I]:=(by unfold rkL;rw[if_neg hI2,if_neg (by rw[hh];simp)]);obtain⟨w4,hw4⟩:∃ w4,rk3 w1.2 s w3=w4:=⟨_,rfl⟩;have hlen:=NmI hs.ow;(try rw[Z0]);(try simp(maxSteps:=9^7)(disch:=first|omega|rfl|assumption)only[↓Yaa,Yab,Nae,Naa,rB,rC,rD,rE,reduceIte,unP,rF,g0,g1,g4,g5,kB,Bool.not_false]);refine NaQ (fun x=>x.env.get 0=.ptr C 0∧x.env.get 1=.fsl l.length (Sms.cs l)∧x.env.get 4=.i .i64 (i:Int)∧x.env.get 5=.ptr B 0∧B<x.st.cnt∧x.st.get B=some (.cells [.i .u8 (s.K.toNat:Int),.i .u8 (s.O.toNat:Int),.s s.J,.s s.I,.i .i64 s.N,slV s.za s.A.length (Exs.cs s.A),slV s.zb s.B.length (Sms.cs s.B),slV s.ze s.E.length (Sms.cs s.E),.i .i64 s.R] false)∧(St10 c0 C kv ⟨sto0,c0⟩ a b (w4,w1.2) v1 x.st)) ?_ ?_
          ·intro K4 hK4;by_cases h20:20≤w1.2.length
           ·have h20':(20:Int)≤(w1.2.length:Int):=(by omega);have hr3:w4=fI w3 102 s.R:=by rw[←hw4];unfold rk3;rw[if_neg hI2,if_neg (by rw[hh];simp),if_pos h20]
            iterate 2
             (try rw[Z0]);(try simp(maxSteps:=9^7)(disch:=first|omega|rfl|assumption)only[↓Yaa,Yab,Nae,Naa,rB,rC,rD,rE,reduceIte,unP,rF,g0,g1,g4,g5,kB,kC,hlen,h20',hc.x5])
            refine Ncf (Na6 hok hc (hs1 184).self) ?_;rintro r1 ⟨sto1,c1⟩ ⟨rfl,h2'⟩;have hle:=h2'.le;simp only at hle;have kB1:St.get ⟨sto1,c1⟩ B=_:=(h2'.ko B Zae hB.1 hB.2.1).trans (kB _);refine hK4 _ ⟨?_,?_,?_,?_,Zab,kB1,(by rw[hr3];exact(hs1 184).trans h2')⟩<;>first|with_reducible rfl|with_reducible assumption|(simp[Yad,g0,g1,g4,g5]<;>omega)
           ·have h20':¬ (20:Int)≤(w1.2.length:Int):=(by omega);have hr3:w4=w3:=by rw[←hw4];unfold rk3;rw[if_neg hI2,if_neg (by rw[hh];simp),if_neg h20]
            iterate 2
             (try rw[Z0]);(try simp(maxSteps:=9^7)(disch:=first|omega|rfl|assumption)only[↓Yaa,Yab,Nae,Naa,rB,rC,rD,rE,reduceIte,unP,rF,g0,g1,g4,g5,kB,kC,hlen,h20'])
            refine hK4 _ ⟨?_,?_,?_,?_,Zab,?_,(by rw[hr3];exact hs1 152)⟩<;>first|with_reducible rfl|with_reducible assumption|exact kB _|(simp[Yad,g0,g1,g4,g5]<;>omega)|(simp(disch:=omega)only[NaP,NaV,Yaf,kB];first|done|with_reducible rfl|with_reducible assumption)
          clear g0 g1 g4 g5 bB kB hs;rintro⟨env,⟨sto,c⟩⟩ ⟨g0,g1,g4,g5,bB,kB,hs⟩;try simp only at g0 g1 g4 g5 bB hs
          replace kB:∀ n',St.get ⟨sto,n'⟩ B=some (.cells [.i .u8 (s.K.toNat:Int),.i .u8 (s.O.toNat:Int),.s s.J,.s s.I,.i .i64 s.N,slV s.za s.A.length (Exs.cs s.A),slV s.zb s.B.length (Sms.cs s.B),slV s.ze s.E.length (Sms.cs s.E),.i .i64 s.R] false):=fun _=>kB;have kC:∀ n',St.get ⟨sto,n'⟩ C=some (.cells [a,b,.i .i64 w4.1,.i .i64 w4.2,v1] false):=fun _=>hs.kC;have hs1:∀ d,St10 c0 C kv ⟨sto0,c0⟩ a b (w4,w1.2) v1 ⟨sto,c+d⟩:=fun d=>hs.cnt Zaa;refine Ngy hok hs.top ?_;have kn:∀ d,c+d∉C::keyOf v1:=fun d h=>by
           rcases List.mem_cons.1 h with h|h
           ·have:=hs.lt;have:=hs.le;simp only at this;omega
           ·have:=hs.ow.lt _ h;simp only at this;omega
          have hnn:∀ d n',St.get ⟨sto,n'⟩ (c+d)=none:=fun d _=>hs.top (c+d) Zae;refine NdC (Nb8 hok _) (NcH hok _).2 (C::keyOf v1) Zao (ns:=[true,false,false,false,false,false,false,false,false,false,false,false]) Zao hs.top ?_;(first|rw[Nav]|rw[Nao]);(try simp(maxSteps:=9^7)(disch:=first|omega|rfl|assumption)only[↓Yaa,Yac,Nae,Naa,rB,rC,rD,rE,reduceIte,unP,Xl,rF,NaK,NaF,NaE,Nar,Nap,Nas,Nau,g0,g5,kC,kB,Nb6,Nb7]);(first|rw[Nav]|rw[Nao]);(try simp(maxSteps:=9^7)(disch:=first|omega|rfl|assumption)only[↓Yaa,Yac,Nae,Naa,rB,rC,rD,rE,reduceIte,unP,Xl,rF,NaK,NaF,NaE,Nar,Nap,Nas,Nau,g0,g5,kC,kB,Nb6,Nb7]);(first|rw[Nav]|rw[Nao]);(try simp(maxSteps:=9^7)(disch:=first|omega|rfl|assumption)only[↓Yaa,Yac,Nae,Naa,rB,rC,rD,rE,reduceIte,unP,Xl,rF,NaK,NaF,NaE,Nar,Nap,Nas,Nau,g0,g5,kC,kB,Nb6,Nb7]);(first|rw[Nav]|rw[Nao]);(try simp(maxSteps:=9^7)(disch:=first|omega|rfl|assumption)only[↓Yaa,Yac,Nae,Naa,rB,rC,rD,rE,reduceIte,unP,Xl,rF,NaK,NaF,NaE,Nar,Nap,Nas,Nau,g0,g5,kC,kB,Nb6,Nb7]);(first|rw[Nav]|rw[Nao]);(try simp(maxSteps:=9^7)(disch:=first|omega|rfl|assumption)only[↓Yaa,Yac,Nae,Naa,rB,rC,rD,rE,reduceIte,unP,Xl,rF,NaK,NaF,NaE,Nar,Nap,Nas,Nau,g0,g5,kC,kB,Nb6,Nb7]);(first|rw[Nav]|rw[Nao]);(try simp(maxSteps:=9^7)(disch:=first|omega|rfl|assumption)only[↓Yaa,Yac,Nae,Naa,rB,rC,rD,rE,reduceIte,unP,Xl,rF,NaK,NaF,NaE,Nar,Nap,Nas,Nau,g0,g5,kC,kB,Nb6,Nb7]);(first|rw[Nav]|rw[Nao]);(try simp(maxSteps:=9^7)(disch:=first|omega|rfl|assumption)only[↓Yaa,Yac,Nae,Naa,rB,rC,rD,rE,reduceIte,unP,Xl,rF,NaK,NaF,NaE,Nar,Nap,Nas,Nau,g0,g5,kC,kB,Nb6,Nb7]);(first|rw[Nav]|rw[Nao]);(try simp(maxSteps:=9^7)(disch:=first|omega|rfl|assumption)only[↓Yaa,Yac,Nae,Naa,rB,rC,rD,rE,reduceIte,unP,Xl,rF,NaK,NaF,NaE,Nar,Nap,Nas,Nau,g0,g5,kC,kB,Nb6,Nb7]);refine⟨by rw[NaE _ _ _ _ _ _ _ rfl rfl];exact kn 0,Nbo rfl (Ndm _ _) (hnn 0 _),Nb3 (kn 8),NaN rfl,Nb3 (kn 16),NaN rfl,Nb3 (kn 24),NaN rfl,⟨kn 32,nofun⟩,NaN rfl,Nb3 (kn 40),NaN rfl,⟨kn 48,nofun⟩,NaN rfl,Nb3 (kn 56),NaN rfl,?_⟩;(first|rw[Nav]|rw[Nao]);(try simp(maxSteps:=9^7)(disch:=first|omega|rfl|assumption)only[↓Yaa,Yac,Nae,Naa,rB,rC,rD,rE,reduceIte,unP,Xl,rF,NaK,NaF,NaE,Nar,Nap,Nas,Nau,Nct]);refine⟨by rw[NaF _ _ _ _ _ _ _ rfl];trivial,?_⟩;have lt':∀ k,k∈keyOf v1→k<c:=fun k hk=>hs.ow.lt k hk;refine NeI (hs.ow.move Zai fun k hk _=>by have:=lt' k hk;simp(disch:=omega)only[NaV];rfl) Zai (fun h=>by have:=lt' _ h;omega) rfl Zaa (by unfold maxBytes;simp only;omega) ?_;intro v' st' hown hcnt hkey hj;simp only[Naz]at hcnt;have pz:∀ k,k≠c+56→k≠c+64→k∉keyOf v1→st'.get k=St.get ⟨sto,c⟩ k:=fun k a b d=>(hj k b d).trans (by rw[Yae (Ne.symm a)];rfl);have gC:st'.get C=some (.cells [a,b,.i .i64 w4.1,.i .i64 w4.2,v1] false):=(pz C (by have:=hs.lt;have:=hs.le;simp only at this;omega) (by have:=hs.lt;have:=hs.le;simp only at this;omega) hs.nC).trans (kC _);have gB:st'.get B=_:=(pz B Zaa Zaa hB.2.1).trans (kB _);have gz:∀ j,j<c→j∉keyOf v1→st'.get j=St.get ⟨sto,c⟩ j:=fun j a d=>pz j Zaa Zaa d;refine⟨by rw[Nap _ _ _ _ _ _ _ rfl];exact fun k a b=>hj k a fun h=>b (List.mem_cons_of_mem _ h),?_⟩;obtain⟨sto',c'⟩:=st';simp only at hcnt;subst hcnt;have gC':∀ n',St.get ⟨sto',n'⟩ C=some (.cells [a,b,.i .i64 w4.1,.i .i64 w4.2,v1] false):=fun _=>gC;(first|rw[Nav]|rw[Nao]);(try simp(maxSteps:=9^7)(disch:=first|omega|rfl|assumption)only[↓Yaa,Yac,Nae,Naa,rB,rC,rD,rE,reduceIte,unP,Xl,rF,NaK,NaF,NaE,Nar,Nap,Nas,Nau,g0]);(first|rw[Nav]|rw[Nao]);(try simp(maxSteps:=9^7)(disch:=first|omega|rfl|assumption)only[↓Yaa,Yac,Nae,Naa,rB,rC,rD,rE,reduceIte,unP,Xl,rF,NaK,NaF,NaE,Nar,Nap,Nas,Nau,g0]);refine⟨Nb3 (kn 72),NaN rfl,Nb3 (kn 80),NaN rfl,?_⟩;have hvc:v'.cells=[v']:=(Ncc hown).1;have hv1:v'.one=true:=(Ncc hown).2;(first|rw[Nav]|rw[Nao]);(try simp(maxSteps:=9^7)(disch:=first|omega|rfl|assumption)only[↓Yaa,Yac,Nae,Naa,rB,rC,rD,rE,reduceIte,unP,Xl,rF,NaK,NaF,NaE,Nar,Nap,Nas,Nau,gC',hvc,hv1]);refine⟨by rw[NaF _ _ _ _ _ _ _ rfl];trivial,by rw[Nap _ _ _ _ _ _ _ rfl];exact fun k a b=>Yae fun h=>b (by rw[←h];exact List.mem_cons_self),?_⟩;rw[NfS];(try rw[Z0]);(try simp(maxSteps:=9^7)(disch:=first|omega|rfl|assumption)only[↓Yaa,Yab,Nae,Naa,rB,rC,rD,rE,reduceIte,unP,rF,g0,g1,g4,g5,kB]);intro ht2;have hsA:=St10.app hs (i:=s.I) hown hkey Zaa gz rfl (n':=c+96) Zae Zaa ht2;refine hK3 _ ⟨v',?_,?_,?_,?_,Zab,(by rw[Yae (Ne.symm hB.1)];exact gB),(by rw[hw4,hl1];exact hsA),⟨hB.1,fun h=>by have:=hkey _ h;omega,hB.2.2⟩⟩<;>first|with_reducible rfl|with_reducible assumption|(simp[Yad,g0,g1,g4,g5]<;>omega)
     clear g0 g1 g4 g5 bB kB hs;rintro⟨env,⟨sto,c⟩⟩ ⟨v2,g0,g1,g4,g5,bB,kB,hs,hB⟩;try simp only at g0 g1 g4 g5 bB hs
     replace kB:∀ n',St.get ⟨sto,n'⟩ B=some (.cells [.i .u8 (s.K.toNat:Int),.i .u8 (s.O.toNat:Int),.s s.J,.s s.I,.i .i64 s.N,slV s.za s.A.length (Exs.cs s.A),slV s.zb s.B.length (Sms.cs s.B),slV s.ze s.E.length (Sms.cs s.E),.i .i64 s.R] false):=fun _=>kB;obtain⟨w4,hw4⟩:∃ w4,rk3 w1.2 s w3=w4:=⟨_,rfl⟩;rw[hw4]at hs;refine NaQ (fun x=>x.env.get 0=.ptr C 0∧x.env.get 1=.fsl l.length (Sms.cs l)∧x.env.get 4=.i .i64 (i:Int)∧x.env.get 5=.ptr B 0∧B<x.st.cnt∧x.st.get B=some (.cells [.i .u8 (s.K.toNat:Int),.i .u8 (s.O.toNat:Int),.s s.J,.s s.I,.i .i64 s.N,slV s.za s.A.length (Exs.cs s.A),slV s.zb s.B.length (Sms.cs s.B),slV s.ze s.E.length (Sms.cs s.E),.i .i64 s.R] false)∧(St10 c0 C kv ⟨sto0,c0⟩ a b (rk4 s w4,rkL s.I w1.2) v2 x.st)) ?_ ?_
     ·intro K5 hK5;have kC:∀ n',St.get ⟨sto,n'⟩ C=some (.cells [a,b,.i .i64 w4.1,.i .i64 w4.2,v2] false):=fun _=>hs.kC;have hs1:∀ d,St10 c0 C kv ⟨sto0,c0⟩ a b (w4,rkL s.I w1.2) v2 ⟨sto,c+d⟩:=fun d=>hs.cnt Zaa;by_cases hk3:s.K.toNat=3
      ·have k3:((s.K.toNat:Int)==Int.ofNat 3)=true:=(by rw[hk3];rfl);by_cases hN:1000<s.N
       ·have hr4:rk4 s w4=fI w4 113 s.R:=by unfold rk4;rw[if_pos ⟨hk3,hN⟩]
        iterate 2
         (try rw[Z0]);(try simp(maxSteps:=9^7)(disch:=first|omega|rfl|assumption)only[↓Yaa,Yab,Nae,Naa,rB,rC,rD,rE,reduceIte,unP,rF,g0,g1,g4,g5,kB,k3,hN,hc.x5])
        refine Ncf (Na6 hok hc (hs1 96).self) ?_;rintro r1 ⟨sto1,c1⟩ ⟨rfl,h2'⟩;have hle:=h2'.le;simp only at hle;have kB1:St.get ⟨sto1,c1⟩ B=_:=(h2'.ko B Zae hB.1 hB.2.1).trans (kB _);refine hK5 _ ⟨?_,?_,?_,?_,Zab,kB1,(by rw[hr4];exact(hs1 96).trans h2')⟩<;>first|with_reducible rfl|with_reducible assumption|(simp[Yad,g0,g1,g4,g5]<;>omega)
       ·have hr4:rk4 s w4=w4:=by unfold rk4;rw[if_neg (fun h=>hN h.2)]
        iterate 2
         (try rw[Z0]);(try simp(maxSteps:=9^7)(disch:=first|omega|rfl|assumption)only[↓Yaa,Yab,Nae,Naa,rB,rC,rD,rE,reduceIte,unP,rF,g0,g1,g4,g5,kB,k3,hN])
        refine hK5 _ ⟨?_,?_,?_,?_,Zab,?_,(by rw[hr4];exact hs1 64)⟩<;>first|with_reducible rfl|with_reducible assumption|exact kB _|(simp[Yad,g0,g1,g4,g5]<;>omega)|(simp(disch:=omega)only[NaP,NaV,Yaf,kB];first|done|with_reducible rfl|with_reducible assumption)
      ·have k3:((s.K.toNat:Int)==Int.ofNat 3)=false:=(by simp;omega);have hr4:rk4 s w4=w4:=by unfold rk4;rw[if_neg (fun h=>hk3 h.1)]
       iterate 2
        (try rw[Z0]);(try simp(maxSteps:=9^7)(disch:=first|omega|rfl|assumption)only[↓Yaa,Yab,Nae,Naa,rB,rC,rD,rE,reduceIte,unP,rF,g0,g1,g4,g5,kB,k3])
       refine hK5 _ ⟨?_,?_,?_,?_,Zab,?_,(by rw[hr4];exact hs1 64)⟩<;>first|with_reducible rfl|with_reducible assumption|exact kB _|(simp[Yad,g0,g1,g4,g5]<;>omega)|(simp(disch:=omega)only[NaP,NaV,Yaf,kB];first|done|with_reducible rfl|with_reducible assumption)
     clear g0 g1 g4 g5 bB kB hs;rintro⟨env,⟨sto,c⟩⟩ ⟨g0,g1,g4,g5,bB,kB,hs⟩;try simp only at g0 g1 g4 g5 bB hs
     replace kB:∀ n',St.get ⟨sto,n'⟩ B=some (.cells [.i .u8 (s.K.toNat:Int),.i .u8 (s.O.toNat:Int),.s s.J,.s s.I,.i .i64 s.N,slV s.za s.A.length (Exs.cs s.A),slV s.zb s.B.length (Sms.cs s.B),slV s.ze s.E.length (Sms.cs s.E),.i .i64 s.R] false):=fun _=>kB;have hI:(rk4 s w4,rkL s.I w1.2)=rkI (esD D) s w1:=(by rw[←hw4,←hw3,←hw2];rfl);rw[hI]at hs;have hl5:(rkI (esD D) s w1).2.length≤w1.2.length+1:=NkX _ _;obtain⟨w5,hw5⟩:∃ w5,rkI (esD D) s w1=w5:=⟨_,rfl⟩;rw[hw5]at hs hl5 hob;have hs1:∀ d,St10 c0 C kv ⟨sto0,c0⟩ a b w5 v2 ⟨sto,c+d⟩:=fun d=>hs.cnt Zaa
     iterate 2
      (try rw[Z0]);(try simp(maxSteps:=9^7)(disch:=first|omega|rfl|assumption)only[↓Yaa,Yab,Nae,Naa,rB,rC,rD,rE,reduceIte,unP,rF,g0,g1,g4,g5,kB,hc.x7])
     refine Ncf (ih s.B s.zb w5 v2 ⟨sto,c+32⟩ Zaa Zaa hrB (hs1 32).self) ?_;rintro r1 ⟨sto1,c1⟩ ⟨rfl,v3,h2'⟩;have hle:=h2'.le;simp only at hle;have kB1:∀ n',St.get ⟨sto1,n'⟩ B=_:=fun _=>(h2'.ko B Zae hB.1 hB.2.1).trans (kB _);have hs3:=(hs1 32).trans h2';have hl6:=Sms.rk_len (esD D) s.B w5;(try rw[Z0]);(try simp(maxSteps:=9^7)(disch:=first|omega|rfl|assumption)only[↓Yaa,Yab,Nae,Naa,rB,rC,rD,rE,reduceIte,unP,rF,g0,g1,g4,g5,kB,kB1]);have hs31:=hs3.cnt (n':=c1+32) Zaa;refine Ncf (ih s.E s.ze _ v3 ⟨sto1,c1+32⟩ Zaa Zaa hrE hs31.self) ?_;rintro r2 ⟨sto2,c2⟩ ⟨rfl,v4,h3'⟩;have hs4:=hs31.trans h3';have hl7:=Sms.rk_len (esD D) s.E (Sms.rk (esD D) s.B w5);refine hK9 _ ?_
     iterate 2
      (try rw[Z0]);(try simp(maxSteps:=9^7)(disch:=first|omega|rfl|assumption)only[↓Yaa,Yab,Nae,Naa,rB,rC,rD,rE,reduceIte,unP,rF,g0,g1,g4,g5,kB])
     exact⟨l.length - (i+1),by omega,i+1,Sms.rk (esD D) s.E (Sms.rk (esD D) s.B w5),v4,rfl,(Nan hil).symm,rfl,hs4.cnt Zaa,by omega,hrd2,by omega,hob⟩
    ·have h0:l.drop i=[]:=List.drop_of_length_le Zaa;rw[h0]at hob;have hob':w1=R:=hob
     iterate 6
      (try rw[Z0]);(try simp(maxSteps:=9^7)(disch:=first|omega|rfl|assumption)only[↓Yaa,Yab,Nae,Naa,rB,rC,rD,rE,reduceIte,unP,rF,g0,g1,g4,hlv])
     exact⟨nofun,[],rfl,rfl,by rw[hY,←hob'];exact⟨_,hs.cnt Zag⟩⟩
   ·skip
    exact⟨0,w,v,rfl,Zac,Zac,Zac,(hs0.cnt Zag),Zad,(by rw[List.drop_zero];exact hrt),(by rw[List.drop_zero];omega),(by rw[List.drop_zero];exact hR)⟩
end Go.Pe
