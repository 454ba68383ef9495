/-
 CheckKeeps: the law's own walks: told, sound, names. No condition.
-/
import Derived.Test.YtjnofhibldppoaaZKepA
import Derived.Test.YtjnofhibldppoaaZKitD
set_option linter.unusedVariables false
set_option linter.unusedSimpArgs false
set_option maxHeartbeats 8000000
open Nat renaming reduceAdd → rA,reduceMul → rB,reduceLT → rC,reduceEqDiff → rD,reduceLeDiff → rE
namespace Go.Pe
open Go Go.Am Go.RowKit
theorem NgH{cfg:Cfg}(hc:CfgM cfg)(hx:cfg.ext 27=none){ls:List (List UInt8)}{M:Nat} :
 ∀ (fuel:Nat) (l:List Ex) (z:Bool) (st:St),Exs.size l+2≤fuel→Exs.size l<1000000000000000→M<st.cnt→st.get M=some (.map (lsV ls)) →
 ∃ r st',NaI cfg (fuel+1) 27 [slV z l.length (Exs.cs l),.mp M] st=some (r,st')∧(r=.b (Exs.told (Nbv · ls) l)∧(∀ j,j<st.cnt→st'.get j=st.get j)∧st.cnt≤st'.cnt):=by
 intro fuel
 induction fuel with
 |zero=>intro l z st h;omega
 |succ q ih =>
   intro l z st hfu hn hlm hM;refine Naz (hc.fn _ _ (by kernel_rfl):cfg.fn 27=some m27) ?_;delta m27 Qr Qg Ql Qt Qn Qs Qk Qm Qh Qi Qu Qv Qo;have hll:=Exs.len_le l;have hlv:=NaM z l.length (Exs.cs l);simp only[Naj]
   iterate 3
    (try rw[Z0]);(try simp(maxSteps:=9^7)(disch:=first|omega|rfl|assumption)only[↓Yaa,Yab,Nae,Naa,rA,rB,rC,rD,reduceIte,unP,rE,hlv])
   refine Z9 (k:=l.length - 0) (fun m x=>∃ (i:Nat),m=l.length - i∧i≤l.length∧Exs.told (Nbv · ls) (l.drop i)=Exs.told (Nbv · ls) l∧x.env.get 1=.mp M∧x.env.get 7=slV z l.length (Exs.cs l)∧x.env.get 8=.i .i64 (l.length:Int)∧x.env.get 9=.i .i64 (i:Int)∧st.cnt≤x.st.cnt∧(∀ j,j<st.cnt→x.st.get j=st.get j)) ?_ ?_ Zaa
   ·rintro m ⟨env,⟨sto,c⟩⟩ ⟨i,rfl,hi,hob,g1,g7,g8,g9,hcc,ko⟩;simp only at g1 g7 g8 g9 hcc;have kM:∀ n',St.get ⟨sto,n'⟩ M=some (.map (lsV ls)):=fun _=>(ko M hlm).trans hM;by_cases hil:i<l.length
    ·rw[Nan hil]at g7;have hdr:=List.drop_eq_getElem_cons hil;obtain⟨e,he⟩:∃ e,l[i]=e:=⟨_,rfl⟩;have hld:=fun st=>NfQ (st:=st) hil;simp only[he]at hld;rw[he]at hdr;rw[hdr,Exs.told,Ex.told_eq]at hob;have hsz:=Exs.len l;have hel:e.size≤Exs.size l:=Exs.size_mem (he▸List.getElem_mem hil);have hes:=Ex.size_eq e;obtain⟨k,hkk⟩:∃ k,e.K.toNat=k:=⟨_,rfl⟩;rw[hkk]at hob;simp only[hkk]at hld;have hmc:M<c:=(by omega);have htd:e.told (Nbv · ls)=if k=2∧Nbv e.S ls=false then false else Exs.told (Nbv · ls) e.L:=(by rw[Ex.told_eq,hkk]);replace hob:(e.told (Nbv · ls)&&Exs.told (Nbv · ls) (l.drop (i+1)))=Exs.told (Nbv · ls) l:=by rw[htd];exact hob
     iterate 4
      (try rw[Z0]);(try simp(maxSteps:=9^7)(disch:=first|omega|rfl|assumption)only[↓Yaa,Yab,Nae,Naa,rA,rB,rC,rD,reduceIte,unP,rE,g1,g7,g8,g9,hld,hsz,Naf,Nai])
     refine Za (fun x=>x.env.get 1=.mp M∧x.env.get 7=.fsl l.length (Exs.cs l)∧x.env.get 8=.i .i64 (l.length:Int)∧x.env.get 9=.i .i64 (i:Int)∧x.env.get 29=.b (!(e.told (Nbv · ls)))∧st.cnt≤x.st.cnt∧(∀ j,j<st.cnt→x.st.get j=st.get j)) ?_ ?_
     ·have kL:∀ n' x y j,j<st.cnt→St.get ⟨((St.put ⟨sto,c+40⟩ (c+24) x).put (c+24) y).sto,n'⟩ j=st.get j:=fun n' x y j hj=>by simp(disch:=omega)only[NaB,NaJ];exact ko j hj
      rw[htd];by_cases h2:k=2
      ·have b2:((k:Int)==Int.ofNat 2)=true:=(by subst h2;rfl);have hm:=Nci e.S ls;by_cases h0:Nbv e.S ls=false
       ·have b0:(Int.ofNat 0==Int.ofNat 0)=true:=rfl;rw[if_pos ⟨h2,h0⟩];rw[h0,if_neg Zaf]at hm;(try rw[Z0]);(try simp(maxSteps:=9^7)(disch:=first|omega|rfl|assumption)only[↓Yaa,Yab,Nae,Naa,rA,rB,rC,rD,reduceIte,unP,rE,g1,g7,g8,g9,kM,hm,Option.map_some,Option.getD_some,Option.getD_none,b2,b0]);exact fun j hj=>by simp(disch:=omega)only[NaB,NaJ];exact ko j hj
       ·have b0:(Int.ofNat 1==Int.ofNat 0)=false:=rfl;rw[if_neg (fun h=>h0 h.2)];rw[if_pos (by simpa using h0)]at hm;(try rw[Z0]);(try simp(maxSteps:=9^7)(disch:=first|omega|rfl|assumption)only[↓Yaa,Yab,Nae,Naa,rA,rB,rC,rD,reduceIte,unP,rE,g1,g7,g8,g9,kM,hm,Option.map_some,Option.getD_some,Option.getD_none,b2,b0,hx]);refine Ncc (ih e.L e.z _ Zaa Zaa Zad ((kL _ _ _ M hlm).trans hM)) ?_;rintro r4 ⟨sto6,c6⟩ ⟨rfl,kp6,hc6⟩;simp only at hc6;(try rw[Z0]);(try simp(maxSteps:=9^7)(disch:=first|omega|rfl|assumption)only[↓Yaa,Yab,Nae,Naa,rA,rB,rC,rD,reduceIte,unP,rE,g1,g7,g8,g9]);exact fun j hj=>(kp6 j Zad).trans (kL _ _ _ j hj)
      ·have b2:((k:Int)==Int.ofNat 2)=false:=(by simp;omega);rw[if_neg (fun h=>h2 h.1)];(try rw[Z0]);(try simp(maxSteps:=9^7)(disch:=first|omega|rfl|assumption)only[↓Yaa,Yab,Nae,Naa,rA,rB,rC,rD,reduceIte,unP,rE,g1,g7,g8,g9,kM,b2,hx]);refine Ncc (ih e.L e.z _ Zaa Zaa Zad ((kL _ _ _ M hlm).trans hM)) ?_;rintro r4 ⟨sto6,c6⟩ ⟨rfl,kp6,hc6⟩;simp only at hc6;(try rw[Z0]);(try simp(maxSteps:=9^7)(disch:=first|omega|rfl|assumption)only[↓Yaa,Yab,Nae,Naa,rA,rB,rC,rD,reduceIte,unP,rE,g1,g7,g8,g9]);exact fun j hj=>(kp6 j Zad).trans (kL _ _ _ j hj)
     clear g1 g7 g8 g9 ko kM;rintro⟨env,⟨sto,c3⟩⟩ ⟨g1,g7,g8,g9,g29,hc3,ko⟩;simp only at g1 g7 g8 g9 g29 hc3;cases ht:e.told (Nbv · ls)with
     |true =>
       rw[ht]at hob g29
       iterate 3
        (try rw[Z0]);(try simp(maxSteps:=9^7)(disch:=first|omega|rfl|assumption)only[↓Yaa,Yab,Nae,Naa,rA,rB,rC,rD,reduceIte,unP,rE,g1,g7,g8,g9,g29,Bool.not_true])
       exact⟨l.length - (i+1),by omega,i+1,rfl,by omega,by rw[←hob,Bool.true_and],(Nan hil).symm,rfl,ko⟩
     |false =>
       rw[ht]at hob g29
       iterate 3
        (try rw[Z0]);(try simp(maxSteps:=9^7)(disch:=first|omega|rfl|assumption)only[↓Yaa,Yab,Nae,Naa,rA,rB,rC,rD,reduceIte,unP,rE,g1,g7,g8,g9,g29,Bool.not_false])
       exact⟨nofun,_,rfl,by simp only[Yad,if_true,NaF];rw[←hob,Bool.false_and],ko⟩
    ·have h0:l.drop i=[]:=List.drop_of_length_le Zaa;rw[h0,Exs.told]at hob
     iterate 4
      (try rw[Z0]);(try simp(maxSteps:=9^7)(disch:=first|omega|rfl|assumption)only[↓Yaa,Yab,Nae,Naa,rA,rB,rC,rD,reduceIte,unP,rE,g1,g7,g8,g9])
     exact⟨nofun,_,rfl,by simp only[Yad,if_true,NaF];rw[←hob],fun j hj=>ko j hj⟩
   ·exact⟨0,rfl,by omega,by rw[List.drop_zero],by simp[Yad],by simp[Yad],by simp[Yad],by simp[Yad],by simp only;omega,fun j hj=>rfl⟩
theorem Nmb{cfg:Cfg}(hf:cfg.fn 16=some m16){fuel o:Nat}(h1:1≤o)(h2:o≤23){st:St} :
 ∃ r st',NaI cfg (fuel+1) 16 [.i .u8 (o:Int)] st=some (r,st')∧r=.i .u8 (ofN o:Int):=by
 refine Naz hf ?_;have h:o=1∨o=2∨o=3∨o=4∨o=5∨o=6∨o=7∨o=8∨o=9∨o=10∨o=11∨o=12∨o=13∨o=14∨o=15∨o=16∨o=17∨o=18∨o=19∨o=20∨o=21∨o=22∨o=23:=by omega
 delta m16 Ql Qt Qm Qi;rcases h with rfl|rfl|rfl|rfl|rfl|rfl|rfl|rfl|rfl|rfl|rfl|rfl|rfl|rfl|rfl|rfl|rfl|rfl|rfl|rfl|rfl|rfl|rfl
 all_goals
  simp(disch:=first|omega|rfl|assumption)only[Naj,↓Z0,↓Xp,↓Xt,Xq,Xc,Nae,Naa,rA,rB,rC,rD,reduceIte,Xm,rE,Xa,Xn,unP,Nab,Nac,Nad];refine⟨nofun,_,rfl,?_⟩;simp only[NaF,↓Z0,↓Xp,↓Xt,Xq,Xc,Nae,Naa,rA,rB,rC,rD,reduceIte]
  all_goals rfl
theorem NjE{cfg:Cfg}(hc:CfgM cfg)(hx:cfg.ext 27=none)(hy:cfg.ext 11=none)(hz:cfg.ext 16=none){es:List (List UInt8×Nat)}{Mk Ml:Nat}(hkl:Ml≠Mk) :
 ∀ (fuel:Nat) (l:List Sm) (z:Bool) (ls:List (List UInt8)) (st:St),Sms.size l+5≤fuel→Sms.size l<1000000000000000→Mk<st.cnt→Ml<st.cnt→st.get Mk=some (.map (esV es))→st.get Ml=some (.map (lsV ls))→Sms.ops l=true→(Sms.chk es l ls).1.1=0→ls.length≤20 →
 ∃ r st',NaI cfg (fuel+1) 11 [slV z l.length (Sms.cs l),.mp Mk,.mp Ml] st=some (r,st')∧(r=.b true∧st'.get Ml=some (.map (lsV (Sms.chk es l ls).2))∧(∀ j,j<st.cnt→j≠Ml→st'.get j=st.get j)∧st.cnt≤st'.cnt):=by
 intro fuel
 induction fuel with
 |zero=>intro l z ls st h;omega
 |succ q ih =>
   intro l z ls st hfu hn hlk hll hMk hMl hops hzero hlen;refine Naz (hc.fn _ _ (by kernel_rfl):cfg.fn 11=some m11) ?_;delta m11 Qa Qr Qg Ql Qt Qn Qs Qk Qm Qh Qi Qu Qv Qo;have hlv:=NaM z l.length (Sms.cs l);have hsz:=Sms.len l;have hlle:=Sms.len_le l;obtain⟨R,hR⟩:∃ R,Sms.chk es l ls=R:=⟨_,rfl⟩;have hR20:=Sms.chk_len es l ls hlen hzero;rw[hR]at hzero hR20 ⊢;obtain⟨sto0,c0⟩:=st;simp only at hlk hll;simp only[Naj]
   iterate 3
    (try rw[Z0]);(try simp(maxSteps:=9^7)(disch:=first|omega|rfl|assumption)only[↓Yaa,Yab,Nae,Naa,rA,rB,rC,rD,reduceIte,unP,rE,hlv])
   refine Z9 (k:=l.length - 0) (fun m x=>∃ (i:Nat) (l1:List (List UInt8)),m=l.length - i∧x.env.get 1=.mp Mk∧x.env.get 2=.mp Ml∧x.env.get 9=slV z l.length (Sms.cs l)∧x.env.get 10=.i .i64 (l.length:Int)∧x.env.get 11=.i .i64 (i:Int)∧(i≤l.length)∧(Sms.chk es (l.drop i) l1=R)∧(Sms.ops (l.drop i)=true)∧(l1.length≤20)∧(x.st.get Ml=some (.map (lsV l1)))∧(∀ j,j<c0→j≠Ml→x.st.get j=St.get ⟨sto0,c0⟩ j)∧(c0≤x.st.cnt)) ?_ ?_ Zaa
   ·skip
    rintro m ⟨env,⟨sto,c⟩⟩ ⟨i,l1,rfl,g1,g2,g9,g10,g11,hi,hob,hop,h20,kL,ko,cc⟩;try simp only at g1 g2 g9 g10 g11 kL cc cc
    have kM:∀ n',St.get ⟨sto,n'⟩ Mk=some (.map (esV es)):=fun _=>(ko Mk hlk (Ne.symm hkl)).trans hMk;have kL':∀ n',St.get ⟨sto,n'⟩ Ml=some (.map (lsV l1)):=fun _=>kL;by_cases hil:i<l.length
    ·rw[Nan hil]at g9;obtain⟨s,he⟩:∃ s,l[i]=s:=⟨_,rfl⟩;have hld:=fun st=>NdL (st:=st) hil;simp only[he]at hld;rw[List.drop_eq_getElem_cons hil,he]at hob hop;rw[Sms.ops,Sm.ops_eq]at hop;simp only[Bool.and_eq_true]at hop;obtain⟨⟨hK,hoB,hoE⟩,hoR⟩:=hop;have hel:s.size≤Sms.size l:=Sms.size_mem (he▸List.getElem_mem hil);have hes:=Sm.size_eq s;rw[←hob]at hzero;obtain⟨z1,z2,z3,z4⟩:=Nht hzero;rw[hob]at hzero z4;obtain⟨y1,y2,-,y4⟩:=NdZ z1;obtain⟨k,hkk⟩:∃ k,s.K.toNat=k:=⟨_,rfl⟩;obtain⟨o,hoo⟩:∃ o,s.O.toNat=o:=⟨_,rfl⟩;rw[hkk]at hK y1;rw[hoo]at hK y1;simp only[hkk,hoo]at hld;have hmg:=NcP s.J es
     iterate 4
      (try rw[Z0]);(try simp(maxSteps:=9^7)(disch:=first|omega|rfl|assumption)only[↓Yaa,Yab,Nae,Naa,rA,rB,rC,rD,reduceIte,unP,rE,g1,g2,g9,g10,g11,hlv,hld,hsz,Naf,Nai])
     refine NaK (fun x=>∃ (B:Nat),B<x.st.cnt∧x.env.get 1=.mp Mk∧x.env.get 2=.mp Ml∧x.env.get 8=.ptr B 0∧x.env.get 9=.fsl l.length (Sms.cs l)∧x.env.get 10=.i .i64 (l.length:Int)∧x.env.get 11=.i .i64 (i:Int)∧x.st.get B=some (.cells [.i .u8 (k:Int),.i .u8 (o:Int),.s s.J,.s s.I,.i .i64 s.N,slV s.za s.A.length (Exs.cs s.A),slV s.zb s.B.length (Sms.cs s.B),slV s.ze s.E.length (Sms.cs s.E),.i .i64 s.R] false)∧(c0≤B)∧(x.st.get Ml=some (.map (lsV l1)))∧(∀ j,j<c0→j≠Ml→x.st.get j=St.get ⟨sto0,c0⟩ j)) ?_ ?_
     ·refine⟨c+24,Zab,?_,?_,?_,?_,?_,?_,?_,Zaa,(by simp(disch:=omega)only[NaB,NaJ];exact kL),(fun j hj hn=>by simp(disch:=omega)only[NaB,NaJ];exact ko j hj hn)⟩<;>first|with_reducible rfl|with_reducible assumption|exact kB _|(simp[Yad,g1,g2,g9,g10,g11]<;>omega)|(simp(disch:=omega)only[NaB,NaJ,Yaf];first|done|with_reducible rfl|with_reducible assumption)
     clear g1 g2 g9 g10 g11 kL ko cc;rintro⟨env,⟨sto,c⟩⟩ ⟨B,bB,g1,g2,g8,g9,g10,g11,kB,lB,kL,ko⟩;try simp only at bB g1 g2 g8 g9 g10 g11 kL
     replace kB:∀ n',St.get ⟨sto,n'⟩ B=some (.cells [.i .u8 (k:Int),.i .u8 (o:Int),.s s.J,.s s.I,.i .i64 s.N,slV s.za s.A.length (Exs.cs s.A),slV s.zb s.B.length (Sms.cs s.B),slV s.ze s.E.length (Sms.cs s.E),.i .i64 s.R] false):=fun _=>kB;have kM2:∀ n',St.get ⟨sto,n'⟩ Mk=some (.map (esV es)):=fun _=>(ko Mk hlk (Ne.symm hkl)).trans hMk;have kL2:∀ n',St.get ⟨sto,n'⟩ Ml=some (.map (lsV l1)):=fun _=>kL;refine NaW (fun x=>B<x.st.cnt∧x.env.get 1=.mp Mk∧x.env.get 2=.mp Ml∧x.env.get 8=.ptr B 0∧x.env.get 9=.fsl l.length (Sms.cs l)∧x.env.get 10=.i .i64 (l.length:Int)∧x.env.get 11=.i .i64 (i:Int)∧x.st.get B=some (.cells [.i .u8 (k:Int),.i .u8 (o:Int),.s s.J,.s s.I,.i .i64 s.N,slV s.za s.A.length (Exs.cs s.A),slV s.zb s.B.length (Sms.cs s.B),slV s.ze s.E.length (Sms.cs s.E),.i .i64 s.R] false)∧(x.st.get Ml=some (.map (lsV l1)))∧(∀ j,j<c0→j≠Ml→x.st.get j=St.get ⟨sto0,c0⟩ j)∧(True)) ?_ ?_
     ·intro K1 hK1;have hMl2:St.get ⟨sto,c⟩ Ml=some (.map (lsV l1)):=kL;by_cases h1:k=1
      ·have b1:((k:Int)==Int.ofNat 1)=true:=(by subst h1;rfl);rw[if_pos h1]at hK;rw[Bool.and_eq_true,decide_eq_true_eq,decide_eq_true_eq]at hK;have gO:Nam cfg (NaI cfg (q+1)) 16 [.i .u8 (o:Int)]=some (.i .u8 (ofN o:Int)):=NaA hz rfl (fun _=>rfl) (Nmb (hc.fn _ _ (by kernel_rfl)) hK.1 hK.2);have hdI:∀ (st:St) k n,Na9 st [.i k n]=some [.i k n]:=fun _ _ _=>rfl;have cbI:∀ k n,PV.closedB (.i k n)=true:=fun _ _=>rfl;have rbI:∀ (st:St) (key:Nat) k n,Nav st key (.i k n)=some (.i k n,st):=fun _ _ _ _=>rfl;rw[y1 h1,Option.map_some]at hmg;have bne:((ofN o:Int) != (ofN o:Int))=false:=(by simp);(try rw[Z0]);(try simp(maxSteps:=9^7)(disch:=first|omega|rfl|assumption)only[↓Yaa,Yab,Nae,Naa,rA,rB,rC,rD,reduceIte,unP,rE,g1,g2,g8,g9,g10,g11,kB,b1,kM2,hmg,Option.map_some,Option.getD_some,gO,hdI,cbI,rbI,bne,hx]);refine Ncc (NgH hc hx q s.A s.za _ Zaa Zaa Zad kL) ?_;rintro r1 ⟨sto1,c1⟩ ⟨rfl,kj,hc1⟩;simp only at hc1 kj;rw[y2]
       iterate 2
        (try rw[Z0]);(try simp(maxSteps:=9^7)(disch:=first|omega|rfl|assumption)only[↓Yaa,Yab,Nae,Naa,rA,rB,rC,rD,reduceIte,unP,rE,g1,g2,g8,g9,g10,g11,kB,Bool.not_true])
       refine hK1 _ ⟨Zab,?_,?_,?_,?_,?_,?_,((kj B Zaa).trans (kB _)),((kj Ml Zaa).trans kL),(fun j hj hn=>(kj j Zaa).trans (ko j hj hn)),trivial⟩<;>first|with_reducible rfl|with_reducible assumption|(simp[Yad,g1,g2,g8,g9,g10,g11]<;>omega)
      ·have b1:((k:Int)==Int.ofNat 1)=false:=(by simp;omega);(try rw[Z0]);(try simp(maxSteps:=9^7)(disch:=first|omega|rfl|assumption)only[↓Yaa,Yab,Nae,Naa,rA,rB,rC,rD,reduceIte,unP,rE,g1,g2,g8,g9,g10,g11,kB,b1,hx]);refine Ncc (NgH hc hx q s.A s.za _ Zaa Zaa Zad kL) ?_;rintro r1 ⟨sto1,c1⟩ ⟨rfl,kj,hc1⟩;simp only at hc1 kj;rw[y2]
       iterate 2
        (try rw[Z0]);(try simp(maxSteps:=9^7)(disch:=first|omega|rfl|assumption)only[↓Yaa,Yab,Nae,Naa,rA,rB,rC,rD,reduceIte,unP,rE,g1,g2,g8,g9,g10,g11,kB,Bool.not_true])
       refine hK1 _ ⟨Zab,?_,?_,?_,?_,?_,?_,((kj B Zaa).trans (kB _)),((kj Ml Zaa).trans kL),(fun j hj hn=>(kj j Zaa).trans (ko j hj hn)),trivial⟩<;>first|with_reducible rfl|with_reducible assumption|(simp[Yad,g1,g2,g8,g9,g10,g11]<;>omega)
     clear bB g1 g2 g8 g9 g10 g11 kB kL ko;rintro⟨env,⟨sto,c⟩⟩ ⟨bB,g1,g2,g8,g9,g10,g11,kB,kL,ko,nm⟩;try simp only at bB g1 g2 g8 g9 g10 g11 kL
     replace kB:∀ n',St.get ⟨sto,n'⟩ B=some (.cells [.i .u8 (k:Int),.i .u8 (o:Int),.s s.J,.s s.I,.i .i64 s.N,slV s.za s.A.length (Exs.cs s.A),slV s.zb s.B.length (Sms.cs s.B),slV s.ze s.E.length (Sms.cs s.E),.i .i64 s.R] false):=fun _=>kB;refine NaW (fun x=>B<x.st.cnt∧x.env.get 1=.mp Mk∧x.env.get 2=.mp Ml∧x.env.get 8=.ptr B 0∧x.env.get 9=.fsl l.length (Sms.cs l)∧x.env.get 10=.i .i64 (l.length:Int)∧x.env.get 11=.i .i64 (i:Int)∧x.st.get B=some (.cells [.i .u8 (k:Int),.i .u8 (o:Int),.s s.J,.s s.I,.i .i64 s.N,slV s.za s.A.length (Exs.cs s.A),slV s.zb s.B.length (Sms.cs s.B),slV s.ze s.E.length (Sms.cs s.E),.i .i64 s.R] false)∧(x.st.get Ml=some (.map (lsV (lsP s.I l1))))∧(∀ j,j<c0→j≠Ml→x.st.get j=St.get ⟨sto0,c0⟩ j)) ?_ ?_
     ·intro K2 hK2;have hmp:Na6 2 (.s s.I) (.i .i64 ((1:Nat):Int)) (lsV l1)=some (lsV (NdV s.I l1)):=NbX s.I l1;have kL3:∀ n',St.get ⟨sto,n'⟩ Ml=some (.map (lsV l1)):=fun _=>kL;by_cases hI:s.I=[]
      ·have bI:(s.I==[])=true:=by rw[hI];rfl
       iterate 2
        (try rw[Z0]);(try simp(maxSteps:=9^7)(disch:=first|omega|rfl|assumption)only[↓Yaa,Yab,Nae,Naa,rA,rB,rC,rD,reduceIte,unP,rE,g1,g2,g8,g9,g10,g11,kB,bI,Bool.not_true])
       refine hK2 _ ⟨Zab,?_,?_,?_,?_,?_,?_,?_,(by unfold lsP;rw[if_pos hI];exact kL),(fun j hj hn=>ko j hj hn)⟩<;>first|with_reducible rfl|with_reducible assumption|exact kB _|(simp[Yad,g1,g2,g8,g9,g10,g11]<;>omega)|(simp(disch:=omega)only[NaB,NaJ,Yaf,kB];first|done|with_reducible rfl|with_reducible assumption)
      ·have bI:(s.I==[])=false:=by simpa using hI
       iterate 2
        (try rw[Z0]);(try simp(maxSteps:=9^7)(disch:=first|omega|rfl|assumption)only[↓Yaa,Yab,Nae,Naa,rA,rB,rC,rD,reduceIte,unP,rE,g1,g2,g8,g9,g10,g11,kB,bI,Bool.not_false,kL3,hmp,Option.map_some])
       refine hK2 _ ⟨Zab,?_,?_,?_,?_,?_,?_,(by rw[Yae (by omega)];exact kB _),(by unfold lsP;rw[if_neg hI];exact Yaf _ _ _),(fun j hj hn=>by rw[Yae (Ne.symm hn)];exact ko j hj hn)⟩<;>first|with_reducible rfl|with_reducible assumption|(simp[Yad,g1,g2,g8,g9,g10,g11]<;>omega)
     clear bB g1 g2 g8 g9 g10 g11 kB kL ko;rintro⟨env,⟨sto,c⟩⟩ ⟨bB,g1,g2,g8,g9,g10,g11,kB,kL,ko⟩;try simp only at bB g1 g2 g8 g9 g10 g11 kL
     replace kB:∀ n',St.get ⟨sto,n'⟩ B=some (.cells [.i .u8 (k:Int),.i .u8 (o:Int),.s s.J,.s s.I,.i .i64 s.N,slV s.za s.A.length (Exs.cs s.A),slV s.zb s.B.length (Sms.cs s.B),slV s.ze s.E.length (Sms.cs s.E),.i .i64 s.R] false):=fun _=>kB;rw[Z0,Z1];refine Nhj 7 (fun d=>d.env.get 1=.mp Mk∧d.env.get 2=.mp Ml∧d.env.get 8=.ptr B 0∧d.env.get 9=.fsl l.length (Sms.cs l)∧d.env.get 10=.i .i64 (l.length:Int)∧d.env.get 11=.i .i64 (i:Int)∧d.loc.get 47=.b false∧d.st.get B=some (.cells [.i .u8 (k:Int),.i .u8 (o:Int),.s s.J,.s s.I,.i .i64 s.N,slV s.za s.A.length (Exs.cs s.A),slV s.zb s.B.length (Sms.cs s.B),slV s.ze s.E.length (Sms.cs s.E),.i .i64 s.R] false)∧B<d.st.cnt∧d.st.get Ml=some (.map (lsV (Sms.chk es s.B (lsP s.I l1)).2))∧(∀ j,j<c0→j≠Ml→d.st.get j=St.get ⟨sto0,c0⟩ j)) Zai ?_ ?_
     ·intro K hK;simp(disch:=first|omega|rfl|assumption)only[↓Yaa,Yac,Nae,Naa,rA,rB,rC,rD,reduceIte,unP,Xm,rE,List.take_succ_cons,List.take_zero,g1,g2,g8,g9,g10,g11,kB,hy];refine Ncc (ih s.B s.zb (lsP s.I l1) _ Zaa Zaa Zad Zad ((ko Mk hlk (Ne.symm hkl)).trans hMk) kL hoB z2 y4) ?_;rintro r1 ⟨sto1,c1⟩ ⟨rfl,kL1,kj,hc1⟩;simp only at hc1 kj;simp(disch:=first|omega|rfl|assumption)only[↓Yaa,Yac,Nae,Naa,rA,rB,rC,rD,reduceIte,unP,Xm,rE,g1,g2,g8,g9,g10,g11,Bool.not_true];exact hK _ ⟨g1,g2,g8,g9,g10,g11,by simp[Yad],(kj B Zaa Zaa).trans (kB _),by simp only;omega,kL1,fun j hj hn=>(kj j Zaa hn).trans (ko j hj hn)⟩
     clear g1 g2 g8 g9 g10 g11 kB kL ko kM2 kL2 bB;rintro⟨env,loc,⟨sto,c⟩⟩ ⟨g1,g2,g8,g9,g10,g11,q47,kB,bB,kL,ko⟩;simp only at g1 g2 g8 g9 g10 g11 q47 bB;replace kB:∀ n',St.get ⟨sto,n'⟩ B=_:=fun _=>kB;simp(disch:=first|omega|rfl|assumption)only[↓Yaa,Yac,Nae,Naa,rA,rB,rC,rD,reduceIte,unP,Xm,rE,List.drop_succ_cons,List.drop_zero,g1,g2,g8,g9,g10,g11,q47,kB,hy];refine Ncc (ih s.E s.ze (Sms.chk es s.B (lsP s.I l1)).2 _ Zaa Zaa Zad Zad ((ko Mk hlk (Ne.symm hkl)).trans hMk) kL hoE z3 (Sms.chk_len es s.B _ y4 z2)) ?_;rintro r2 ⟨sto2,c2⟩ ⟨rfl,kL2',kj2,hc2⟩;simp only at hc2 kj2
     iterate 3
      (try rw[Z0]);(try simp(maxSteps:=9^7)(disch:=first|omega|rfl|assumption)only[↓Yaa,Yab,Nae,Naa,rA,rB,rC,rD,reduceIte,unP,rE,g1,g2,g8,g9,g10,g11,kB,Bool.not_true])
     exact⟨l.length - (i+1),by omega,i+1,_,rfl,(Nan hil).symm,rfl,by omega,z4.symm,hoR,Sms.chk_len es s.E _ (Sms.chk_len es s.B _ y4 z2) z3,kL2',fun j hj hn=>(kj2 j Zaa hn).trans (ko j hj hn)⟩
    ·have h0:l.drop i=[]:=List.drop_of_length_le Zaa;rw[h0,Sms.chk]at hob;have hml:(lsV l1).length=l1.length:=NhS l1;subst hob;have h21:((l1.length:Int)≤20):=by omega
     iterate 6
      (try rw[Z0]);(try simp(maxSteps:=9^7)(disch:=first|omega|rfl|assumption)only[↓Yaa,Yab,Nae,Naa,rA,rB,rC,rD,reduceIte,unP,rE,g1,g2,g9,g10,g11,kL',hml])
     exact⟨nofun,_,rfl,by simp only[NaF,Yad,if_true],fun j hj hn=>ko j hj hn⟩
   ·skip
    exact⟨0,ls,rfl,Zae,Zae,Zae,Zae,Zae,Zac,(by rw[List.drop_zero];exact hR),(by rw[List.drop_zero];exact hops),hlen,hMl,(fun j hj hn=>rfl),Zah⟩
theorem Njj{cfg:Cfg}(hc:CfgM cfg)(hx:cfg.ext 12=none){Ml:Nat} :
 ∀ (fuel:Nat) (l:List Sm) (z:Bool) (ls:List (List UInt8)) (st:St),Sms.size l+2≤fuel→Sms.size l<1000000000000000→Ml<st.cnt→st.get Ml=some (.map (lsV ls)) →
 ∃ r st',NaI cfg (fuel+1) 12 [slV z l.length (Sms.cs l),.mp Ml] st=some (r,st')∧(st'.get Ml=some (.map (lsV (Sms.nm l ls)))∧(∀ j,j<st.cnt→j≠Ml→st'.get j=st.get j)∧st.cnt≤st'.cnt):=by
 intro fuel
 induction fuel with
 |zero=>intro l z ls st h;omega
 |succ q ih =>
   intro l z ls st hfu hn hll hMl;refine Naz (hc.fn _ _ (by kernel_rfl):cfg.fn 12=some m12) ?_;delta m12 Qa Qr Qg Ql Qt Qn Qk Qm Qi Qo;have hlv:=NaM z l.length (Sms.cs l);have hsz:=Sms.len l;have hlle:=Sms.len_le l;obtain⟨R,hR⟩:∃ R,Sms.nm l ls=R:=⟨_,rfl⟩;rw[hR];obtain⟨sto0,c0⟩:=st;simp only at hll;simp only[Naj]
   iterate 2
    (try rw[Z0]);(try simp(maxSteps:=9^7)(disch:=first|omega|rfl|assumption)only[↓Yaa,Yab,Nae,Naa,rA,rB,rC,rD,reduceIte,unP,rE,hlv])
   refine Z9 (k:=l.length - 0) (fun m x=>∃ (i:Nat) (l1:List (List UInt8)),m=l.length - i∧x.env.get 1=.mp Ml∧x.env.get 6=slV z l.length (Sms.cs l)∧x.env.get 7=.i .i64 (l.length:Int)∧x.env.get 8=.i .i64 (i:Int)∧(i≤l.length)∧(Sms.nm (l.drop i) l1=R)∧(x.st.get Ml=some (.map (lsV l1)))∧(∀ j,j<c0→j≠Ml→x.st.get j=St.get ⟨sto0,c0⟩ j)∧(c0≤x.st.cnt)) ?_ ?_ Zaa
   ·skip
    rintro m ⟨env,⟨sto,c⟩⟩ ⟨i,l1,rfl,g1,g6,g7,g8,hi,hob,kL,ko,cc⟩;try simp only at g1 g6 g7 g8 kL cc cc
    have kL':∀ n',St.get ⟨sto,n'⟩ Ml=some (.map (lsV l1)):=fun _=>kL;by_cases hil:i<l.length
    ·rw[Nan hil]at g6;obtain⟨s,he⟩:∃ s,l[i]=s:=⟨_,rfl⟩;have hld:=fun st=>NdL (st:=st) hil;simp only[he]at hld;rw[List.drop_eq_getElem_cons hil,he,Sms.nm,Sm.nm_eq]at hob;have hel:s.size≤Sms.size l:=Sms.size_mem (he▸List.getElem_mem hil);have hes:=Sm.size_eq s;obtain⟨k,hkk⟩:∃ k,s.K.toNat=k:=⟨_,rfl⟩;rw[hkk]at hob;simp only[hkk]at hld
     iterate 4
      (try rw[Z0]);(try simp(maxSteps:=9^7)(disch:=first|omega|rfl|assumption)only[↓Yaa,Yab,Nae,Naa,rA,rB,rC,rD,reduceIte,unP,rE,g1,g6,g7,g8,hlv,hld,hsz,Naf,Nai])
     refine NaK (fun x=>∃ (B:Nat),B<x.st.cnt∧x.env.get 1=.mp Ml∧x.env.get 5=.ptr B 0∧x.env.get 6=.fsl l.length (Sms.cs l)∧x.env.get 7=.i .i64 (l.length:Int)∧x.env.get 8=.i .i64 (i:Int)∧x.st.get B=some (.cells [.i .u8 (k:Int),.i .u8 (s.O.toNat:Int),.s s.J,.s s.I,.i .i64 s.N,slV s.za s.A.length (Exs.cs s.A),slV s.zb s.B.length (Sms.cs s.B),slV s.ze s.E.length (Sms.cs s.E),.i .i64 s.R] false)∧(c0≤B)∧(x.st.get Ml=some (.map (lsV l1)))∧(∀ j,j<c0→j≠Ml→x.st.get j=St.get ⟨sto0,c0⟩ j)) ?_ ?_
     ·refine⟨c+24,Zab,?_,?_,?_,?_,?_,?_,Zaa,(by simp(disch:=omega)only[NaB,NaJ];exact kL),(fun j hj hn=>by simp(disch:=omega)only[NaB,NaJ];exact ko j hj hn)⟩<;>first|with_reducible rfl|with_reducible assumption|exact kB _|(simp[Yad,g1,g6,g7,g8]<;>omega)|(simp(disch:=omega)only[NaB,NaJ,Yaf];first|done|with_reducible rfl|with_reducible assumption)
     clear g1 g6 g7 g8 kL ko cc;rintro⟨env,⟨sto,c⟩⟩ ⟨B,bB,g1,g5,g6,g7,g8,kB,lB,kL,ko⟩;try simp only at bB g1 g5 g6 g7 g8 kL
     replace kB:∀ n',St.get ⟨sto,n'⟩ B=some (.cells [.i .u8 (k:Int),.i .u8 (s.O.toNat:Int),.s s.J,.s s.I,.i .i64 s.N,slV s.za s.A.length (Exs.cs s.A),slV s.zb s.B.length (Sms.cs s.B),slV s.ze s.E.length (Sms.cs s.E),.i .i64 s.R] false):=fun _=>kB;have kL2:∀ n',St.get ⟨sto,n'⟩ Ml=some (.map (lsV l1)):=fun _=>kL;obtain⟨l2,hl2⟩:∃ l2,(if k=1 then NdV s.J l1 else l1)=l2:=⟨_,rfl⟩;rw[hl2]at hob;have hmp:Na6 2 (.s s.J) (.i .i64 ((1:Nat):Int)) (lsV l1)=some (lsV (NdV s.J l1)):=NbX s.J l1;refine NaW (fun x=>B<x.st.cnt∧x.env.get 1=.mp Ml∧x.env.get 5=.ptr B 0∧x.env.get 6=.fsl l.length (Sms.cs l)∧x.env.get 7=.i .i64 (l.length:Int)∧x.env.get 8=.i .i64 (i:Int)∧x.st.get B=some (.cells [.i .u8 (k:Int),.i .u8 (s.O.toNat:Int),.s s.J,.s s.I,.i .i64 s.N,slV s.za s.A.length (Exs.cs s.A),slV s.zb s.B.length (Sms.cs s.B),slV s.ze s.E.length (Sms.cs s.E),.i .i64 s.R] false)∧(x.st.get Ml=some (.map (lsV l2)))∧(∀ j,j<c0→j≠Ml→x.st.get j=St.get ⟨sto0,c0⟩ j)) ?_ ?_
     ·intro K1 hK1;by_cases h1:k=1
      ·have b1:((k:Int)==Int.ofNat 1)=true:=(by subst h1;rfl);rw[if_pos h1]at hl2
       iterate 2
        (try rw[Z0]);(try simp(maxSteps:=9^7)(disch:=first|omega|rfl|assumption)only[↓Yaa,Yab,Nae,Naa,rA,rB,rC,rD,reduceIte,unP,rE,g1,g5,g6,g7,g8,kB,b1,kL2,hmp,Option.map_some])
       refine hK1 _ ⟨Zab,?_,?_,?_,?_,?_,(by rw[Yae (by omega)];exact kB _),(by rw[←hl2];exact Yaf _ _ _),(fun j hj hn=>by rw[Yae (Ne.symm hn)];exact ko j hj hn)⟩<;>first|with_reducible rfl|with_reducible assumption|(simp[Yad,g1,g5,g6,g7,g8]<;>omega)
      ·have b1:((k:Int)==Int.ofNat 1)=false:=(by simp;omega);rw[if_neg h1]at hl2
       iterate 2
        (try rw[Z0]);(try simp(maxSteps:=9^7)(disch:=first|omega|rfl|assumption)only[↓Yaa,Yab,Nae,Naa,rA,rB,rC,rD,reduceIte,unP,rE,g1,g5,g6,g7,g8,kB,b1])
       refine hK1 _ ⟨Zab,?_,?_,?_,?_,?_,?_,(by rw[←hl2];exact kL),(fun j hj hn=>ko j hj hn)⟩<;>first|with_reducible rfl|with_reducible assumption|exact kB _|(simp[Yad,g1,g5,g6,g7,g8]<;>omega)|(simp(disch:=omega)only[NaB,NaJ,Yaf,kB];first|done|with_reducible rfl|with_reducible assumption)
     clear bB g1 g5 g6 g7 g8 kB kL ko;rintro⟨env,⟨sto,c⟩⟩ ⟨bB,g1,g5,g6,g7,g8,kB,kL,ko⟩;try simp only at bB g1 g5 g6 g7 g8 kL
     replace kB:∀ n',St.get ⟨sto,n'⟩ B=some (.cells [.i .u8 (k:Int),.i .u8 (s.O.toNat:Int),.s s.J,.s s.I,.i .i64 s.N,slV s.za s.A.length (Exs.cs s.A),slV s.zb s.B.length (Sms.cs s.B),slV s.ze s.E.length (Sms.cs s.E),.i .i64 s.R] false):=fun _=>kB;(try rw[Z0]);(try simp(maxSteps:=9^7)(disch:=first|omega|rfl|assumption)only[↓Yaa,Yab,Nae,Naa,rA,rB,rC,rD,reduceIte,unP,rE,g1,g5,g6,g7,g8,kB,hx]);refine Ncc (ih s.B s.zb l2 _ Zaa Zaa Zad kL) ?_;rintro r1 ⟨sto1,c1⟩ ⟨kL1,kj,hc1⟩;simp only at hc1 kj;have kB1:∀ n',St.get ⟨sto1,n'⟩ B=_:=fun n'=>(kj B Zaa Zaa).trans (kB _);(try rw[Z0]);(try simp(maxSteps:=9^7)(disch:=first|omega|rfl|assumption)only[↓Yaa,Yab,Nae,Naa,rA,rB,rC,rD,reduceIte,unP,rE,g1,g5,g6,g7,g8,kB,hx,kB1]);refine Ncc (ih s.E s.ze (Sms.nm s.B l2) _ Zaa Zaa Zad kL1) ?_;rintro r2 ⟨sto2,c2⟩ ⟨kL2',kj2,hc2⟩;simp only at hc2 kj2
     iterate 2
      (try rw[Z0]);(try simp(maxSteps:=9^7)(disch:=first|omega|rfl|assumption)only[↓Yaa,Yab,Nae,Naa,rA,rB,rC,rD,reduceIte,unP,rE,g1,g5,g6,g7,g8,kB])
     exact⟨l.length - (i+1),by omega,i+1,_,rfl,(Nan hil).symm,rfl,by omega,hob,kL2',fun j hj hn=>(kj2 j Zaa hn).trans ((kj j Zaa hn).trans (ko j hj hn))⟩
    ·have h0:l.drop i=[]:=List.drop_of_length_le Zaa;rw[h0,Sms.nm]at hob;rw[Z0];simp(disch:=first|omega|rfl|assumption)only[↓Z0,↓Xp,↓Xt,Xq,Xc,Nae,Naa,rA,rB,rC,rD,reduceIte,Xm,rE,Xa,Xn,unP,Nab,Nac,Nad,g1,g6,g7,g8];exact⟨nofun,_,rfl,by rw[←hob];exact kL,fun j hj hn=>ko j hj hn⟩
   ·skip
    exact⟨0,ls,rfl,Zae,Zae,Zae,Zae,Zac,(by rw[List.drop_zero];exact hR),hMl,(fun j hj hn=>rfl),Zah⟩
end Go.Pe
