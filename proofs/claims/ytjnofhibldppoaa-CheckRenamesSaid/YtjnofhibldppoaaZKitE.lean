/-
 The kit: Huge, walked. No condition.
-/
import Derived.Test.YtjnofhibldppoaaZKitD
set_option linter.unusedVariables false
set_option linter.unusedSimpArgs false
set_option maxHeartbeats 4000000
open Nat renaming reduceAdd → rB,reduceMul → rC,reduceLT → rD,reduceEqDiff → rE,reduceLeDiff → rF
namespace Go.Pe
open Go Go.Am Go.RowKit
theorem NnT{cfg:Cfg}(hc:CfgM cfg)(hx:cfg.ext 35=none)(hy:cfg.ext 21=none){lv many:Int}(hmany:0≤many∧many≤1000000)(hl0:0≤lv∧lv≤1000){p:Pg}(hwf:p.wf){q:Nat}(hfu:Tds.size p.T+p.D.length+5≤q){st:St} :
 ∃ r st',Nay cfg (q+2) 8 [.agg (Pg.cs p),.i .i64 lv,.i .i64 many] st=some (r,st')∧r=.b (NmK lv many p):=by
 refine Nax (hc.fn _ _ (by kernel_rfl):cfg.fn 8=some m8) ?_;delta m8 Qa Qr Qf Qg Ql Qt Qn Qs Qk Qm Qh Qi Qu Qv Qo Pg.cs;obtain⟨hwD,hwT,hwd,hwt⟩:=hwf;have hrb:reachBytes<4611686018427387904:=by decide
 have lD:=NaF p.zd p.D.length (p.D.flatMap Dc.cs);have lT:=NaF p.zt p.T.length (p.T.flatMap Td.cs);have hD:=NaM Dc.cs_len p.D;have hT:=NaM Td.cs_len p.T;obtain⟨R,hR⟩:∃ R,NmK lv many p=R:=⟨_,rfl⟩;rw[hR];unfold NmK at hR;have hw0:IntKind.i64.wrap ((p.D.length:Int)+(p.T.length:Int))=(p.D.length:Int)+(p.T.length:Int):=NaD _ ⟨by omega,by omega⟩;have hTl:=Tds.len_le p.T;have hDl:p.D.length<4611686018427387904:=by omega
 obtain⟨sto0,c0⟩:=st;simp only[Naj];(try rw[Z0]);(try simp(maxSteps:=9^7)(disch:=first|omega|rfl|assumption)only[↓Yaa,Yab,Nae,Naa,rB,rC,rD,rE,reduceIte,unP,rF,Nag,Naf]);(try rw[Z0]);(try simp(maxSteps:=9^7)(disch:=first|omega|rfl|assumption)only[↓Yaa,Yab,Nae,Naa,rB,rC,rD,rE,reduceIte,unP,rF,Nag,Naf,lD,lT,hw0]);refine NaL (fun x=>∃ (P:Nat) (C:Nat),P<x.st.cnt∧(P<C)∧C<x.st.cnt∧x.env.get 1=.i .i64 lv∧x.env.get 2=.i .i64 many∧x.env.get 3=.ptr P 0∧x.env.get 7=.ptr C 0∧x.st.get P=some (.cells [slV p.zd p.D.length (p.D.flatMap Dc.cs),slV p.zt p.T.length (p.T.flatMap Td.cs)] false)∧x.st.get C=some (.cells [.i .i64 ((p.D.length+p.T.length:Nat):Int)] false)) ?_ ?_
 ·refine⟨c0,c0+72,Zab,Zac,Zab,Zah,Zah,Zah,Zah,?_,?_⟩<;>first|with_reducible rfl|with_reducible assumption|exact kP _|exact kC _|(simp(disch:=omega)only[NaG,NaN,Yaf];first|done|with_reducible rfl|with_reducible assumption)
 rintro⟨env,⟨sto,c⟩⟩ ⟨P,C,bP,oC,bC,g1,g2,g3,g7,kP,kC⟩;try simp only at bP bC g1 g2 g3 g7
 replace kP:∀ n',St.get ⟨sto,n'⟩ P=some (.cells [slV p.zd p.D.length (p.D.flatMap Dc.cs),slV p.zt p.T.length (p.T.flatMap Td.cs)] false):=fun _=>kP;replace kC:∀ n',St.get ⟨sto,n'⟩ C=some (.cells [.i .i64 ((p.D.length+p.T.length:Nat):Int)] false):=fun _=>kC;refine NaT (fun x=>P<x.st.cnt∧C<x.st.cnt∧x.env.get 1=.i .i64 lv∧x.env.get 2=.i .i64 many∧x.env.get 3=.ptr P 0∧x.env.get 7=.ptr C 0∧x.st.get P=some (.cells [slV p.zd p.D.length (p.D.flatMap Dc.cs),slV p.zt p.T.length (p.T.flatMap Td.cs)] false)∧x.st.get C=some (.cells [.i .i64 ((p.D.length+p.T.length:Nat):Int)] false)∧(Nf8 p.D=false)) ?_ ?_
 ·intro K1 hK1
  iterate 2
   (try rw[Z0]);(try simp(maxSteps:=9^7)(disch:=first|omega|rfl|assumption)only[↓Yaa,Yab,Nae,Naa,rB,rC,rD,rE,reduceIte,unP,rF,g1,g2,g3,g7,kP,kC])
  refine Z9 (k:=p.D.length - 0) (fun m x=>∃ (i:Nat),m=p.D.length - i∧P<x.st.cnt∧C<x.st.cnt∧x.env.get 1=.i .i64 lv∧x.env.get 2=.i .i64 many∧x.env.get 3=.ptr P 0∧x.env.get 7=.ptr C 0∧x.st.get P=some (.cells [slV p.zd p.D.length (p.D.flatMap Dc.cs),slV p.zt p.T.length (p.T.flatMap Td.cs)] false)∧x.st.get C=some (.cells [.i .i64 ((p.D.length+p.T.length:Nat):Int)] false)∧x.env.get 8=.i .i64 (i:Int)∧(i≤p.D.length)∧(Nf8 (p.D.drop i)=Nf8 p.D)) ?_ ?_ Zaa
  ·clear bP bC g1 g2 g3 g7 kP kC;rintro m ⟨env,⟨sto,c⟩⟩ ⟨i,rfl,bP,bC,g1,g2,g3,g7,kP,kC,g8,hi,hob⟩;try simp only at bP bC g1 g2 g3 g7 g8
   replace kP:∀ n',St.get ⟨sto,n'⟩ P=some (.cells [slV p.zd p.D.length (p.D.flatMap Dc.cs),slV p.zt p.T.length (p.T.flatMap Td.cs)] false):=fun _=>kP;replace kC:∀ n',St.get ⟨sto,n'⟩ C=some (.cells [.i .i64 ((p.D.length+p.T.length:Nat):Int)] false):=fun _=>kC;by_cases hil:i<p.D.length
   ·obtain⟨d,he⟩:∃ d,p.D[i]=d:=⟨_,rfl⟩;have hF:=fun st=>NlW (st:=st) hil;simp only[he]at hF;have f1:=fun st=>(hF st).1;have f3:=fun st=>(hF st).2;have hd:=hwd d (he▸List.getElem_mem hil);have hd1:=hd.2.2.1;have hd2:=hd.2.2.2;have hwS:IntKind.i64.wrap ((d.S.length:Int)+(d.O.length:Int))=(d.S.length:Int)+(d.O.length:Int):=NaD _ ⟨by omega,by omega⟩;have hsp:=fun z cs=>Nas (z:=z) (cs:=cs) hil;have lD2:Nd7 (.fsl p.D.length (p.D.flatMap Dc.cs))=some (.i .i64 (p.D.length:Int)):=rfl;rw[List.drop_eq_getElem_cons hil,he,Nf8]at hob;by_cases h1:1000<d.S.length+d.O.length
    ·rw[if_pos h1]at hob;rw[if_pos hob.symm]at hR;have h1i:(1000:Int)<(d.S.length:Int)+(d.O.length:Int):=by omega
     iterate 6
      (try rw[Z0]);(try simp(maxSteps:=9^7)(disch:=first|omega|rfl|assumption)only[↓Yaa,Yab,Nae,Naa,rB,rC,rD,rE,reduceIte,unP,rF,g1,g2,g3,g7,kP,kC,g8,hsp,lD2,lD,hD,f1,f3,hwS])
     exact⟨nofun,_,rfl,by simp only[Nau,Yad,if_true];rw[←hR]⟩
    ·rw[if_neg h1]at hob
     iterate 6
      (try rw[Z0]);(try simp(maxSteps:=9^7)(disch:=first|omega|rfl|assumption)only[↓Yaa,Yab,Nae,Naa,rB,rC,rD,rE,reduceIte,unP,rF,g1,g2,g3,g7,kP,kC,g8,hsp,lD2,lD,hD,f1,f3,hwS])
     exact⟨p.D.length - (i+1),by omega,i+1,rfl,rfl,by omega,hob⟩
   ·have h0:p.D.drop i=[]:=List.drop_of_length_le Zaa;rw[h0,Nf8]at hob
    iterate 6
     (try rw[Z0]);(try simp(maxSteps:=9^7)(disch:=first|omega|rfl|assumption)only[↓Yaa,Yab,Nae,Naa,rB,rC,rD,rE,reduceIte,unP,rF,g1,g2,g3,g7,kP,kC,g8,lD])
    refine hK1 _ ⟨Zab,Zab,?_,?_,?_,?_,?_,?_,hob.symm⟩<;>first|with_reducible rfl|with_reducible assumption|exact kP _|exact kC _|(simp[Yad,g1,g2,g3,g7,g8]<;>omega)|(simp(disch:=omega)only[NaG,NaN,Yaf,kP,kC];first|done|with_reducible rfl|with_reducible assumption)
  ·skip
   refine⟨0,rfl,Zab,Zab,?_,?_,?_,?_,?_,?_,?_,Zac,Zac⟩<;>first|with_reducible rfl|with_reducible assumption|exact kP _|exact kC _|(simp[Yad,g1,g2,g3,g7]<;>omega)|(simp(disch:=omega)only[NaG,NaN,Yaf,kP,kC];first|done|with_reducible rfl|with_reducible assumption)
 clear bP bC g1 g2 g3 g7 kP kC;rintro⟨env,⟨sto,c⟩⟩ ⟨bP,bC,g1,g2,g3,g7,kP,kC,hH⟩;try simp only at bP bC g1 g2 g3 g7
 replace kP:∀ n',St.get ⟨sto,n'⟩ P=some (.cells [slV p.zd p.D.length (p.D.flatMap Dc.cs),slV p.zt p.T.length (p.T.flatMap Td.cs)] false):=fun _=>kP;replace kC:∀ n',St.get ⟨sto,n'⟩ C=some (.cells [.i .i64 ((p.D.length+p.T.length:Nat):Int)] false):=fun _=>kC;rw[if_neg (by rw[hH];simp)]at hR;obtain⟨W,hW⟩:∃ W,NdY many lv p.T ((p.D.length:Int)+(p.T.length:Int))=W:=⟨_,rfl⟩;rw[hW]at hR;refine NaT (fun x=>P<x.st.cnt∧x.env.get 1=.i .i64 lv∧x.env.get 2=.i .i64 many∧x.env.get 3=.ptr P 0∧x.env.get 7=.ptr C 0∧x.st.get P=some (.cells [slV p.zd p.D.length (p.D.flatMap Dc.cs),slV p.zt p.T.length (p.T.flatMap Td.cs)] false)∧(∃ cF,x.st.get C=some (.cells [.i .i64 cF] false)∧W.1=false∧W.2=cF)) ?_ ?_
 ·intro K2 hK2
  iterate 2
   (try rw[Z0]);(try simp(maxSteps:=9^7)(disch:=first|omega|rfl|assumption)only[↓Yaa,Yab,Nae,Naa,rB,rC,rD,rE,reduceIte,unP,rF,g1,g2,g3,g7,kP,kC])
  refine Z9 (k:=p.T.length - 0) (fun m x=>∃ (j:Nat) (c1:Int),m=p.T.length - j∧P<x.st.cnt∧C<x.st.cnt∧x.env.get 1=.i .i64 lv∧x.env.get 2=.i .i64 many∧x.env.get 3=.ptr P 0∧x.env.get 7=.ptr C 0∧x.st.get P=some (.cells [slV p.zd p.D.length (p.D.flatMap Dc.cs),slV p.zt p.T.length (p.T.flatMap Td.cs)] false)∧x.st.get C=some (.cells [.i .i64 c1] false)∧x.env.get 9=.i .i64 (j:Int)∧(j≤p.T.length)∧(NdY many lv (p.T.drop j) c1=W)∧(0≤c1)) ?_ ?_ Zaa
  ·clear bP bC g1 g2 g3 g7 kP kC;rintro m ⟨env,⟨sto,c⟩⟩ ⟨j,c1,rfl,bP,bC,g1,g2,g3,g7,kP,kC,g9,hj,hoc,h0⟩;try simp only at bP bC g1 g2 g3 g7 g9
   replace kP:∀ n',St.get ⟨sto,n'⟩ P=some (.cells [slV p.zd p.D.length (p.D.flatMap Dc.cs),slV p.zt p.T.length (p.T.flatMap Td.cs)] false):=fun _=>kP;replace kC:∀ n',St.get ⟨sto,n'⟩ C=some (.cells [.i .i64 c1] false):=fun _=>kC;by_cases hjl:j<p.T.length
   ·obtain⟨t,he⟩:∃ t,p.T[j]=t:=⟨_,rfl⟩;have hF:=fun st=>Nf4 (st:=st) hjl;simp only[he]at hF;have f0:=fun st=>(hF st).1;have f1:=fun st=>(hF st).2;have ht:=hwt t (he▸List.getElem_mem hjl);have hsp:=fun z cs=>Nas (z:=z) (cs:=cs) hjl;have hsm:=Tds.size_mem (l:=p.T) (t:=t) (he▸List.getElem_mem hjl);have lT2:Nd7 (.fsl p.T.length (p.T.flatMap Td.cs))=some (.i .i64 (p.T.length:Int)):=rfl;rw[List.drop_eq_getElem_cons hjl,he,NdY]at hoc;by_cases h1:1000<t.S.length
    ·rw[if_pos h1]at hoc;subst hoc;rw[if_pos rfl]at hR;have h1i:(1000:Int)<(t.S.length:Int):=by omega
     iterate 6
      (try rw[Z0]);(try simp(maxSteps:=9^7)(disch:=first|omega|rfl|assumption)only[↓Yaa,Yab,Nae,Naa,rB,rC,rD,rE,reduceIte,unP,rF,g1,g2,g3,g7,kP,kC,g9,hsp,lT2,lT,hT,f0,f1])
     exact⟨nofun,_,rfl,by simp only[Nau,Yad,if_true];rw[←hR]⟩
    ·rw[if_neg h1]at hoc;by_cases h2:many<c1
     ·rw[if_pos h2]at hoc;subst hoc;rw[if_pos rfl]at hR
      iterate 6
       (try rw[Z0]);(try simp(maxSteps:=9^7)(disch:=first|omega|rfl|assumption)only[↓Yaa,Yab,Nae,Naa,rB,rC,rD,rE,reduceIte,unP,rF,g1,g2,g3,g7,kP,kC,g9,hsp,lT2,lT,hT,f0,f1])
      exact⟨nofun,_,rfl,by simp only[Nau,Yad,if_true];rw[←hR]⟩
     ·rw[if_neg h2]at hoc;obtain⟨w,hw⟩:∃ w,Sms.hug many t.B lv c1=w:=⟨_,rfl⟩;have hn:=Sms.hug_n many t.B lv c1 Zaa;rw[hw]at hoc hn
      iterate 4
       (try rw[Z0]);(try simp(maxSteps:=9^7)(disch:=first|omega|rfl|assumption)only[↓Yaa,Yab,Nae,Naa,rB,rC,rD,rE,reduceIte,unP,rF,g1,g2,g3,g7,kP,kC,g9,hsp,lT2,lT,hT,f0,f1,hy])
      refine Nd0 (NnS hc hx hy hmany (kN:=C) q t.B t.z lv c1 _ Zaa ht.2.2.1 ht.2.2.2 hl0.1 hl0.2 h0 Zaa Zae (kC _)) ?_;rintro r1 ⟨sto1,c1'⟩ ⟨rfl,kC1,kj,hc1⟩;simp only at hc1 kj;rw[hw]at kC1 ⊢;have kP1:=(kj P Zaa Zaa).trans (kP _);cases hb:w.1 with
      |true =>
        rw[hb,if_pos rfl]at hoc;subst hoc;rw[if_pos hb]at hR
        iterate 3
         (try rw[Z0]);(try simp(maxSteps:=9^7)(disch:=first|omega|rfl|assumption)only[↓Yaa,Yab,Nae,Naa,rB,rC,rD,rE,reduceIte,unP,rF,g1,g2,g3,g7,kP,kC,g9])
        exact⟨nofun,_,rfl,by simp only[Nau,Yad,if_true];rw[←hR]⟩
      |false =>
        rw[hb,if_neg Zaf]at hoc;have hn2:=hn hb
        iterate 3
         (try rw[Z0]);(try simp(maxSteps:=9^7)(disch:=first|omega|rfl|assumption)only[↓Yaa,Yab,Nae,Naa,rB,rC,rD,rE,reduceIte,unP,rF,g1,g2,g3,g7,kP,kC,g9])
        exact⟨p.T.length - (j+1),by omega,j+1,w.2,rfl,by first|exact kP1|(rw[Nas hjl]at kP1;exact kP1),kC1,rfl,by omega,hoc,by omega⟩
   ·have h0':p.T.drop j=[]:=List.drop_of_length_le Zaa;rw[h0',NdY]at hoc;subst hoc
    iterate 6
     (try rw[Z0]);(try simp(maxSteps:=9^7)(disch:=first|omega|rfl|assumption)only[↓Yaa,Yab,Nae,Naa,rB,rC,rD,rE,reduceIte,unP,rF,g1,g2,g3,g7,kP,kC,g9,lT])
    refine hK2 _ ⟨Zab,?_,?_,?_,?_,?_,⟨_,kC _,rfl,rfl⟩⟩<;>first|with_reducible rfl|with_reducible assumption|exact kP _|(simp[Yad,g1,g2,g3,g7,g9]<;>omega)|(simp(disch:=omega)only[NaG,NaN,Yaf,kP,kC];first|done|with_reducible rfl|with_reducible assumption)
  ·skip
   refine⟨0,((p.D.length+p.T.length:Nat):Int),rfl,Zab,Zab,?_,?_,?_,?_,?_,?_,?_,Zac,(by rw[List.drop_zero,←hW];congr 1),Zaa⟩<;>first|with_reducible rfl|with_reducible assumption|exact kP _|exact kC _|(simp[Yad,g1,g2,g3,g7]<;>omega)|(simp(disch:=omega)only[NaG,NaN,Yaf,kP,kC];first|done|with_reducible rfl|with_reducible assumption)
 clear bP bC g1 g2 g3 g7 kP kC;rintro⟨env,⟨sto,c⟩⟩ ⟨bP,g1,g2,g3,g7,kP,cf⟩;try simp only at bP g1 g2 g3 g7 cf
 replace kP:∀ n',St.get ⟨sto,n'⟩ P=some (.cells [slV p.zd p.D.length (p.D.flatMap Dc.cs),slV p.zt p.T.length (p.T.flatMap Td.cs)] false):=fun _=>kP;obtain⟨cF,kC,hf1,hf2⟩:=cf;rw[hf1,if_neg Zaf,hf2]at hR;replace kC:∀ n',St.get ⟨sto,n'⟩ C=_:=fun _=>kC
 iterate 2
  (try rw[Z0]);(try simp(maxSteps:=9^7)(disch:=first|omega|rfl|assumption)only[↓Yaa,Yab,Nae,Naa,rB,rC,rD,rE,reduceIte,unP,rF,g1,g2,g3,g7,kP,kC])
 exact⟨nofun,_,rfl,by simp only[Nau,Yad,if_true];rw[←hR]⟩
end Go.Pe
