/-
 Check: what is wrong with a program? No condition.
-/
import Derived.Test.YtjnofhibldppoaaZChkMe
set_option linter.unusedVariables false
set_option linter.unusedSimpArgs false
set_option maxHeartbeats 8000000
open Nat renaming reduceAdd → rB,reduceMul → rC,reduceLT → rD,reduceEqDiff → rE,reduceLeDiff → rF
namespace Go.Pe
open Go Go.Am Go.RowKit
def Ndi:List Dc→List (List UInt8×Nat)→(Int×Int)×List (List UInt8×Nat)
 |[],es=>((0,0),es)
 |d::r,es=>if Ndn d.K.toNat d.S d.N d.O es=0 then Ndi r (putN d.S d.K.toNat es)else((Ndn d.K.toNat d.S d.N d.O es,d.R),es)
def Ngl(es:List (List UInt8×Nat)):List Td→List (List UInt8)→Int×Int
 |[],_=>(0,0)
 |t::r,seen=>if Nfk t.S seen=true then(112,t.R)else
     if(Sms.chk es t.B []).1.1=0 then(if 15000<Sms.runT t.B 0 then(113,t.R)else Ngl es r (Nk6 t.S seen))else(Sms.chk es t.B []).1
def Nd3(p:Pg):Int×Int:=if Ndp p=true then(if(Ndi p.D []).1.1=0 then Ngl (Ndi p.D []).2 p.T []else(Ndi p.D []).1)else(103,0)
theorem NcN{st:St}{z1 z2:Bool}{m1 m2:Nat}(c1 c2:List PV):Go.Pe.deep st 12 (.agg [slV z1 m1 c1,slV z2 m2 c2])=some (.agg [slV z1 m1 c1,slV z2 m2 c2]):=by
 unfold slV;split<;>split<;>rfl
theorem NcU{z1 z2:Bool}{m1 m2:Nat}(c1 c2:List PV):NaC [.agg [slV z1 m1 c1,slV z2 m2 c2]]=([.agg [slV z1 m1 c1,slV z2 m2 c2]],{ sto:=.leaf,cnt:=1 }):=by
 unfold slV;split<;>split<;>rfl
theorem NhX{cfg:Cfg}(hc:CfgM cfg){p:Pg}{q:Nat}{st:St}(hfu:Tds.size p.T+p.D.length+40≤q)(hn:Tds.size p.T+p.D.length<1000000000000000) :
 ∃ r st',Nay cfg (q+3) 9 [.agg (Pg.cs p)] st=some (r,st')∧r=.agg [.i .i64 (Nd3 p).1,.i .i64 (Nd3 p).2]:=by
 refine Nax (hc.fn _ _ (by kernel_rfl):cfg.fn 9=some m9) ?_;delta m9 Qa Qr Qf Qg Qc Ql Qt Qn Qk Qm Qi Qo Qw Pg.cs;obtain⟨R,hR⟩:∃ R,Nd3 p=R:=⟨_,rfl⟩;rw[hR];unfold Nd3 at hR;have lD:=NaF p.zd p.D.length (p.D.flatMap Dc.cs);have lT:=NaF p.zt p.T.length (p.T.flatMap Td.cs);have hD:=NaM Dc.cs_len p.D;have hT:=NaM Td.cs_len p.T;have hTl:=Tds.len_le p.T;have gR:∀ (st:St) (key:Nat),Nam (Nak cfg (Nay cfg (q+2)) 22) false st key [.agg [slV p.zd p.D.length (p.D.flatMap Dc.cs),slV p.zt p.T.length (p.T.flatMap Td.cs)]]=some (.b (Ndp p),st):=fun st key =>
  NaH (NaR (NcN _ _)) (Nar hc.z8 (NcU _ _) (fun _=>rfl) (by
   obtain⟨r,st',h1,h2,h3⟩:=Nmj hc.toCfgV (fuel:=q) (p:=p) (st:={ sto:=.leaf,cnt:=1 }) Zaa Zaa;exact⟨r,st',h1,h2⟩)) rfl rfl
 simp only[Naj];(try rw[Z0]);(try simp(disch:=first|omega|rfl|assumption)only[↓Yaa,Yab,Nae,Naa,rB,rC,rD,rE,reduceIte,unP,rF,Nag,Naf]);refine NaL (fun x=>∃ Pk F:Nat,Pk≠F∧x.env.get 1=.ptr Pk 0∧x.env.get 2=.ptr F 0∧x.st.get Pk=some (.cells [slV p.zd p.D.length (p.D.flatMap Dc.cs),slV p.zt p.T.length (p.T.flatMap Td.cs)] false)∧x.st.get F=some (.cells [.i .i64 ((0:Nat):Int),.i .i64 ((0:Nat):Int)] false)∧Pk<x.st.cnt∧F<x.st.cnt) ?_ ?_
 ·exact⟨st.cnt,st.cnt+8,by omega,rfl,rfl,by simp(disch:=omega)only[NaG,NaN];rw[Yaf],by rw[Yaf],by simp only[Naz];omega,by simp only[Naz];omega⟩
 rintro⟨env,⟨sto,c⟩⟩ ⟨Pk,F,hPF,g1,g2,kP,kF,hPc,hFc⟩;simp only at g1 g2 hPc hFc;replace kP:∀ n',St.get ⟨sto,n'⟩ Pk=_:=fun _=>kP;replace kF:∀ n',St.get ⟨sto,n'⟩ F=_:=fun _=>kF;refine NaT (fun x=>Ndp p=true∧x.env.get 1=.ptr Pk 0∧x.env.get 2=.ptr F 0∧x.st.get Pk=some (.cells [slV p.zd p.D.length (p.D.flatMap Dc.cs),slV p.zt p.T.length (p.T.flatMap Td.cs)] false)∧x.st.get F=some (.cells [.i .i64 ((0:Nat):Int),.i .i64 ((0:Nat):Int)] false)∧Pk<x.st.cnt∧F<x.st.cnt) ?_ ?_
 ·intro K hK;cases hr:Ndp p with
  |true =>
    iterate 2
     (try rw[Z0]);(try simp(disch:=first|omega|rfl|assumption)only[↓Yaa,Yab,Nae,Naa,rB,rC,rD,rE,reduceIte,unP,rF,g1,g2,kP,kF,Nag,Naf,gR,hr,Bool.not_true])
    refine hK _ ⟨hr,by simp[Yad,g1],by simp[Yad,g2],kP _,kF _,by simp only;omega,by simp only;omega⟩
  |false =>
    rw[hr,if_neg Zaf]at hR;subst hR
    iterate 2
     (try rw[Z0]);(try simp(disch:=first|omega|rfl|assumption)only[↓Yaa,Yab,Nae,Naa,rB,rC,rD,rE,reduceIte,unP,rF,g1,g2,kP,kF,Nag,Naf,gR,hr,Bool.not_false])
    exact⟨nofun,_,Ncj (by simp only[Yad,rE,if_false];exact g2) (a:=103) (b:=0) (by rw[Yaf];rfl),rfl⟩
 clear g1 g2 kP kF hPc hFc;rintro⟨env,⟨sto,c⟩⟩ ⟨hr,g1,g2,kP,kF,hPc,hFc⟩;simp only at g1 g2 hPc hFc;rw[if_pos hr]at hR;replace kP:∀ n',St.get ⟨sto,n'⟩ Pk=_:=fun _=>kP;replace kF:∀ n',St.get ⟨sto,n'⟩ F=_:=fun _=>kF;(try rw[Z0]);(try simp(disch:=first|omega|rfl|assumption)only[↓Yaa,Yab,Nae,Naa,rB,rC,rD,rE,reduceIte,unP,rF,g1,g2,Nag,Naf]);refine NaL (fun x=>∃ K Mk:Nat,(K≠Mk∧K≠Pk∧K≠F∧Mk≠Pk∧Mk≠F)∧x.env.get 1=.ptr Pk 0∧x.env.get 2=.ptr F 0∧x.st.get Pk=some (.cells [slV p.zd p.D.length (p.D.flatMap Dc.cs),slV p.zt p.T.length (p.T.flatMap Td.cs)] false)∧x.st.get F=some (.cells [.i .i64 ((0:Nat):Int),.i .i64 ((0:Nat):Int)] false)∧Pk<x.st.cnt∧F<x.st.cnt∧x.env.get 3=.ptr K 0∧x.st.get K=some (.cells [.mp Mk,.nmp] false)∧x.st.get Mk=some (.map (esV []))∧K<x.st.cnt∧Mk<x.st.cnt) ?_ ?_
 ·exact⟨c+16,c,⟨by omega,by omega,by omega,by omega,by omega⟩,by simp[Yad,g1],by simp[Yad,g2],by simp(disch:=omega)only[NaG,NaN];exact kP _,by simp(disch:=omega)only[NaG,NaN];exact kF _,by simp only[Naz];omega,by simp only[Naz];omega,by simp[Yad],by rw[Yaf],by simp(disch:=omega)only[NaG,NaN];rw[Yaf];rfl,by simp only[Naz];omega,by simp only[Naz];omega⟩
 clear g1 g2 kP kF hPc hFc;rintro⟨env,⟨sto,c⟩⟩ ⟨K,Mk,⟨n1,n2,n3,n4,n5⟩,g1,g2,kP,kF,hPc,hFc,g3,kK,kM,hKc,hMc⟩;simp only at g1 g2 g3 hPc hFc hKc hMc;replace kP:∀ n',St.get ⟨sto,n'⟩ Pk=_:=fun _=>kP;obtain⟨O,hO⟩:∃ O,Ndi p.D []=O:=⟨_,rfl⟩;rw[hO]at hR;refine NaT (fun x=>O.1.1=0∧x.env.get 1=.ptr Pk 0∧x.env.get 2=.ptr F 0∧x.st.get Pk=some (.cells [slV p.zd p.D.length (p.D.flatMap Dc.cs),slV p.zt p.T.length (p.T.flatMap Td.cs)] false)∧x.st.get F=some (.cells [.i .i64 ((0:Nat):Int),.i .i64 ((0:Nat):Int)] false)∧Pk<x.st.cnt∧F<x.st.cnt∧x.env.get 3=.ptr K 0∧x.st.get K=some (.cells [.mp Mk,.nmp] false)∧x.st.get Mk=some (.map (esV O.2))∧K<x.st.cnt∧Mk<x.st.cnt) ?_ ?_
 ·intro K' hK'
  iterate 2
   (try rw[Z0]);(try simp(disch:=first|omega|rfl|assumption)only[↓Yaa,Yab,Nae,Naa,rB,rC,rD,rE,reduceIte,unP,rF,g1,g2,g3,kP,lD])
  refine Z9 (k:=p.D.length - 0) (fun m x=>∃ (i:Nat) (es:List (List UInt8×Nat)),m=p.D.length - i∧i≤p.D.length∧Ndi (p.D.drop i) es=O∧x.env.get 19=slV p.zd p.D.length (p.D.flatMap Dc.cs)∧x.env.get 20=.i .i64 (p.D.length:Int)∧x.env.get 21=.i .i64 (i:Int)∧x.env.get 1=.ptr Pk 0∧x.env.get 2=.ptr F 0∧x.st.get Pk=some (.cells [slV p.zd p.D.length (p.D.flatMap Dc.cs),slV p.zt p.T.length (p.T.flatMap Td.cs)] false)∧x.st.get F=some (.cells [.i .i64 ((0:Nat):Int),.i .i64 ((0:Nat):Int)] false)∧Pk<x.st.cnt∧F<x.st.cnt∧x.env.get 3=.ptr K 0∧x.st.get K=some (.cells [.mp Mk,.nmp] false)∧x.st.get Mk=some (.map (esV es))∧K<x.st.cnt∧Mk<x.st.cnt) ?_ ?_ Zaa
  ·clear g1 g2 g3 kP kF hPc hFc kK kM hKc hMc;rintro m ⟨env,⟨sto,c⟩⟩ ⟨i,es,rfl,hi,hob,g19,g20,g21,g1,g2,kP,kF,hPc,hFc,g3,kK,kM,hKc,hMc⟩;simp only at g1 g2 g3 g19 g20 g21 hPc hFc hKc hMc;by_cases hil:i<p.D.length
   ·rw[Nas hil]at g19;obtain⟨d,he⟩:∃ d,p.D[i]=d:=⟨_,rfl⟩;have hld:=fun st=>Nhw (st:=st) hil;simp only[he]at hld;rw[List.drop_eq_getElem_cons hil,he,Ndi]at hob
    iterate 4
     (try rw[Z0]);(try simp(disch:=first|omega|rfl|assumption)only[↓Yaa,Yab,Nae,Naa,rB,rC,rD,rE,reduceIte,unP,rF,g1,g2,g3,g19,g20,g21,hld,hD])
    refine NaL (fun x=>∃ B:Nat,(B≠K∧B≠Mk∧B≠F∧B≠Pk)∧x.env.get 5=.ptr B 0∧x.st.get B=some (.cells [.i .u8 (d.K.toNat:Int),.s d.S,.i .i64 d.N,.s d.O,.i .i64 d.R] false)∧B<x.st.cnt∧x.env.get 19=.fsl p.D.length (p.D.flatMap Dc.cs)∧x.env.get 20=.i .i64 (p.D.length:Int)∧x.env.get 21=.i .i64 (i:Int)∧x.env.get 1=.ptr Pk 0∧x.env.get 2=.ptr F 0∧x.st.get Pk=some (.cells [slV p.zd p.D.length (p.D.flatMap Dc.cs),slV p.zt p.T.length (p.T.flatMap Td.cs)] false)∧x.st.get F=some (.cells [.i .i64 ((0:Nat):Int),.i .i64 ((0:Nat):Int)] false)∧Pk<x.st.cnt∧F<x.st.cnt∧x.env.get 3=.ptr K 0∧x.st.get K=some (.cells [.mp Mk,.nmp] false)∧x.st.get Mk=some (.map (esV es))∧K<x.st.cnt∧Mk<x.st.cnt) ?_ ?_
    ·exact⟨c+24,⟨by omega,by omega,by omega,by omega⟩,by simp[Yad],by rw[Yaf],by simp only[Naz];omega,by simp[Yad,g19],by simp[Yad,g20],by simp[Yad,g21],by simp[Yad,g1],by simp[Yad,g2],by simp(disch:=omega)only[NaG,NaN];exact kP,by simp(disch:=omega)only[NaG,NaN];exact kF,by simp only[Naz];omega,by simp only[Naz];omega,by simp[Yad,g3],by simp(disch:=omega)only[NaG,NaN];exact kK,by simp(disch:=omega)only[NaG,NaN];exact kM,by simp only[Naz];omega,by simp only[Naz];omega⟩
    clear g1 g2 g3 kP kF hPc hFc kK kM hKc hMc g19 g20 g21;rintro⟨env,⟨sto,c⟩⟩ ⟨B,⟨b1,b2,b3,b4⟩,g5,kB,hBc,g19,g20,g21,g1,g2,kP,kF,hPc,hFc,g3,kK,kM,hKc,hMc⟩;simp only at g1 g2 g3 g5 g19 g20 g21 hPc hFc hKc hMc hBc;have kB':∀ n',St.get ⟨sto,n'⟩ B=_:=fun _=>kB
    iterate 2
     (try rw[Z0]);(try simp(disch:=first|omega|rfl|assumption)only[↓Yaa,Yab,Nae,Naa,rB,rC,rD,rE,reduceIte,unP,rF,g1,g2,g3,g5,g19,g20,g21,kB',hc.z5])
    refine Nd0 (NlT hc.toCfgV hc.z1 (fuel:=q) (kp:=K) (M:=Mk) (k:=d.K.toNat) (v:=.nmp) Zae Zae kK kM) ?_;rintro r1 ⟨sto1,c1⟩ ⟨rfl,kj,hc1⟩;simp only at hc1 kj;obtain⟨w,hw⟩:∃ w,Ndn d.K.toNat d.S d.N d.O es=w:=⟨_,rfl⟩;rw[hw]at hob ⊢;have kB1:∀ n',St.get ⟨sto1,n'⟩ B=_:=fun n'=>(kj B Zaa).trans kB;have kF1:∀ n',St.get ⟨sto1,n'⟩ F=_:=fun n'=>(kj F Zaa).trans kF;have kK1:∀ n',St.get ⟨sto1,n'⟩ K=_:=fun n'=>(kj K Zaa).trans kK;have kM1:∀ n',St.get ⟨sto1,n'⟩ Mk=_:=fun n'=>(kj Mk Zaa).trans kM;have kP1:∀ n',St.get ⟨sto1,n'⟩ Pk=_:=fun n'=>(kj Pk Zaa).trans kP;by_cases h0:w=0
    ·have b0:(w != Int.ofNat 0)=false:=(by rw[h0];rfl);rw[if_pos h0]at hob;have hmp:=NgN d.S d.K.toNat es
     iterate 5
      (try rw[Z0]);(try simp(disch:=first|omega|rfl|assumption)only[↓Yaa,Yab,Nae,Naa,rB,rC,rD,rE,reduceIte,unP,rF,g1,g2,g3,g5,g19,g20,g21,kB1,kK1,kM1,hmp,Option.map_some,b0])
     exact⟨p.D.length - (i+1),by omega,i+1,_,rfl,by omega,hob,(Nas hil).symm,rfl,kP1 _,kF1 _,rfl⟩
    ·have b0:(w != Int.ofNat 0)=true:=(by simpa using h0);rw[if_neg h0]at hob;subst hob;rw[if_neg h0]at hR;subst hR
     iterate 5
      (try rw[Z0]);(try simp(disch:=first|omega|rfl|assumption)only[↓Yaa,Yab,Nae,Naa,rB,rC,rD,rE,reduceIte,unP,rF,g1,g2,g3,g5,g19,g20,g21,kB1,kK1,kM1,kF1,b0])
     exact⟨nofun,_,Ncj (by simp only[Yad,rE,if_false];exact g2) (by rw[Yaf]),rfl⟩
   ·have h0:p.D.drop i=[]:=List.drop_of_length_le Zaa;rw[h0,Ndi]at hob
    iterate 4
     (try rw[Z0]);(try simp(disch:=first|omega|rfl|assumption)only[↓Yaa,Yab,Nae,Naa,rB,rC,rD,rE,reduceIte,unP,rF,g19,g20,g21])
    exact hK' _ ⟨by rw[←hob],by simp[Yad,g1],by simp[Yad,g2],kP,kF,by simp only;omega,by simp only;omega,by simp[Yad,g3],kK,by rw[←hob];exact kM,by simp only;omega,by simp only;omega⟩
  ·exact⟨0,[],rfl,by omega,by rw[List.drop_zero];exact hO,by simp[Yad],by simp[Yad],by simp[Yad],by simp[Yad,g1],by simp[Yad,g2],kP _,kF,by simp only;omega,by simp only;omega,by simp[Yad,g3],kK,kM,by simp only;omega,by simp only;omega⟩
 clear g1 g2 g3 kP kF hPc hFc kK kM hKc hMc;rintro⟨env,⟨sto,c⟩⟩ ⟨hO0,g1,g2,kP,kF,hPc,hFc,g3,kK,kM,hKc,hMc⟩;simp only at g1 g2 g3 hPc hFc hKc hMc;rw[if_pos hO0]at hR;obtain⟨es,hes⟩:∃ es,O.2=es:=⟨_,rfl⟩;rw[hes]at hR kM;clear hes hO hO0;(try rw[Z0]);(try simp(disch:=first|omega|rfl|assumption)only[↓Yaa,Yab,Nae,Naa,rB,rC,rD,rE,reduceIte,unP,rF,g1,g2,g3]);refine NaL (fun x=>∃ S:Nat,(S≠K∧S≠Mk∧S≠F∧S≠Pk)∧x.env.get 7=.mp S∧S<x.st.cnt∧x.st.get S=some (.map (lsV []))∧x.env.get 1=.ptr Pk 0∧x.env.get 2=.ptr F 0∧x.st.get Pk=some (.cells [slV p.zd p.D.length (p.D.flatMap Dc.cs),slV p.zt p.T.length (p.T.flatMap Td.cs)] false)∧x.st.get F=some (.cells [.i .i64 ((0:Nat):Int),.i .i64 ((0:Nat):Int)] false)∧Pk<x.st.cnt∧F<x.st.cnt∧x.env.get 3=.ptr K 0∧x.st.get K=some (.cells [.mp Mk,.nmp] false)∧x.st.get Mk=some (.map (esV es))∧K<x.st.cnt∧Mk<x.st.cnt) ?_ ?_
 ·exact⟨c,⟨by omega,by omega,by omega,by omega⟩,by simp[Yad],by simp only[Naz];omega,by rw[Yaf];rfl,by simp[Yad,g1],by simp[Yad,g2],by simp(disch:=omega)only[NaG,NaN];exact kP,by simp(disch:=omega)only[NaG,NaN];exact kF,by simp only[Naz];omega,by simp only[Naz];omega,by simp[Yad,g3],by simp(disch:=omega)only[NaG,NaN];exact kK,by simp(disch:=omega)only[NaG,NaN];exact kM,by simp only[Naz];omega,by simp only[Naz];omega⟩
 clear g1 g2 g3 kP kF hPc hFc kK kM hKc hMc;rintro⟨env,⟨sto,c⟩⟩ ⟨S,⟨s1,s2,s3,s4⟩,g7,hSc,kS,g1,g2,kP,kF,hPc,hFc,g3,kK,kM,hKc,hMc⟩;simp only at g1 g2 g3 g7 hPc hFc hKc hMc hSc;replace kP:∀ n',St.get ⟨sto,n'⟩ Pk=_:=fun _=>kP;refine NaT (fun x=>R=(0,0)∧x.env.get 2=.ptr F 0∧x.st.get F=some (.cells [.i .i64 ((0:Nat):Int),.i .i64 ((0:Nat):Int)] false)) ?_ ?_
 ·intro K' hK'
  iterate 2
   (try rw[Z0]);(try simp(disch:=first|omega|rfl|assumption)only[↓Yaa,Yab,Nae,Naa,rB,rC,rD,rE,reduceIte,unP,rF,g1,g2,g3,g7,kP,lT])
  refine Z9 (k:=p.T.length - 0) (fun m x=>∃ (i:Nat) (seen:List (List UInt8)) (v:PV),m=p.T.length - i∧i≤p.T.length∧Ngl es (p.T.drop i) seen=R∧v.one=true∧x.env.get 45=slV p.zt p.T.length (p.T.flatMap Td.cs)∧x.env.get 46=.i .i64 (p.T.length:Int)∧x.env.get 47=.i .i64 (i:Int)∧x.env.get 7=.mp S∧S<x.st.cnt∧x.st.get S=some (.map (lsV seen))∧x.env.get 1=.ptr Pk 0∧x.env.get 2=.ptr F 0∧x.st.get Pk=some (.cells [slV p.zd p.D.length (p.D.flatMap Dc.cs),slV p.zt p.T.length (p.T.flatMap Td.cs)] false)∧x.st.get F=some (.cells [.i .i64 ((0:Nat):Int),.i .i64 ((0:Nat):Int)] false)∧Pk<x.st.cnt∧F<x.st.cnt∧x.env.get 3=.ptr K 0∧x.st.get K=some (.cells [.mp Mk,v] false)∧x.st.get Mk=some (.map (esV es))∧K<x.st.cnt∧Mk<x.st.cnt) ?_ ?_ Zaa
  ·clear g1 g2 g3 g7 kP kF hPc hFc kK kM hKc hMc hSc kS;rintro m ⟨env,⟨sto,c⟩⟩ ⟨i,seen,v,rfl,hi,hob,hv1,g45,g46,g47,g7,hSc,kS,g1,g2,kP,kF,hPc,hFc,g3,kK,kM,hKc,hMc⟩;simp only at g1 g2 g3 g7 g45 g46 g47 hPc hFc hKc hMc hSc;by_cases hil:i<p.T.length
   ·rw[Nas hil]at g45;obtain⟨e,he⟩:∃ e,p.T[i]=e:=⟨_,rfl⟩;have hld:=fun st=>Nhx (st:=st) hil;simp only[he]at hld;have hsm:=Tds.size_mem (l:=p.T) (t:=e) (he▸List.getElem_mem hil);rw[List.drop_eq_getElem_cons hil,he,Ngl]at hob
    iterate 4
     (try rw[Z0]);(try simp(disch:=first|omega|rfl|assumption)only[↓Yaa,Yab,Nae,Naa,rB,rC,rD,rE,reduceIte,unP,rF,g1,g2,g3,g7,g45,g46,g47,hld,hT,Nag,Naf])
    refine NaL (fun x=>∃ B:Nat,(B≠K∧B≠Mk∧B≠F∧B≠Pk∧B≠S)∧x.env.get 9=.ptr B 0∧x.st.get B=some (.cells [.s e.S,slV e.z e.B.length (Sms.cs e.B),.i .i64 e.R] false)∧B<x.st.cnt∧x.env.get 45=.fsl p.T.length (p.T.flatMap Td.cs)∧x.env.get 46=.i .i64 (p.T.length:Int)∧x.env.get 47=.i .i64 (i:Int)∧x.env.get 7=.mp S∧S<x.st.cnt∧x.st.get S=some (.map (lsV seen))∧x.env.get 1=.ptr Pk 0∧x.env.get 2=.ptr F 0∧x.st.get Pk=some (.cells [slV p.zd p.D.length (p.D.flatMap Dc.cs),slV p.zt p.T.length (p.T.flatMap Td.cs)] false)∧x.st.get F=some (.cells [.i .i64 ((0:Nat):Int),.i .i64 ((0:Nat):Int)] false)∧Pk<x.st.cnt∧F<x.st.cnt∧x.env.get 3=.ptr K 0∧x.st.get K=some (.cells [.mp Mk,v] false)∧x.st.get Mk=some (.map (esV es))∧K<x.st.cnt∧Mk<x.st.cnt) ?_ ?_
    ·exact⟨c+24,⟨by omega,by omega,by omega,by omega,by omega⟩,by simp[Yad],by rw[Yaf],by simp only[Naz];omega,by simp[Yad,g45],by simp[Yad,g46],by simp[Yad,g47],by simp[Yad,g7],by simp only[Naz];omega,by simp(disch:=omega)only[NaG,NaN];exact kS,by simp[Yad,g1],by simp[Yad,g2],by simp(disch:=omega)only[NaG,NaN];exact kP,by simp(disch:=omega)only[NaG,NaN];exact kF,by simp only[Naz];omega,by simp only[Naz];omega,by simp[Yad,g3],by simp(disch:=omega)only[NaG,NaN];exact kK,by simp(disch:=omega)only[NaG,NaN];exact kM,by simp only[Naz];omega,by simp only[Naz];omega⟩
    clear g1 g2 g3 g7 kP kF hPc hFc kK kM hKc hMc hSc kS g45 g46 g47;rintro⟨env,⟨sto,c⟩⟩ ⟨B,⟨b1,b2,b3,b4,b5⟩,g9,kB,hBc,g45,g46,g47,g7,hSc,kS,g1,g2,kP,kF,hPc,hFc,g3,kK,kM,hKc,hMc⟩;simp only at g1 g2 g3 g7 g9 g45 g46 g47 hPc hFc hKc hMc hSc hBc;have kB':∀ n',St.get ⟨sto,n'⟩ B=_:=fun _=>kB;have kS':∀ n',St.get ⟨sto,n'⟩ S=_:=fun _=>kS;have kF':∀ n',St.get ⟨sto,n'⟩ F=_:=fun _=>kF;have hmg:=Ne2 e.S seen;refine NaT (fun x=>Nfk e.S seen=false∧x.env.get 9=.ptr B 0∧x.st.get B=some (.cells [.s e.S,slV e.z e.B.length (Sms.cs e.B),.i .i64 e.R] false)∧B<x.st.cnt∧x.env.get 45=.fsl p.T.length (p.T.flatMap Td.cs)∧x.env.get 46=.i .i64 (p.T.length:Int)∧x.env.get 47=.i .i64 (i:Int)∧x.env.get 7=.mp S∧S<x.st.cnt∧x.st.get S=some (.map (lsV seen))∧x.env.get 1=.ptr Pk 0∧x.env.get 2=.ptr F 0∧x.st.get Pk=some (.cells [slV p.zd p.D.length (p.D.flatMap Dc.cs),slV p.zt p.T.length (p.T.flatMap Td.cs)] false)∧x.st.get F=some (.cells [.i .i64 ((0:Nat):Int),.i .i64 ((0:Nat):Int)] false)∧Pk<x.st.cnt∧F<x.st.cnt∧x.env.get 3=.ptr K 0∧x.st.get K=some (.cells [.mp Mk,v] false)∧x.st.get Mk=some (.map (esV es))∧K<x.st.cnt∧Mk<x.st.cnt) ?_ ?_
    ·intro K2 hK2;cases hh:Nfk e.S seen with
     |true =>
       have b0:(Int.ofNat 1==Int.ofNat 1)=true:=rfl;rw[hh,if_pos rfl]at hmg hob;subst hob
       iterate 3
        (try rw[Z0]);(try simp(disch:=first|omega|rfl|assumption)only[↓Yaa,Yab,Nae,Naa,rB,rC,rD,rE,reduceIte,unP,rF,g1,g2,g3,g7,g9,g45,g46,g47,kB',kS',kF',hmg,Option.map_some,Option.getD_some,b0])
       exact⟨nofun,_,Ncj (by simp only[Yad,rE,if_false];exact g2) (by rw[Yaf];rfl),rfl⟩
     |false =>
       have b0:(Int.ofNat 0==Int.ofNat 1)=false:=rfl;rw[hh,if_neg Zaf]at hmg
       iterate 3
        (try rw[Z0]);(try simp(disch:=first|omega|rfl|assumption)only[↓Yaa,Yab,Nae,Naa,rB,rC,rD,rE,reduceIte,unP,rF,g1,g2,g3,g7,g9,g45,g46,g47,kB',kS',kF',hmg,Option.map_some,Option.getD_none,b0])
       exact hK2 _ ⟨hh,by simp[Yad,g9],kB,by simp only;omega,by simp[Yad,g45],by simp[Yad,g46],by simp[Yad,g47],by simp[Yad,g7],by simp only;omega,kS,by simp[Yad,g1],by simp[Yad,g2],kP,kF,by simp only;omega,by simp only;omega,by simp[Yad,g3],kK,kM,by simp only;omega,by simp only;omega⟩
    clear g1 g2 g3 g7 g9 kP kF hPc hFc kK kM hKc hMc hSc kS g45 g46 g47 kB kB' kS' kF' hmg hBc;rintro⟨env,⟨sto,c⟩⟩ ⟨hh,g9,kB,hBc,g45,g46,g47,g7,hSc,kS,g1,g2,kP,kF,hPc,hFc,g3,kK,kM,hKc,hMc⟩;simp only at g1 g2 g3 g7 g9 g45 g46 g47 hPc hFc hKc hMc hSc hBc;rw[if_neg (by rw[hh];simp)]at hob;have kB':∀ n',St.get ⟨sto,n'⟩ B=_:=fun _=>kB;have kS':∀ n',St.get ⟨sto,n'⟩ S=_:=fun _=>kS;have kK':∀ n',St.get ⟨sto,n'⟩ K=_:=fun _=>kK;have hmp:Nbu 2 (.s e.S) (.i .i64 ((1:Nat):Int)) (lsV seen)=some (lsV (Nk6 e.S seen)):=Ne3 e.S seen;(try rw[Z0]);(try simp(disch:=first|omega|rfl|assumption)only[↓Yaa,Yab,Nae,Naa,rB,rC,rD,rE,reduceIte,unP,rF,g1,g2,g3,g7,g9,g45,g46,g47,kB',kS',hmp,Option.map_some])
    skip
    (try rw[Z0]);(try simp(disch:=first|omega|rfl|assumption)only[↓Yaa,Yab,Nae,Naa,rB,rC,rD,rE,reduceIte,unP,rF,g1,g2,g3,g7,g9,g45,g46,g47,kB',kK',hv1]);refine NaL (fun x=>∃ Ml:Nat,(Ml≠K∧Ml≠Mk∧Ml≠F∧Ml≠Pk∧Ml≠S∧Ml≠B)∧Ml<x.st.cnt∧x.st.get Ml=some (.map (lsV []))∧x.env.get 9=.ptr B 0∧x.st.get B=some (.cells [.s e.S,slV e.z e.B.length (Sms.cs e.B),.i .i64 e.R] false)∧B<x.st.cnt∧x.env.get 45=.fsl p.T.length (p.T.flatMap Td.cs)∧x.env.get 46=.i .i64 (p.T.length:Int)∧x.env.get 47=.i .i64 (i:Int)∧x.env.get 7=.mp S∧S<x.st.cnt∧x.st.get S=some (.map (lsV (Nk6 e.S seen)))∧x.env.get 1=.ptr Pk 0∧x.env.get 2=.ptr F 0∧x.st.get Pk=some (.cells [slV p.zd p.D.length (p.D.flatMap Dc.cs),slV p.zt p.T.length (p.T.flatMap Td.cs)] false)∧x.st.get F=some (.cells [.i .i64 ((0:Nat):Int),.i .i64 ((0:Nat):Int)] false)∧Pk<x.st.cnt∧F<x.st.cnt∧x.env.get 3=.ptr K 0∧x.st.get K=some (.cells [.mp Mk,.mp Ml] false)∧x.st.get Mk=some (.map (esV es))∧K<x.st.cnt∧Mk<x.st.cnt) ?_ ?_
    ·exact⟨c+40,⟨by omega,by omega,by omega,by omega,by omega,by omega⟩,by simp only[Naz];omega,by simp(disch:=omega)only[NaG,NaN];rw[Yaf];rfl,g9,by simp(disch:=omega)only[NaG,NaN];exact kB,by simp only[Naz];omega,g45,g46,g47,g7,by simp only[Naz];omega,by simp(disch:=omega)only[NaG,NaN];rw[Yaf],g1,g2,by simp(disch:=omega)only[NaG,NaN];exact kP,by simp(disch:=omega)only[NaG,NaN];exact kF,by simp only[Naz];omega,by simp only[Naz];omega,g3,by rw[Yaf],by simp(disch:=omega)only[NaG,NaN];exact kM,by simp only[Naz];omega,by simp only[Naz];omega⟩
    clear g1 g2 g3 g7 g9 kP kF hPc hFc kK kM hKc hMc hSc kS g45 g46 g47 kB kB' kS' kK' hmp hBc;rintro⟨env,⟨sto,c⟩⟩ ⟨Ml,⟨l1,l2,l3,l4,l5,l6⟩,hLc,kL,g9,kB,hBc,g45,g46,g47,g7,hSc,kS,g1,g2,kP,kF,hPc,hFc,g3,kK,kM,hKc,hMc⟩;simp only at g1 g2 g3 g7 g9 g45 g46 g47 hPc hFc hKc hMc hSc hBc hLc;obtain⟨w,hw⟩:∃ w,Sms.chk es e.B []=w:=⟨_,rfl⟩;rw[hw]at hob;refine NaT (fun x=>w.1.1=0∧x.env.get 9=.ptr B 0∧x.st.get B=some (.cells [.s e.S,slV e.z e.B.length (Sms.cs e.B),.i .i64 e.R] false)∧B<x.st.cnt∧x.env.get 45=.fsl p.T.length (p.T.flatMap Td.cs)∧x.env.get 46=.i .i64 (p.T.length:Int)∧x.env.get 47=.i .i64 (i:Int)∧x.env.get 7=.mp S∧S<x.st.cnt∧x.st.get S=some (.map (lsV (Nk6 e.S seen)))∧x.env.get 1=.ptr Pk 0∧x.env.get 2=.ptr F 0∧x.st.get Pk=some (.cells [slV p.zd p.D.length (p.D.flatMap Dc.cs),slV p.zt p.T.length (p.T.flatMap Td.cs)] false)∧x.st.get F=some (.cells [.i .i64 ((0:Nat):Int),.i .i64 ((0:Nat):Int)] false)∧Pk<x.st.cnt∧F<x.st.cnt∧x.env.get 3=.ptr K 0∧x.st.get K=some (.cells [.mp Mk,.mp Ml] false)∧x.st.get Mk=some (.map (esV es))∧K<x.st.cnt∧Mk<x.st.cnt) ?_ ?_
    ·intro K2 hK2;have kB':∀ n',St.get ⟨sto,n'⟩ B=_:=fun _=>kB;(try rw[Z0]);(try simp(disch:=first|omega|rfl|assumption)only[↓Yaa,Yab,Nae,Naa,rB,rC,rD,rE,reduceIte,unP,rF,g1,g2,g3,g7,g9,g45,g46,g47,kB',hc.z4]);refine Nd0 (Nnm hc (es:=es) (kp:=K) (Mk:=Mk) (Ml:=Ml) l2 l1 (q+1) e.B e.z [] _ Zaa Zaa Zae Zae Zae kK kM kL) ?_;rintro r1 ⟨sto1,c1⟩ ⟨rfl,kL1,kj,hc1⟩;simp only at hc1 kj;rw[hw]at kL1 ⊢;have kF1:∀ n',St.get ⟨sto1,n'⟩ F=_:=fun n'=>(kj F Zaa (Ne.symm l3)).trans kF;by_cases h0:w.1.1=0
     ·have b0:(w.1.1 != Int.ofNat 0)=false:=by rw[h0];rfl
      iterate 4
       (try rw[Z0]);(try simp(disch:=first|omega|rfl|assumption)only[↓Yaa,Yab,Nae,Naa,rB,rC,rD,rE,reduceIte,unP,rF,g1,g2,g3,g7,g9,g45,g46,g47,b0])
      refine hK2 _ ⟨h0,by simp[Yad,g9],by simp(disch:=omega)only[NaG,NaN];exact(kj B Zaa Zaa).trans kB,by simp only[Naz];omega,by simp[Yad,g45],by simp[Yad,g46],by simp[Yad,g47],by simp[Yad,g7],by simp only[Naz];omega,by simp(disch:=omega)only[NaG,NaN];exact(kj S Zaa Zaa).trans kS,by simp[Yad,g1],by simp[Yad,g2],by simp(disch:=omega)only[NaG,NaN];exact(kj Pk Zaa Zaa).trans kP,by simp(disch:=omega)only[NaG,NaN];exact(kj F Zaa Zaa).trans kF,by simp only[Naz];omega,by simp only[Naz];omega,by simp[Yad,g3],by simp(disch:=omega)only[NaG,NaN];exact(kj K Zaa Zaa).trans kK,by simp(disch:=omega)only[NaG,NaN];exact(kj Mk Zaa Zaa).trans kM,by simp only[Naz];omega,by simp only[Naz];omega⟩
     ·have b0:(w.1.1 != Int.ofNat 0)=true:=(by simpa using h0);rw[if_neg h0]at hob;subst hob
      iterate 4
       (try rw[Z0]);(try simp(disch:=first|omega|rfl|assumption)only[↓Yaa,Yab,Nae,Naa,rB,rC,rD,rE,reduceIte,unP,rF,g1,g2,g3,g7,g9,g45,g46,g47,b0,kF1])
      exact⟨nofun,_,Ncj (by simp only[Yad,rE,if_false];exact g2) (by rw[Yaf]),rfl⟩
    clear g1 g2 g3 g7 g9 kP kF hPc hFc kK kM hKc hMc hSc kS g45 g46 g47 kB hBc kL hLc;rintro⟨env,⟨sto,c⟩⟩ ⟨hw0,g9,kB,hBc,g45,g46,g47,g7,hSc,kS,g1,g2,kP,kF,hPc,hFc,g3,kK,kM,hKc,hMc⟩;simp only at g1 g2 g3 g7 g9 g45 g46 g47 hPc hFc hKc hMc hSc hBc;rw[if_pos hw0]at hob;have kB':∀ n',St.get ⟨sto,n'⟩ B=_:=fun _=>kB;have kF':∀ n',St.get ⟨sto,n'⟩ F=_:=fun _=>kF;have gL:∀ (st:St) (key:Nat),Nam (Nak cfg (Nay cfg (q+2)) 25) false st key [slV e.z e.B.length (Sms.cs e.B)]=some (.i .i64 (Sms.runT e.B 0),st):=fun st key =>
     NaH (NaR NbI) (Nar hc.z7 NbS (fun _=>rfl) (Nn4 hc.toCfgV hc.z7 (q+1) e.B e.z _ Zaa Zaa)) rfl rfl
    by_cases h15:15000<Sms.runT e.B 0
    ·rw[if_pos h15]at hob;subst hob
     iterate 4
      (try rw[Z0]);(try simp(disch:=first|omega|rfl|assumption)only[↓Yaa,Yab,Nae,Naa,rB,rC,rD,rE,reduceIte,unP,rF,g1,g2,g3,g7,g9,g45,g46,g47,kB',kF',gL,Nag,Naf])
     exact⟨nofun,_,Ncj (by simp only[Yad,rE,if_false];exact g2) (by rw[Yaf];rfl),rfl⟩
    ·rw[if_neg h15]at hob
     iterate 4
      (try rw[Z0]);(try simp(disch:=first|omega|rfl|assumption)only[↓Yaa,Yab,Nae,Naa,rB,rC,rD,rE,reduceIte,unP,rF,g1,g2,g3,g7,g9,g45,g46,g47,kB',kF',gL,Nag,Naf])
     exact⟨p.T.length - (i+1),by omega,i+1,_,.mp Ml,rfl,by omega,hob,rfl,(Nas hil).symm,rfl,kS,kP,kK,kM⟩
   ·have h0:p.T.drop i=[]:=List.drop_of_length_le Zaa;rw[h0,Ngl]at hob
    iterate 4
     (try rw[Z0]);(try simp(disch:=first|omega|rfl|assumption)only[↓Yaa,Yab,Nae,Naa,rB,rC,rD,rE,reduceIte,unP,rF,g45,g46,g47])
    exact hK' _ ⟨hob.symm,by simp[Yad,g2],kF⟩
  ·exact⟨0,[],.nmp,rfl,by omega,by rw[List.drop_zero];exact hR,rfl,by simp[Yad],by simp[Yad],by simp[Yad],by simp[Yad,g7],by simp only;omega,kS,by simp[Yad,g1],by simp[Yad,g2],kP _,kF,by simp only;omega,by simp only;omega,by simp[Yad,g3],kK,kM,by simp only;omega,by simp only;omega⟩
 clear g1 g2 g3 g7 kP kF hPc hFc kK kM hKc hMc hSc kS;rintro⟨env,⟨sto,c⟩⟩ ⟨rfl,g2,kF⟩;simp only at g2;replace kF:∀ n',St.get ⟨sto,n'⟩ F=_:=fun _=>kF
 iterate 2
  (try rw[Z0]);(try simp(disch:=first|omega|rfl|assumption)only[↓Yaa,Yab,Nae,Naa,rB,rC,rD,rE,reduceIte,unP,rF,g2,kF])
 exact⟨nofun,_,Ncj (by exact g2) (a:=0) (b:=0) (by rw[Yaf];rfl),rfl⟩
end Go.Pe
