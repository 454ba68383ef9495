/-
 Races: how much there is of code (that there is an answer), places, walked. No condition.
-/
import Derived.Test.YtafdphmhbnjfaaaGreatDoorZCoeF
set_option linter.unusedVariables false
set_option linter.unusedSimpArgs false
set_option maxHeartbeats 8000000
open Nat renaming reduceAdd → rA,reduceMul → rB,reduceLT → rC,reduceEqDiff → rD,reduceLeDiff → rE
namespace Go.Pe
open Go Go.Am Go.RowKit
def gTrue:List PV→Option PV
 |[]=>some (.b true)
 |_=>none
structure CfgG(cfg:Cfg):Prop extends CfgA cfg where
 n2:cfg.ext 19=none
 n3:cfg.ext 18=none
 n4:cfg.ext 7=none
theorem NfK{k:IntKind}{a n p:Int}{s:List UInt8}{z:Bool}{m:Nat}(cs:List PV):NaS [.agg [.i k a,.s s,.i .i64 n,slV z m cs],.i .i64 p]=([.agg [.i k a,.s s,.i .i64 n,slV z m cs],.i .i64 p],{ sto:=.leaf,cnt:=1 }):=by
 unfold slV;split<;>rfl
theorem NkP{cfg:Cfg}(hc:CfgG cfg):∀ (fuel:Nat) (e:Ex) (lv:Int) (st:St),e.size+1≤fuel→e.wf →
 ∃ r st',NaK cfg (fuel+1) 19 [.agg e.cs,.i .i64 lv] st=some (r,st')∧∃ v,r=.i .i64 v:=by
 intro fuel
 induction fuel with
 |zero=>intro e lv st h;omega
 |succ q ih =>
   intro e lv st hfu hwf;refine NaB (hc.fn _ _ (by kernel_rfl):cfg.fn 19=some m19) ?_;delta m19 Qa Qr Qg Ql Qt Qs Qk Qm Qh Qi Qo;have hes:=Ex.size_eq e;rw[Ex.wf_eqZ]at hwf;obtain⟨-,-,hwl,hwL⟩:=hwf;have hll:=Exs.len_le e.L;have hrb:reachBytes<4611686018427387904:=(by decide);rw[Ex.cs_eq];obtain⟨k,hkk⟩:∃ k,e.K.toNat=k:=⟨_,rfl⟩;rw[hkk];have hlv:=NaC e.z e.L.length (Exs.cs e.L);have hsz:=Exs.len e.L;obtain⟨f,hf⟩:∃ f:Ex→Int,∀ x,x∈e.L→∀ (st:St) (key:Nat),Naq (Nai cfg (NaK cfg (q+1)) 19) false st key [.agg [.i .u8 (x.K.toNat:Int),.s x.S,.i .i64 x.N,slV x.z x.L.length (Exs.cs x.L)],.i .i64 (IntKind.i64.wrap (lv - ((1:Nat):Int)))]=some (.i .i64 (f x),st):=by
    have:∀ x:Ex,∃ v,x∈e.L→Nai cfg (NaK cfg (q+1)) 19 [.agg [.i .u8 (x.K.toNat:Int),.s x.S,.i .i64 x.N,slV x.z x.L.length (Exs.cs x.L)],.i .i64 (IntKind.i64.wrap (lv - ((1:Nat):Int)))]=some (.i .i64 v):=fun x=>by
     by_cases hx:x∈e.L
     ·have hm:=Exs.size_mem hx;obtain⟨r,st',h1,v,h2⟩:=ih x (IntKind.i64.wrap (lv - ((1:Nat):Int))) { sto:=.leaf,cnt:=1 } Zaa (Exs.wf_memZ hwL hx);rw[Ex.cs_eq]at h1;exact⟨v,fun _=>NaE hc.n2 (NfK _) (fun _=>rfl) ⟨r,st',h1,h2⟩⟩
     ·exact⟨0,fun h=>absurd h hx⟩
    exact⟨fun x=>Classical.choose (this x),fun x hx st key=>NaT (Na4 (Ndo _) rfl) (Classical.choose_spec (this x) hx) rfl rfl⟩
   simp only[Nao];(try rw[Z0]);(try simp(maxSteps:=9^7)(disch:=first|omega|rfl|assumption)only[↓Yaa,Yab,Nae,Naa,rA,rB,rC,rD,reduceIte,unP,rE,Nag,Naf]);refine NaJ (fun x=>∃ B:Nat,x.env.get 1=.i .i64 lv∧x.env.get 2=.ptr B 0∧B<x.st.cnt∧x.st.get B=some (.cells [.i .u8 (k:Int),.s e.S,.i .i64 e.N,slV e.z e.L.length (Exs.cs e.L)] false)) ?_ ?_
   ·exact⟨st.cnt,rfl,rfl,by simp only[Z0L_];omega,by rw[Yaf]⟩
   rintro⟨env,⟨sto,c⟩⟩ ⟨B,g1,g2,hBc,kB⟩;simp only at g1 g2 hBc;have h100:(((100:Nat):Int)=0)=False:=(by simp);have kB':∀ n',St.get ⟨sto,n'⟩ B=_:=fun _=>kB;(try rw[Z0]);(try simp(maxSteps:=9^7)(disch:=first|omega|rfl|assumption)only[↓Yaa,Yab,Nae,Naa,rA,rB,rC,rD,reduceIte,unP,rE,g1,g2,kB',h100]);refine NaJ (fun x=>∃ w:Int,x.env.get 1=.i .i64 lv∧x.env.get 2=.ptr B 0∧x.env.get 5=.i .i64 w∧x.st.get B=some (.cells [.i .u8 (k:Int),.s e.S,.i .i64 e.N,slV e.z e.L.length (Exs.cs e.L)] false)) ?_ ?_
   ·exact⟨_,by simp[Yad,g1],by simp[Yad,g2],by simp only[Yad,if_true];rfl,kB⟩
   clear g1 g2 kB kB' hBc;rintro⟨env,⟨sto,c⟩⟩ ⟨w,g1,g2,g5,kB⟩;simp only at g1 g2 g5;replace kB:∀ n',St.get ⟨sto,n'⟩ B=_:=fun _=>kB;refine NaX (fun x=>∃ w:Int,x.env.get 1=.i .i64 lv∧x.env.get 2=.ptr B 0∧x.env.get 5=.i .i64 w∧x.st.get B=some (.cells [.i .u8 (k:Int),.s e.S,.i .i64 e.N,slV e.z e.L.length (Exs.cs e.L)] false)) ?_ ?_
   ·intro K hK;by_cases h1:lv<1
    ·skip
     iterate 3
      (try rw[Z0]);(try simp(maxSteps:=9^7)(disch:=first|omega|rfl|assumption)only[↓Yaa,Yab,Nae,Naa,rA,rB,rC,rD,reduceIte,unP,rE,g1,g2,g5])
     exact⟨nofun,_,rfl,_,by simp only[NaF,Yad,if_true];rfl⟩
    ·skip
     iterate 3
      (try rw[Z0]);(try simp(maxSteps:=9^7)(disch:=first|omega|rfl|assumption)only[↓Yaa,Yab,Nae,Naa,rA,rB,rC,rD,reduceIte,unP,rE,g1,g2,g5])
     exact hK _ ⟨w,by simp[Yad,g1],by simp[Yad,g2],by simp[Yad,g5],kB _⟩
   clear g1 g2 g5 kB;rintro⟨env,⟨sto,c⟩⟩ ⟨w,g1,g2,g5,kB⟩;simp only at g1 g2 g5;replace kB:∀ n',St.get ⟨sto,n'⟩ B=_:=fun _=>kB;refine NaX (fun x=>∃ w:Int,x.env.get 5=.i .i64 w) ?_ ?_
   ·intro K hK
    iterate 2
     (try rw[Z0]);(try simp(maxSteps:=9^7)(disch:=first|omega|rfl|assumption)only[↓Yaa,Yab,Nae,Naa,rA,rB,rC,rD,reduceIte,unP,rE,g1,g2,g5])
    refine Z9 (k:=e.L.length - 0) (fun m x=>∃ (i:Nat) (w:Int),m=e.L.length - i∧i≤e.L.length∧x.env.get 1=.i .i64 lv∧x.env.get 2=.ptr B 0∧x.env.get 5=.i .i64 w∧x.env.get 6=.i .i64 (i:Int)∧x.st.get B=some (.cells [.i .u8 (k:Int),.s e.S,.i .i64 e.N,slV e.z e.L.length (Exs.cs e.L)] false)) ?_ ?_ Zaa
    ·clear g1 g2 g5 kB w;rintro m ⟨env,⟨sto,c⟩⟩ ⟨i,w,rfl,hi,g1,g2,g5,g6,kB⟩;simp only at g1 g2 g5 g6;by_cases hil:i<e.L.length
     ·have hlv2:=hlv;rw[NaD hil]at kB hlv2;have kB':∀ n',St.get ⟨sto,n'⟩ B=_:=fun _=>kB;by_cases hw:w≤10000
      ·have hld:=fun st=>NdM (st:=st) hil;have gX:=hf e.L[i] (List.getElem_mem hil)
       iterate 6
        (try rw[Z0]);(try simp(maxSteps:=9^7)(disch:=first|omega|rfl|assumption)only[↓Yaa,Yab,Nae,Naa,rA,rB,rC,rD,reduceIte,unP,rE,g1,g2,g5,g6,kB',hlv2,hld,hsz,Naf,Nag,gX])
       exact⟨e.L.length - (i+1),by omega,i+1,_,rfl,by omega,rfl,rfl,by rw[NaD hil]⟩
      ·skip
       iterate 3
        (try rw[Z0]);(try simp(maxSteps:=9^7)(disch:=first|omega|rfl|assumption)only[↓Yaa,Yab,Nae,Naa,rA,rB,rC,rD,reduceIte,unP,rE,g1,g2,g5,g6,kB',hlv2,Naf,Nag])
       exact hK _ ⟨w,by simp[Yad,g5]⟩
     ·replace kB:∀ n',St.get ⟨sto,n'⟩ B=_:=fun _=>kB
      iterate 4
       (try rw[Z0]);(try simp(maxSteps:=9^7)(disch:=first|omega|rfl|assumption)only[↓Yaa,Yab,Nae,Naa,rA,rB,rC,rD,reduceIte,unP,rE,g1,g2,g5,g6,kB,hlv,Naf,Nag])
      exact hK _ ⟨w,by simp[Yad,g5]⟩
    ·exact⟨0,w,rfl,by omega,by simp[Yad,g1],by simp[Yad,g2],by simp[Yad,g5],by simp[Yad],kB _⟩
   rintro⟨env,⟨sto,c⟩⟩ ⟨w,g5⟩;simp only at g5
   iterate 2
    (try rw[Z0]);(try simp(maxSteps:=9^7)(disch:=first|omega|rfl|assumption)only[↓Yaa,Yab,Nae,Naa,rA,rB,rC,rD,reduceIte,unP,rE,g5])
   exact⟨nofun,_,rfl,w,by simp only[NaF,Yad,if_true]⟩
theorem Nmp{cfg:Cfg}(hc:CfgG cfg){fuel:Nat}{e:Ex}{lv:Int}(hfu:e.size+1≤fuel)(hwf:e.wf):∃ v,Nai cfg (NaK cfg (fuel+1)) 19 [.agg e.cs,.i .i64 lv]=some (.i .i64 v):=by
 obtain⟨r,st',h1,v,h2⟩:=NkP hc fuel e lv { sto:=.leaf,cnt:=1 } hfu hwf;refine⟨v,NaE hc.n2 ?_ (fun _=>rfl) ⟨r,st',h1,h2⟩⟩;rw[Ex.cs_eq];exact NfK _
theorem Nio{st:St}{l:List Tx}{i:Nat}(h:i<l.length):Nbh st 1 (.fptr (((l.flatMap Tx.cs).drop (i * 3)).drop 1))=some [slV l[i].zl l[i].L.length (l[i].L.flatMap fun s=>[.s s])]∧Nbh st 1 (.fptr (((l.flatMap Tx.cs).drop (i * 3)).drop 2))=some [slV l[i].zc l[i].C.length (l[i].C.flatMap In.cs)]:=by
 rw[Nb6 Tx.cs_len h];refine⟨?_,?_⟩<;>(show cut? _ 0 1=_;unfold cut?;rw[if_pos (by simp[Tx.cs])];rfl)
theorem NlQ{cfg:Cfg}(hc:CfgG cfg){F:Nat}{cd:Cd}{st:St}(hwf:cd.wf)(hF:CdF cd F) :
 ∃ r st',NaK cfg (F+50) 7 [.agg (Cd.cs cd)] st=some (r,st')∧∃ b,r=.b b:=by
 refine NaB (hc.fn _ _ (by kernel_rfl):cfg.fn 7=some m7) ?_;delta m7 Qa Qr Qf Qg Ql Qt Qn Qs Qk Qm Qh Qi Qo Qw;obtain⟨X,hX⟩:∃ X:PV→Prop,X=fun r=>∃ b,r=.b b:=⟨_,rfl⟩
 simp only[show ∀ r,(∃ b,r=PV.b b)=X r from fun _=>by rw[hX]];have fin:∀ b,X (.b b):=fun b=>by subst hX;exact⟨b,rfl⟩
 obtain⟨hwO,hwT,hwo,hwt⟩:=hwf;have hFo:=hF.o;have hFt:=hF.t;have hrb:reachBytes<4611686018427387904:=by decide
 have lO:=NaC cd.zo cd.O.length (cd.O.flatMap Dc.cs);have lT:=NaC cd.zt cd.T.length (cd.T.flatMap Tx.cs);have hT:=NaM Tx.cs_len cd.T;obtain⟨sto0,c0⟩:=st;rw[show Cd.cs cd=[slV cd.zo cd.O.length (cd.O.flatMap Dc.cs),slV cd.zt cd.T.length (cd.T.flatMap Tx.cs)]from rfl];simp only[Nao]
 iterate 2
  (try rw[Z0]);(try simp(maxSteps:=9^7)(disch:=first|omega|rfl|assumption)only[↓Yaa,Yab,Nae,Naa,rA,rB,rC,rD,reduceIte,unP,rE,Nag,Naf,lO,lT])
 refine NaJ (fun x=>∃ (A:Nat) (w0:Int),A<x.st.cnt∧x.env.get 1=.ptr A 0∧x.env.get 3=.i .i64 w0∧x.st.get A=some (.cells [slV cd.zo cd.O.length (cd.O.flatMap Dc.cs),slV cd.zt cd.T.length (cd.T.flatMap Tx.cs)] false)) ?_ ?_
 ·refine⟨c0,_,?_,Zab,(by simp only[Yad,if_true,rD,if_false];rfl),?_⟩<;>first|with_reducible rfl|with_reducible assumption|exact kA _|omega|(simp only[Z0L_,Nax];omega)|(simp only;omega)|(simp(disch:=omega)only[Nar,Nas,Yaf];first|done|with_reducible rfl|with_reducible assumption)
 rintro⟨env,⟨sto,c⟩⟩ ⟨A,w0,bA,g1,g3,kA⟩;try simp only at bA g1 g3
 replace kA:∀ n',St.get ⟨sto,n'⟩ A=some (.cells [slV cd.zo cd.O.length (cd.O.flatMap Dc.cs),slV cd.zt cd.T.length (cd.T.flatMap Tx.cs)] false):=fun _=>kA;refine NaX (fun x=>(∃ w,x.env.get 3=.i .i64 w)) ?_ ?_
 ·intro K1 hK1
  iterate 2
   (try rw[Z0]);(try simp(maxSteps:=9^7)(disch:=first|omega|rfl|assumption)only[↓Yaa,Yab,Nae,Naa,rA,rB,rC,rD,reduceIte,unP,rE,g1,g3,kA,lT])
  refine Z9 (k:=cd.T.length - 0) (fun m x=>∃ (i:Nat),m=cd.T.length - i∧A<x.st.cnt∧x.env.get 1=.ptr A 0∧x.st.get A=some (.cells [slV cd.zo cd.O.length (cd.O.flatMap Dc.cs),slV cd.zt cd.T.length (cd.T.flatMap Tx.cs)] false)∧x.env.get 17=.i .i64 (cd.T.length:Int)∧x.env.get 18=.i .i64 (i:Int)∧(i≤cd.T.length)∧(∃ w,x.env.get 3=.i .i64 w)) ?_ ?_ Zaa
  ·clear bA g1 g3 kA;rintro m ⟨env,⟨sto,c⟩⟩ ⟨i,rfl,bA,g1,kA,g17,g18,hi,nw⟩;try simp only at bA g1 g17 g18 nw
   replace kA:∀ n',St.get ⟨sto,n'⟩ A=some (.cells [slV cd.zo cd.O.length (cd.O.flatMap Dc.cs),slV cd.zt cd.T.length (cd.T.flatMap Tx.cs)] false):=fun _=>kA;obtain⟨w1,g3⟩:=nw;by_cases hil:i<cd.T.length
   ·obtain⟨d,hd⟩:∃ d,cd.T[i]=d:=⟨_,rfl⟩;have hdm:d∈cd.T:=hd▸List.getElem_mem hil;have hldL:=fun st=>(Nio (st:=st) hil).1;have hldC:=fun st=>(Nio (st:=st) hil).2;simp only[hd]at hldL hldC;have lL:=NaC d.zl d.L.length (d.L.flatMap fun s=>[.s s]);have lC:=NaC d.zc d.C.length (d.C.flatMap In.cs);have hz:=NaD (z:=cd.zt) (cs:=cd.T.flatMap Tx.cs) hil;have hFc:=hF.c d hdm;have hCr:=(hwt d hdm).2.2.1;rw[hz]at kA ⊢
    iterate 7
     (try rw[Z0]);(try simp(maxSteps:=9^7)(disch:=first|omega|rfl|assumption)only[↓Yaa,Yab,Nae,Naa,rA,rB,rC,rD,reduceIte,unP,rE,g1,kA,g17,g18,g3,hldL,hldC,hT,lL,lC])
    refine Z9 (k:=d.C.length - 0) (fun m x=>∃ (k:Nat),m=d.C.length - k∧A<x.st.cnt∧x.env.get 1=.ptr A 0∧x.st.get A=some (.cells [slV cd.zo cd.O.length (cd.O.flatMap Dc.cs),.fsl cd.T.length (cd.T.flatMap Tx.cs)] false)∧x.env.get 17=.i .i64 (cd.T.length:Int)∧x.env.get 18=.i .i64 (i:Int)∧x.env.get 4=.i .i64 (i:Int)∧x.env.get 5=.i .i64 (k:Int)∧(k≤d.C.length)∧(∃ w,x.env.get 3=.i .i64 w)) ?_ ?_ Zaa
    ·clear bA g1 kA g17 g18 g3;rintro m ⟨env,⟨sto,c⟩⟩ ⟨k,rfl,bA,g1,kA,g17,g18,g4,g5,hkc,nw2⟩;try simp only at bA g1 g17 g18 g4 g5 nw2
     replace kA:∀ n',St.get ⟨sto,n'⟩ A=some (.cells [slV cd.zo cd.O.length (cd.O.flatMap Dc.cs),.fsl cd.T.length (cd.T.flatMap Tx.cs)] false):=fun _=>kA;obtain⟨w2,g3⟩:=nw2;by_cases hkl:k<d.C.length
     ·by_cases hw6:w2≤6000
      ·obtain⟨ix,hx⟩:∃ ix,d.C[k]=ix:=⟨_,rfl⟩;have hxm:ix∈d.C:=hx▸List.getElem_mem hkl;have hFa:=hF.a d hdm ix hxm;have hxw:=(hwt d hdm).2.2.2.2 ix hxm;have hAr:=hxw.2.2.2.2.2.1;have hldA:=fun st=>Nin (st:=st) hkl;simp only[hx]at hldA;have hCl:=NaM In.cs_len d.C;have hzc:=NaD (z:=d.zc) (cs:=d.C.flatMap In.cs) hkl;have hldC2:=hldC;have lC2:=lC;rw[hzc]at hldC2 lC2;have lA:=NaC ix.z ix.A.length (Exs.cs ix.A);have hsz:=Exs.len ix.A;have hAl:=Exs.len_le ix.A
       iterate 7
        (try rw[Z0]);(try simp(maxSteps:=9^7)(disch:=first|omega|rfl|assumption)only[↓Yaa,Yab,Nae,Naa,rA,rB,rC,rD,reduceIte,unP,rE,g1,kA,g17,g18,g4,g5,g3,hldC2,hT,lC2,hCl,hldA,lA])
       refine Z9 (k:=ix.A.length - 0) (fun m x=>∃ (m':Nat),m=ix.A.length - m'∧A<x.st.cnt∧x.env.get 1=.ptr A 0∧x.st.get A=some (.cells [slV cd.zo cd.O.length (cd.O.flatMap Dc.cs),.fsl cd.T.length (cd.T.flatMap Tx.cs)] false)∧x.env.get 17=.i .i64 (cd.T.length:Int)∧x.env.get 18=.i .i64 (i:Int)∧x.env.get 4=.i .i64 (i:Int)∧x.env.get 5=.i .i64 (k:Int)∧x.env.get 62=slV ix.z ix.A.length (Exs.cs ix.A)∧x.env.get 63=.i .i64 (ix.A.length:Int)∧x.env.get 64=.i .i64 (m':Int)∧(m'≤ix.A.length)∧(∃ w,x.env.get 3=.i .i64 w)) ?_ ?_ Zaa
       ·clear bA g1 kA g17 g18 g4 g5 g3;rintro m ⟨env,⟨sto,c⟩⟩ ⟨m',rfl,bA,g1,kA,g17,g18,g4,g5,g62,g63,g64,hmc,nw3⟩;try simp only at bA g1 g17 g18 g4 g5 g62 g63 g64 hmc nw3
        replace kA:∀ n',St.get ⟨sto,n'⟩ A=some (.cells [slV cd.zo cd.O.length (cd.O.flatMap Dc.cs),.fsl cd.T.length (cd.T.flatMap Tx.cs)] false):=fun _=>kA;obtain⟨w3,g3⟩:=nw3;by_cases hml:m'<ix.A.length
        ·rw[NaD hml]at g62;obtain⟨u,hu⟩:∃ u,ix.A[m']=u:=⟨_,rfl⟩;have hld:=fun st=>NdM (st:=st) hml;simp only[hu]at hld;have hum:u∈ix.A:=hu▸List.getElem_mem hml;have hsm:=Exs.size_mem hum;obtain⟨v,hv⟩:=Nmp (fuel:=F+48) (lv:=((60:Nat):Int)) hc (show u.size+1≤F+48 by omega) (Exs.wf_memZ hxw.2.2.2.2.2.2 hum);rw[Ex.cs_eq]at hv;have gS:∀ (st:St) (key:Nat),Naq (Nai cfg (NaK cfg (F+49)) 19) false st key [.agg [.i .u8 (u.K.toNat:Int),.s u.S,.i .i64 u.N,slV u.z u.L.length (Exs.cs u.L)],.i .i64 ((60:Nat):Int)]=some (.i .i64 v,st):=fun st key=>NaT (Na4 (Ndo _) rfl) hv rfl rfl
         iterate 6
          (try rw[Z0]);(try simp(maxSteps:=9^7)(disch:=first|omega|rfl|assumption)only[↓Yaa,Yab,Nae,Naa,rA,rB,rC,rD,reduceIte,unP,rE,g1,kA,g17,g18,g4,g5,g62,g63,g64,g3,hld,hsz,Nag,Naf,gS])
         exact⟨ix.A.length - (m'+1),by omega,m'+1,rfl,(NaD hml).symm,(by first|rfl|rw[NbI _ ⟨by omega,by omega⟩]),by omega,_,rfl⟩
        ·skip
         iterate 6
          (try rw[Z0]);(try simp(maxSteps:=9^7)(disch:=first|omega|rfl|assumption)only[↓Yaa,Yab,Nae,Naa,rA,rB,rC,rD,reduceIte,unP,rE,g1,kA,g17,g18,g4,g5,g62,g63,g64,g3])
         exact⟨d.C.length - (k+1),by omega,k+1,rfl,rfl,by omega,w3,rfl⟩
       ·skip
        refine⟨0,rfl,?_,(by simp[Yad,g1]),?_,(by simp[Yad,g17]),(by simp[Yad,g18]),(by simp[Yad,g4]),(by simp[Yad,g5]),Zaf,Zaf,Zaf,?_,⟨w2,by simp[Yad,g3]⟩⟩<;>first|with_reducible rfl|with_reducible assumption|exact kA _|omega|(simp only[Z0L_,Nax];omega)|(simp only;omega)|(simp(disch:=omega)only[Nar,Nas,Yaf,kA];first|done|with_reducible rfl|with_reducible assumption)|assumption|rfl|(simp;omega)|(simp;done)
      ·skip
       iterate 6
        (try rw[Z0]);(try simp(maxSteps:=9^7)(disch:=first|omega|rfl|assumption)only[↓Yaa,Yab,Nae,Naa,rA,rB,rC,rD,reduceIte,unP,rE,g1,kA,g17,g18,g4,g5,g3,hldC,hT,lC])
       exact⟨cd.T.length - (i+1),by omega,i+1,rfl,rfl,by omega,w2,rfl⟩
     ·skip
      iterate 6
       (try rw[Z0]);(try simp(maxSteps:=9^7)(disch:=first|omega|rfl|assumption)only[↓Yaa,Yab,Nae,Naa,rA,rB,rC,rD,reduceIte,unP,rE,g1,kA,g17,g18,g4,g5,g3,hldC,hT,lC])
      exact⟨cd.T.length - (i+1),by omega,i+1,rfl,rfl,by omega,w2,rfl⟩
    ·skip
     refine⟨0,rfl,?_,(by simp[Yad,g1]),?_,(by simp[Yad,g17]),(by simp[Yad,g18]),Zaf,Zaf,?_,⟨_,by simp only[Yad,if_true,rD,if_false];rfl⟩⟩<;>first|with_reducible rfl|with_reducible assumption|exact kA _|omega|(simp only[Z0L_,Nax];omega)|(simp only;omega)|(simp(disch:=omega)only[Nar,Nas,Yaf,kA];first|done|with_reducible rfl|with_reducible assumption)|assumption|rfl|(simp;omega)|(simp;done)
   ·skip
    iterate 5
     (try rw[Z0]);(try simp(maxSteps:=9^7)(disch:=first|omega|rfl|assumption)only[↓Yaa,Yab,Nae,Naa,rA,rB,rC,rD,reduceIte,unP,rE,g1,kA,g17,g18,g3])
    exact hK1 _ ⟨w1,by simp[Yad,g3]⟩
  ·skip
   refine⟨0,rfl,?_,(by simp[Yad,g1]),?_,Zaf,Zaf,?_,⟨w0,by simp[Yad,g3]⟩⟩<;>first|with_reducible rfl|with_reducible assumption|exact kA _|omega|(simp only[Z0L_,Nax];omega)|(simp only;omega)|(simp(disch:=omega)only[Nar,Nas,Yaf,kA];first|done|with_reducible rfl|with_reducible assumption)|assumption|rfl|(simp;omega)|(simp;done)
 clear bA g1 g3 kA;rintro⟨env,⟨sto,c⟩⟩ nw;try simp only at nw
 obtain⟨w,g3⟩:=nw
 iterate 3
  (try rw[Z0]);(try simp(maxSteps:=9^7)(disch:=first|omega|rfl|assumption)only[↓Yaa,Yab,Nae,Naa,rA,rB,rC,rD,reduceIte,unP,rE,g3])
 exact⟨nofun,_,rfl,by simp only[NaF,Yad,if_true];exact fin _⟩
theorem NjU{cfg:Cfg}(hc:CfgG cfg){F:Nat}{cd:Cd}(hwf:cd.wf)(hF:CdF cd F):∃ b,Nai cfg (NaK cfg (F+50)) 7 [.agg (Cd.cs cd)]=some (.b b):=by
 obtain⟨r,st',h1,b,h2⟩:=NlQ (st:={ sto:=.leaf,cnt:=1 }) hc hwf hF;exact⟨b,NaE hc.n4 Ng6 (fun _=>rfl) ⟨r,st',h1,h2⟩⟩
end Go.Pe
