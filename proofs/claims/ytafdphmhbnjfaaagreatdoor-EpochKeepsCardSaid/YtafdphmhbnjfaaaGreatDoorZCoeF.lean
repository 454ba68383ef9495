/-
 Code: Check (that there is an answer, and what it says of objects), walked. No condition.
-/
import Derived.Test.YtafdphmhbnjfaaaGreatDoorZCoeE
set_option linter.unusedVariables false
set_option linter.unusedSimpArgs false
set_option maxHeartbeats 8000000
open Nat renaming reduceAdd → rA,reduceMul → rB,reduceLT → rC,reduceEqDiff → rD,reduceLeDiff → rE
namespace Go.Pe
open Go Go.Am Go.RowKit
structure CdF(cd:Cd)(F:Nat):Prop where
 o:cd.O.length≤F
 t:cd.T.length≤F
 c:∀ t,t∈cd.T→t.C.length≤F
 a:∀ t,t∈cd.T→∀ x,x∈t.C→Exs.size x.A+x.A.length+100≤F
def OkC(cd:Cd):Prop:=cd.O.length≤64∧cd.T.length≤16
theorem NjD{st:St}{d:Dc}:Go.Pe.deep st 12 (.agg (Dc.cs d))=some (.agg (Dc.cs d)):=rfl
theorem Nin{st:St}{l:List In}{i:Nat}(h:i<l.length):Nbh st 1 (.fptr (((l.flatMap In.cs).drop (i * 7)).drop 6))=some [slV l[i].z l[i].A.length (Exs.cs l[i].A)]:=by
 rw[Nb6 In.cs_len h];show cut? _ 0 1=_;unfold cut?;rw[if_pos (by simp[In.cs])];rfl
theorem NiT{cfg:Cfg}(hc:CfgZ cfg){F:Nat}{cd:Cd}{st:St}(hwf:cd.wf)(hF:CdF cd F) :
 ∃ r st',NaK cfg (F+50) 47 [.agg (Cd.cs cd)] st=some (r,st')∧∃ ck,r=.i .i64 ck∧(ck=0→OkC cd∧∀ d,d∈cd.O→Ngr cd d=true):=by
 refine NaB (hc.fn _ _ (by kernel_rfl):cfg.fn 47=some m47) ?_;delta m47 Qa Qr Qg Ql Qt Qn Qs Qk Qm Qh Qi Qu Qv Qo Qw;obtain⟨X,hX⟩:∃ X:PV→Prop,X=fun r=>∃ ck,r=.i .i64 ck∧(ck=0→OkC cd∧∀ d,d∈cd.O→Ngr cd d=true):=⟨_,rfl⟩
 simp only[show ∀ r,(∃ ck,r=PV.i .i64 ck∧(ck=0→OkC cd∧∀ d,d∈cd.O→Ngr cd d=true))=X r from fun _=>by rw[hX]];obtain⟨hwO,hwT,hwo,hwt⟩:=hwf;have hFo:=hF.o;have hFt:=hF.t;have hrb:reachBytes<4611686018427387904:=by decide
 have lO:=NaC cd.zo cd.O.length (cd.O.flatMap Dc.cs);have lT:=NaC cd.zt cd.T.length (cd.T.flatMap Tx.cs);have hO:=NaM Dc.cs_len cd.O;have hT:=NaM Tx.cs_len cd.T;have gO:∀ (d:Dc) (st:St) (key:Nat),Naq (Nai cfg (NaK cfg (F+49)) 80) false st key [.agg [slV cd.zo cd.O.length (cd.O.flatMap Dc.cs),slV cd.zt cd.T.length (cd.T.flatMap Tx.cs)],.agg [.i .u8 (d.K.toNat:Int),.s d.S,.i .i64 d.N,.s d.O,.i .i64 d.R]]=some (.b (Ngr cd d),st):=fun d st key =>
  NaT (Na4 Nbu NjD) (NhJ hc) rfl rfl
 obtain⟨sto0,c0⟩:=st;rw[show Cd.cs cd=[slV cd.zo cd.O.length (cd.O.flatMap Dc.cs),slV cd.zt cd.T.length (cd.T.flatMap Tx.cs)]from rfl];simp only[Nao];(try rw[Z0]);(try simp(maxSteps:=9^7)(disch:=first|omega|rfl|assumption)only[↓Yaa,Yab,Nae,Naa,rA,rB,rC,rD,reduceIte,unP,rE,Nag,Naf]);refine NaJ (fun x=>∃ (A:Nat),A<x.st.cnt∧x.env.get 1=.ptr A 0∧x.st.get A=some (.cells [slV cd.zo cd.O.length (cd.O.flatMap Dc.cs),slV cd.zt cd.T.length (cd.T.flatMap Tx.cs)] false)) ?_ ?_
 ·refine⟨c0,?_,Zab,?_⟩<;>first|with_reducible rfl|with_reducible assumption|exact kA _|omega|(simp only[Z0L_,Nax];omega)|(simp only;omega)|(simp(disch:=omega)only[Nar,Nas,Yaf];first|done|with_reducible rfl|with_reducible assumption)
 rintro⟨env,⟨sto,c⟩⟩ ⟨A,bA,g1,kA⟩;try simp only at bA g1
 replace kA:∀ n',St.get ⟨sto,n'⟩ A=some (.cells [slV cd.zo cd.O.length (cd.O.flatMap Dc.cs),slV cd.zt cd.T.length (cd.T.flatMap Tx.cs)] false):=fun _=>kA;refine NaX (fun x=>A<x.st.cnt∧x.env.get 1=.ptr A 0∧x.st.get A=some (.cells [slV cd.zo cd.O.length (cd.O.flatMap Dc.cs),slV cd.zt cd.T.length (cd.T.flatMap Tx.cs)] false)∧(∃ b,x.env.get 3=.b b∧(b=false→OkC cd))) ?_ ?_
 ·intro K1 hK1;by_cases c1:64<cd.O.length
  ·skip
   (try rw[Z0]);(try simp(maxSteps:=9^7)(disch:=first|omega|rfl|assumption)only[↓Yaa,Yab,Nae,Naa,rA,rB,rC,rD,reduceIte,unP,rE,g1,kA,lO,lT]);refine hK1 _ ⟨?_,(by simp[Yad,g1]),?_,⟨true,by simp[Yad],nofun⟩⟩<;>first|with_reducible rfl|with_reducible assumption|exact kA _|omega|(simp only[Z0L_,Nax];omega)|(simp only;omega)|(simp(disch:=omega)only[Nar,Nas,Yaf,kA];first|done|with_reducible rfl|with_reducible assumption)
  ·by_cases c2:16<cd.T.length
   ·skip
    (try rw[Z0]);(try simp(maxSteps:=9^7)(disch:=first|omega|rfl|assumption)only[↓Yaa,Yab,Nae,Naa,rA,rB,rC,rD,reduceIte,unP,rE,g1,kA,lO,lT]);refine hK1 _ ⟨?_,(by simp[Yad,g1]),?_,⟨true,by simp[Yad],nofun⟩⟩<;>first|with_reducible rfl|with_reducible assumption|exact kA _|omega|(simp only[Z0L_,Nax];omega)|(simp only;omega)|(simp(disch:=omega)only[Nar,Nas,Yaf,kA];first|done|with_reducible rfl|with_reducible assumption)
   ·skip
    (try rw[Z0]);(try simp(maxSteps:=9^7)(disch:=first|omega|rfl|assumption)only[↓Yaa,Yab,Nae,Naa,rA,rB,rC,rD,reduceIte,unP,rE,g1,kA,lO,lT]);refine hK1 _ ⟨?_,(by simp[Yad,g1]),?_,⟨false,by simp[Yad],fun _=>⟨by omega,by omega⟩⟩⟩<;>first|with_reducible rfl|with_reducible assumption|exact kA _|omega|(simp only[Z0L_,Nax];omega)|(simp only;omega)|(simp(disch:=omega)only[Nar,Nas,Yaf,kA];first|done|with_reducible rfl|with_reducible assumption)
 clear bA g1 kA;rintro⟨env,⟨sto,c⟩⟩ ⟨bA,g1,kA,bd⟩;try simp only at bA g1 bd
 replace kA:∀ n',St.get ⟨sto,n'⟩ A=some (.cells [slV cd.zo cd.O.length (cd.O.flatMap Dc.cs),slV cd.zt cd.T.length (cd.T.flatMap Tx.cs)] false):=fun _=>kA;refine NaX (fun x=>A<x.st.cnt∧x.env.get 1=.ptr A 0∧x.st.get A=some (.cells [slV cd.zo cd.O.length (cd.O.flatMap Dc.cs),slV cd.zt cd.T.length (cd.T.flatMap Tx.cs)] false)∧(∃ b,x.env.get 3=.b b∧(b=false→OkC cd∧∀ d,d∈cd.O→Ngr cd d=true))) ?_ ?_
 ·intro K2 hK2;obtain⟨b0,g3,hb0⟩:=bd
  iterate 2
   (try rw[Z0]);(try simp(maxSteps:=9^7)(disch:=first|omega|rfl|assumption)only[↓Yaa,Yab,Nae,Naa,rA,rB,rC,rD,reduceIte,unP,rE,g1,kA,g3,lO])
  refine Z9 (k:=cd.O.length - 0) (fun m x=>∃ (i:Nat),m=cd.O.length - i∧A<x.st.cnt∧x.env.get 1=.ptr A 0∧x.st.get A=some (.cells [slV cd.zo cd.O.length (cd.O.flatMap Dc.cs),slV cd.zt cd.T.length (cd.T.flatMap Tx.cs)] false)∧x.env.get 20=slV cd.zo cd.O.length (cd.O.flatMap Dc.cs)∧x.env.get 21=.i .i64 (cd.O.length:Int)∧x.env.get 22=.i .i64 (i:Int)∧(i≤cd.O.length)∧(∃ b,x.env.get 3=.b b∧(b=false→OkC cd∧∀ d,d∈cd.O.take i→Ngr cd d=true))) ?_ ?_ Zaa
  ·clear bA g1 kA g3;rintro m ⟨env,⟨sto,c⟩⟩ ⟨i,rfl,bA,g1,kA,g20,g21,g22,hi,bd⟩;try simp only at bA g1 g20 g21 g22 bd
   replace kA:∀ n',St.get ⟨sto,n'⟩ A=some (.cells [slV cd.zo cd.O.length (cd.O.flatMap Dc.cs),slV cd.zt cd.T.length (cd.T.flatMap Tx.cs)] false):=fun _=>kA;obtain⟨b1,g3,hb1⟩:=bd;by_cases hil:i<cd.O.length
   ·obtain⟨d,hd⟩:∃ d,cd.O[i]=d:=⟨_,rfl⟩;have hld:=fun st=>Nge (st:=st) hil;simp only[hd]at hld;have htk:∀ d',d'∈cd.O.take (i+1)→d'∈cd.O.take i∨d'=d:=fun d' h=>by
     rw[List.take_succ_eq_append_getElem hil,hd]at h;simpa using h
    have hz:=NaD (z:=cd.zo) (cs:=cd.O.flatMap Dc.cs) hil;rw[hz]at g20;cases b1 with
    |true =>
      iterate 6
       (try rw[Z0]);(try simp(maxSteps:=9^7)(disch:=first|omega|rfl|assumption)only[↓Yaa,Yab,Nae,Naa,rA,rB,rC,rD,reduceIte,unP,rE,g1,kA,g20,g21,g22,g3,hld,hO,lO])
      exact⟨cd.O.length - (i+1),by omega,i+1,rfl,hz.symm,rfl,by omega,true,rfl,nofun⟩
    |false =>
      cases hob:Ngr cd d with
      |true =>
        iterate 6
         (try rw[Z0]);(try simp(maxSteps:=9^7)(disch:=first|omega|rfl|assumption)only[↓Yaa,Yab,Nae,Naa,rA,rB,rC,rD,reduceIte,unP,rE,g1,kA,g20,g21,g22,g3,hld,hO,lO,Nag,Naf,gO,hob])
        exact⟨cd.O.length - (i+1),by omega,i+1,rfl,hz.symm,rfl,by omega,false,rfl,fun _=>⟨(hb1 rfl).1,fun d' hd'=>by
         rcases htk d' hd' with h|h
         ·exact(hb1 rfl).2 d' h
         ·rw[h];exact hob⟩⟩
      |false =>
        iterate 6
         (try rw[Z0]);(try simp(maxSteps:=9^7)(disch:=first|omega|rfl|assumption)only[↓Yaa,Yab,Nae,Naa,rA,rB,rC,rD,reduceIte,unP,rE,g1,kA,g20,g21,g22,g3,hld,hO,lO,Nag,Naf,gO,hob])
        exact⟨cd.O.length - (i+1),by omega,i+1,rfl,hz.symm,rfl,by omega,true,rfl,nofun⟩
   ·skip
    iterate 5
     (try rw[Z0]);(try simp(maxSteps:=9^7)(disch:=first|omega|rfl|assumption)only[↓Yaa,Yab,Nae,Naa,rA,rB,rC,rD,reduceIte,unP,rE,g1,kA,g20,g21,g22,g3])
    refine hK2 _ ⟨?_,(by simp[Yad,g1]),?_,⟨b1,by simp[Yad,g3],fun h=>⟨(hb1 h).1,fun d hd=>(hb1 h).2 d (by rw[List.take_of_length_le (by omega)];exact hd)⟩⟩⟩<;>first|with_reducible rfl|with_reducible assumption|exact kA _|omega|(simp only[Z0L_,Nax];omega)|(simp only;omega)|(simp(disch:=omega)only[Nar,Nas,Yaf,kA];first|done|with_reducible rfl|with_reducible assumption)
  ·skip
   refine⟨0,rfl,?_,(by simp[Yad,g1]),?_,Zaf,Zaf,Zaf,?_,⟨b0,by simp[Yad,g3],fun h=>⟨hb0 h,by simp⟩⟩⟩<;>first|with_reducible rfl|with_reducible assumption|exact kA _|omega|(simp only[Z0L_,Nax];omega)|(simp only;omega)|(simp(disch:=omega)only[Nar,Nas,Yaf,kA];first|done|with_reducible rfl|with_reducible assumption)|assumption|rfl|(simp;omega)|(simp;done)
 clear bA g1 kA bd;rintro⟨env,⟨sto,c⟩⟩ ⟨bA,g1,kA,bd⟩;try simp only at bA g1 bd
 replace kA:∀ n',St.get ⟨sto,n'⟩ A=some (.cells [slV cd.zo cd.O.length (cd.O.flatMap Dc.cs),slV cd.zt cd.T.length (cd.T.flatMap Tx.cs)] false):=fun _=>kA;refine NaX (fun x=>A<x.st.cnt∧x.env.get 1=.ptr A 0∧x.st.get A=some (.cells [slV cd.zo cd.O.length (cd.O.flatMap Dc.cs),slV cd.zt cd.T.length (cd.T.flatMap Tx.cs)] false)∧(∃ b,x.env.get 3=.b b∧(b=false→OkC cd∧∀ d,d∈cd.O→Ngr cd d=true))) ?_ ?_
 ·intro K3 hK3;obtain⟨b0,g3,hb0⟩:=bd
  iterate 2
   (try rw[Z0]);(try simp(maxSteps:=9^7)(disch:=first|omega|rfl|assumption)only[↓Yaa,Yab,Nae,Naa,rA,rB,rC,rD,reduceIte,unP,rE,g1,kA,g3,lT])
  refine Z9 (k:=cd.T.length - 0) (fun m x=>∃ (i:Nat),m=cd.T.length - i∧A<x.st.cnt∧x.env.get 1=.ptr A 0∧x.st.get A=some (.cells [slV cd.zo cd.O.length (cd.O.flatMap Dc.cs),slV cd.zt cd.T.length (cd.T.flatMap Tx.cs)] false)∧x.env.get 35=slV cd.zt cd.T.length (cd.T.flatMap Tx.cs)∧x.env.get 36=.i .i64 (cd.T.length:Int)∧x.env.get 37=.i .i64 (i:Int)∧(i≤cd.T.length)∧(∃ b,x.env.get 3=.b b∧(b=false→OkC cd∧∀ d,d∈cd.O→Ngr cd d=true))) ?_ ?_ Zaa
  ·clear bA g1 kA g3;rintro m ⟨env,⟨sto,c⟩⟩ ⟨i,rfl,bA,g1,kA,g35,g36,g37,hi,bd⟩;try simp only at bA g1 g35 g36 g37 bd
   replace kA:∀ n',St.get ⟨sto,n'⟩ A=some (.cells [slV cd.zo cd.O.length (cd.O.flatMap Dc.cs),slV cd.zt cd.T.length (cd.T.flatMap Tx.cs)] false):=fun _=>kA;obtain⟨b1,g3,hb1⟩:=bd;by_cases hil:i<cd.T.length
   ·obtain⟨d,hd⟩:∃ d,cd.T[i]=d:=⟨_,rfl⟩;have hdm:d∈cd.T:=hd▸List.getElem_mem hil;have hld:=fun st=>Nkc (st:=st) hil;simp only[hd]at hld;have lL:=NaC d.zl d.L.length (d.L.flatMap fun s=>[.s s]);have lC:=NaC d.zc d.C.length (d.C.flatMap In.cs);have hz:=NaD (z:=cd.zt) (cs:=cd.T.flatMap Tx.cs) hil;rw[hz]at g35;have hFc:=hF.c d hdm
    iterate 4
     (try rw[Z0]);(try simp(maxSteps:=9^7)(disch:=first|omega|rfl|assumption)only[↓Yaa,Yab,Nae,Naa,rA,rB,rC,rD,reduceIte,unP,rE,g1,kA,g35,g36,g37,g3,hld,hT,lT,Nag,Naf])
    have hnI:35=35:=rfl;refine NaJ (fun x=>∃ (B:Nat),A<x.st.cnt∧x.env.get 1=.ptr A 0∧x.st.get A=some (.cells [slV cd.zo cd.O.length (cd.O.flatMap Dc.cs),slV cd.zt cd.T.length (cd.T.flatMap Tx.cs)] false)∧x.env.get 35=.fsl cd.T.length (cd.T.flatMap Tx.cs)∧x.env.get 36=.i .i64 (cd.T.length:Int)∧x.env.get 37=.i .i64 (i:Int)∧x.env.get 3=.b b1∧(A<B)∧B<x.st.cnt∧x.env.get 7=.ptr B 0∧x.st.get B=some (.cells [.s d.S,slV d.zl d.L.length (d.L.flatMap fun s=>[.s s]),slV d.zc d.C.length (d.C.flatMap In.cs)] false)) ?_ ?_
    ·refine⟨c+24,?_,?_,?_,?_,?_,?_,?_,Zaa,?_,?_,?_⟩<;>first|with_reducible rfl|with_reducible assumption|exact kA _|exact kB _|omega|(simp only[Z0L_,Nax];omega)|(simp only;omega)|(simp[Yad,g1,g35,g36,g37,g3]<;>omega)|(simp(disch:=omega)only[Nar,Nas,Yaf,kA];first|done|with_reducible rfl|with_reducible assumption)
    clear bA g1 kA g35 g36 g37 g3;rintro⟨env,⟨sto,c⟩⟩ ⟨B,bA,g1,kA,g35,g36,g37,g3,oB,bB,g7,kB⟩;try simp only at bA g1 g35 g36 g37 g3 bB g7
    replace kA:∀ n',St.get ⟨sto,n'⟩ A=some (.cells [slV cd.zo cd.O.length (cd.O.flatMap Dc.cs),slV cd.zt cd.T.length (cd.T.flatMap Tx.cs)] false):=fun _=>kA;replace kB:∀ n',St.get ⟨sto,n'⟩ B=some (.cells [.s d.S,slV d.zl d.L.length (d.L.flatMap fun s=>[.s s]),slV d.zc d.C.length (d.C.flatMap In.cs)] false):=fun _=>kB;refine NaX (fun x=>A<x.st.cnt∧x.env.get 1=.ptr A 0∧x.st.get A=some (.cells [slV cd.zo cd.O.length (cd.O.flatMap Dc.cs),slV cd.zt cd.T.length (cd.T.flatMap Tx.cs)] false)∧x.env.get 35=.fsl cd.T.length (cd.T.flatMap Tx.cs)∧x.env.get 36=.i .i64 (cd.T.length:Int)∧x.env.get 37=.i .i64 (i:Int)∧B<x.st.cnt∧x.env.get 7=.ptr B 0∧x.st.get B=some (.cells [.s d.S,slV d.zl d.L.length (d.L.flatMap fun s=>[.s s]),slV d.zc d.C.length (d.C.flatMap In.cs)] false)∧(∃ b,x.env.get 3=.b b∧(b=false→OkC cd∧∀ d,d∈cd.O→Ngr cd d=true))) ?_ ?_
    ·intro K4 hK4;cases b1 with
     |true =>
       (try rw[Z0]);(try simp(maxSteps:=9^7)(disch:=first|omega|rfl|assumption)only[↓Yaa,Yab,Nae,Naa,rA,rB,rC,rD,reduceIte,unP,rE,g1,kA,g35,g36,g37,g3,g7,kB,lL,lC]);refine hK4 _ ⟨?_,(by simp[Yad,g1]),?_,(by simp[Yad,g35]),(by simp[Yad,g36]),(by simp[Yad,g37]),?_,(by simp[Yad,g7]),?_,⟨true,by simp[Yad],nofun⟩⟩<;>first|with_reducible rfl|with_reducible assumption|exact kA _|exact kB _|omega|(simp only[Z0L_,Nax];omega)|(simp only;omega)|(simp(disch:=omega)only[Nar,Nas,Yaf,kA,kB];first|done|with_reducible rfl|with_reducible assumption)
     |false =>
       by_cases c1:120<d.L.length
       ·skip
        (try rw[Z0]);(try simp(maxSteps:=9^7)(disch:=first|omega|rfl|assumption)only[↓Yaa,Yab,Nae,Naa,rA,rB,rC,rD,reduceIte,unP,rE,g1,kA,g35,g36,g37,g3,g7,kB,lL,lC]);refine hK4 _ ⟨?_,(by simp[Yad,g1]),?_,(by simp[Yad,g35]),(by simp[Yad,g36]),(by simp[Yad,g37]),?_,(by simp[Yad,g7]),?_,⟨true,by simp[Yad],nofun⟩⟩<;>first|with_reducible rfl|with_reducible assumption|exact kA _|exact kB _|omega|(simp only[Z0L_,Nax];omega)|(simp only;omega)|(simp(disch:=omega)only[Nar,Nas,Yaf,kA,kB];first|done|with_reducible rfl|with_reducible assumption)
       ·by_cases c2:4000<d.C.length
        ·skip
         (try rw[Z0]);(try simp(maxSteps:=9^7)(disch:=first|omega|rfl|assumption)only[↓Yaa,Yab,Nae,Naa,rA,rB,rC,rD,reduceIte,unP,rE,g1,kA,g35,g36,g37,g3,g7,kB,lL,lC]);refine hK4 _ ⟨?_,(by simp[Yad,g1]),?_,(by simp[Yad,g35]),(by simp[Yad,g36]),(by simp[Yad,g37]),?_,(by simp[Yad,g7]),?_,⟨true,by simp[Yad],nofun⟩⟩<;>first|with_reducible rfl|with_reducible assumption|exact kA _|exact kB _|omega|(simp only[Z0L_,Nax];omega)|(simp only;omega)|(simp(disch:=omega)only[Nar,Nas,Yaf,kA,kB];first|done|with_reducible rfl|with_reducible assumption)
        ·skip
         (try rw[Z0]);(try simp(maxSteps:=9^7)(disch:=first|omega|rfl|assumption)only[↓Yaa,Yab,Nae,Naa,rA,rB,rC,rD,reduceIte,unP,rE,g1,kA,g35,g36,g37,g3,g7,kB,lL,lC]);refine hK4 _ ⟨?_,(by simp[Yad,g1]),?_,(by simp[Yad,g35]),(by simp[Yad,g36]),(by simp[Yad,g37]),?_,(by simp[Yad,g7]),?_,⟨false,by simp[Yad],hb1⟩⟩<;>first|with_reducible rfl|with_reducible assumption|exact kA _|exact kB _|omega|(simp only[Z0L_,Nax];omega)|(simp only;omega)|(simp(disch:=omega)only[Nar,Nas,Yaf,kA,kB];first|done|with_reducible rfl|with_reducible assumption)
    clear bA g1 kA g35 g36 g37 g3 bB g7 kB;rintro⟨env,⟨sto,c⟩⟩ ⟨bA,g1,kA,g35,g36,g37,bB,g7,kB,bd⟩;try simp only at bA g1 g35 g36 g37 bB g7 bd
    replace kA:∀ n',St.get ⟨sto,n'⟩ A=some (.cells [slV cd.zo cd.O.length (cd.O.flatMap Dc.cs),slV cd.zt cd.T.length (cd.T.flatMap Tx.cs)] false):=fun _=>kA;replace kB:∀ n',St.get ⟨sto,n'⟩ B=some (.cells [.s d.S,slV d.zl d.L.length (d.L.flatMap fun s=>[.s s]),slV d.zc d.C.length (d.C.flatMap In.cs)] false):=fun _=>kB;obtain⟨b2,g3,hb2⟩:=bd
    iterate 2
     (try rw[Z0]);(try simp(maxSteps:=9^7)(disch:=first|omega|rfl|assumption)only[↓Yaa,Yab,Nae,Naa,rA,rB,rC,rD,reduceIte,unP,rE,g1,kA,g35,g36,g37,g7,kB,g3])
    refine Z9 (k:=d.C.length - 0) (fun m x=>∃ (j:Nat),m=d.C.length - j∧A<x.st.cnt∧x.env.get 1=.ptr A 0∧x.st.get A=some (.cells [slV cd.zo cd.O.length (cd.O.flatMap Dc.cs),slV cd.zt cd.T.length (cd.T.flatMap Tx.cs)] false)∧x.env.get 35=.fsl cd.T.length (cd.T.flatMap Tx.cs)∧x.env.get 36=.i .i64 (cd.T.length:Int)∧x.env.get 37=.i .i64 (i:Int)∧B<x.st.cnt∧x.env.get 7=.ptr B 0∧x.st.get B=some (.cells [.s d.S,slV d.zl d.L.length (d.L.flatMap fun s=>[.s s]),slV d.zc d.C.length (d.C.flatMap In.cs)] false)∧x.env.get 8=.i .i64 (j:Int)∧(j≤d.C.length)∧(∃ b,x.env.get 3=.b b∧(b=false→OkC cd∧∀ d,d∈cd.O→Ngr cd d=true))) ?_ ?_ Zaa
    ·clear bA g1 kA g35 g36 g37 bB g7 kB g3;rintro m ⟨env,⟨sto,c⟩⟩ ⟨j,rfl,bA,g1,kA,g35,g36,g37,bB,g7,kB,g8,hj,bd⟩;try simp only at bA g1 g35 g36 g37 bB g7 g8 bd
     replace kA:∀ n',St.get ⟨sto,n'⟩ A=some (.cells [slV cd.zo cd.O.length (cd.O.flatMap Dc.cs),slV cd.zt cd.T.length (cd.T.flatMap Tx.cs)] false):=fun _=>kA;replace kB:∀ n',St.get ⟨sto,n'⟩ B=some (.cells [.s d.S,slV d.zl d.L.length (d.L.flatMap fun s=>[.s s]),slV d.zc d.C.length (d.C.flatMap In.cs)] false):=fun _=>kB;obtain⟨b3,g3,hb3⟩:=bd;by_cases hjl:j<d.C.length
     ·cases b3 with
      |true =>
        iterate 6
         (try rw[Z0]);(try simp(maxSteps:=9^7)(disch:=first|omega|rfl|assumption)only[↓Yaa,Yab,Nae,Naa,rA,rB,rC,rD,reduceIte,unP,rE,g1,kA,g35,g36,g37,g7,kB,g8,g3,lC])
        exact⟨cd.T.length - (i+1),by omega,i+1,rfl,hz.symm,rfl,by omega,true,rfl,nofun⟩
      |false =>
        obtain⟨x,hx⟩:∃ x,d.C[j]=x:=⟨_,rfl⟩;have hxm:x∈d.C:=hx▸List.getElem_mem hjl;have hFa:=hF.a d hdm x hxm;have hxw:=(hwt d hdm).2.2.2.2 x hxm;have hA6:x.A.length * 56≤140737488351232:=hxw.1;have hldx:=fun st=>Nn3 (st:=st) hjl;have hldA:=fun st=>Nin (st:=st) hjl;simp only[hx]at hldx hldA;have hCl:=NaM In.cs_len d.C;have hzc:=NaD (z:=d.zc) (cs:=d.C.flatMap In.cs) hjl;have hCr:=(hwt d hdm).2.2.1;have hwj:IntKind.i64.wrap ((j+1:Nat):Int)=((j+1:Nat):Int):=NbI _ ⟨by omega,by omega⟩;obtain⟨bm,hbm⟩:=Noa (fuel:=F+44) (cd:=cd) (t:=d) (ins:=x) hc hA6 Zaa;have hcm:∀ (st:St) (key:Nat),Naq (Nai cfg (NaK cfg (F+49)) 81) false st key [.agg (Cd.cs cd),.agg (Tx.cs d),.agg (In.cs x)]=some (.b bm,st):=fun st key=>NaT (Ncy Nbu NjG NgD) hbm rfl rfl;rw[show Cd.cs cd=[slV cd.zo cd.O.length (cd.O.flatMap Dc.cs),slV cd.zt cd.T.length (cd.T.flatMap Tx.cs)]from rfl,show Tx.cs d=[.s d.S,slV d.zl d.L.length (d.L.flatMap fun s=>[.s s]),slV d.zc d.C.length (d.C.flatMap In.cs)]from rfl,show In.cs x=[.i .u8 (x.D.toNat:Int),.i .u8 (x.O.toNat:Int),.i .i64 x.J,.i .i64 x.I,.i .i64 x.T,.i .i64 x.N,slV x.z x.A.length (Exs.cs x.A)]from rfl]at hcm;rw[hzc]at hcm lC kB;cases bm with
        |false =>
          iterate 6
           (try rw[Z0]);(try simp(maxSteps:=9^7)(disch:=first|omega|rfl|assumption)only[↓Yaa,Yab,Nae,Naa,rA,rB,rC,rD,reduceIte,unP,rE,g1,kA,g35,g36,g37,g7,kB,g8,g3,lC,hcm,hldx,hldA,hCl,Nag,Naf])
          exact⟨d.C.length - (j+1),by omega,j+1,rfl,by rw[hzc],rfl,by omega,true,rfl,nofun⟩
        |true =>
          iterate 4
           (try rw[Z0]);(try simp(maxSteps:=9^7)(disch:=first|omega|rfl|assumption)only[↓Yaa,Yab,Nae,Naa,rA,rB,rC,rD,reduceIte,unP,rE,g1,kA,g35,g36,g37,g7,kB,g8,g3,lC,hcm,hldx,hldA,hCl,Nag,Naf,hc.k4])
          refine Nbk (Nnp (fuel:=F+5) hc Zaa hxw.2.2.2.2.2.2 hxw.2.2.2.2.2.1 Zad (kB _)) ?_;rintro r ⟨sto2,c2⟩ ⟨⟨b4,rfl⟩,fr4,cn4⟩;simp only at cn4;exact⟨d.C.length - (j+1),by omega,j+1,rfl,by show A<c2+24;omega,(fr4 A Zad).trans (kA c),by show B<c2+24;omega,by rw[←hzc]at kB;exact(fr4 B Zad).trans (kB c),rfl,by omega,b4,rfl,fun _=>hb3 rfl⟩
     ·skip
      iterate 6
       (try rw[Z0]);(try simp(maxSteps:=9^7)(disch:=first|omega|rfl|assumption)only[↓Yaa,Yab,Nae,Naa,rA,rB,rC,rD,reduceIte,unP,rE,g1,kA,g35,g36,g37,g7,kB,g8,g3,lC])
      exact⟨cd.T.length - (i+1),by omega,i+1,rfl,hz.symm,rfl,by omega,b3,rfl,hb3⟩
    ·skip
     refine⟨0,rfl,?_,(by simp[Yad,g1]),?_,(by simp[Yad,g35]),(by simp[Yad,g36]),(by simp[Yad,g37]),?_,(by simp[Yad,g7]),?_,Zaf,?_,⟨b2,by simp[Yad,g3],hb2⟩⟩<;>first|with_reducible rfl|with_reducible assumption|exact kA _|exact kB _|omega|(simp only[Z0L_,Nax];omega)|(simp only;omega)|(simp(disch:=omega)only[Nar,Nas,Yaf,kA,kB];first|done|with_reducible rfl|with_reducible assumption)|assumption|rfl|(simp;omega)|(simp;done)
   ·skip
    iterate 5
     (try rw[Z0]);(try simp(maxSteps:=9^7)(disch:=first|omega|rfl|assumption)only[↓Yaa,Yab,Nae,Naa,rA,rB,rC,rD,reduceIte,unP,rE,g1,kA,g35,g36,g37,g3])
    refine hK3 _ ⟨?_,(by simp[Yad,g1]),?_,⟨b1,by simp[Yad,g3],hb1⟩⟩<;>first|with_reducible rfl|with_reducible assumption|exact kA _|omega|(simp only[Z0L_,Nax];omega)|(simp only;omega)|(simp(disch:=omega)only[Nar,Nas,Yaf,kA];first|done|with_reducible rfl|with_reducible assumption)
  ·skip
   refine⟨0,rfl,?_,(by simp[Yad,g1]),?_,Zaf,Zaf,Zaf,?_,⟨b0,by simp[Yad,g3],hb0⟩⟩<;>first|with_reducible rfl|with_reducible assumption|exact kA _|omega|(simp only[Z0L_,Nax];omega)|(simp only;omega)|(simp(disch:=omega)only[Nar,Nas,Yaf,kA];first|done|with_reducible rfl|with_reducible assumption)|assumption|rfl|(simp;omega)|(simp;done)
 clear bA g1 kA bd;rintro⟨env,⟨sto,c⟩⟩ ⟨bA,g1,kA,bd⟩;try simp only at bA g1 bd
 replace kA:∀ n',St.get ⟨sto,n'⟩ A=some (.cells [slV cd.zo cd.O.length (cd.O.flatMap Dc.cs),slV cd.zt cd.T.length (cd.T.flatMap Tx.cs)] false):=fun _=>kA;obtain⟨b0,g3,hb0⟩:=bd;cases b0 with
 |true =>
   iterate 4
    (try rw[Z0]);(try simp(maxSteps:=9^7)(disch:=first|omega|rfl|assumption)only[↓Yaa,Yab,Nae,Naa,rA,rB,rC,rD,reduceIte,unP,rE,g1,kA,g3])
   subst hX;exact⟨nofun,_,rfl,120,by simp only[NaF,Yad,if_true];rfl,by omega⟩
 |false =>
   iterate 4
    (try rw[Z0]);(try simp(maxSteps:=9^7)(disch:=first|omega|rfl|assumption)only[↓Yaa,Yab,Nae,Naa,rA,rB,rC,rD,reduceIte,unP,rE,g1,kA,g3])
   subst hX;exact⟨nofun,_,rfl,0,by simp only[NaF,Yad,if_true];rfl,fun _=>hb0 rfl⟩
theorem Nhr{cfg:Cfg}(hc:CfgZ cfg){F:Nat}{cd:Cd}(hwf:cd.wf)(hF:CdF cd F) :
 ∃ ck,Nai cfg (NaK cfg (F+50)) 47 [.agg (Cd.cs cd)]=some (.i .i64 ck)∧(ck=0→OkC cd∧∀ d,d∈cd.O→Ngr cd d=true):=by
 obtain⟨r,st',h1,ck,h2,h3⟩:=NiT (st:={ sto:=.leaf,cnt:=1 }) hc hwf hF;exact⟨ck,NaE hc.a4 Ng6 (fun _=>rfl) ⟨r,st',h1,h2⟩,h3⟩
end Go.Pe
