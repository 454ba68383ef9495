/-
 Code: may an instruction be (that there is an answer), walked. No condition.
-/
import Derived.Test.YtafdphmhbnjfaaaGreatDoorZCoeD
set_option linter.unusedVariables false
set_option linter.unusedSimpArgs false
set_option maxHeartbeats 8000000
open Nat renaming reduceAdd → rA,reduceMul → rB,reduceLT → rC,reduceEqDiff → rD,reduceLeDiff → rE
namespace Go.Pe
open Go Go.Am Go.RowKit
section
variable {st:St}{t:Tx}{cfg:Cfg}{fuel:Nat}{ins:In}
theorem NgD{x:In}:Go.Pe.deep st 12 (.agg (In.cs x))=some (.agg (In.cs x)):=by
 unfold In.cs slV;split<;>rfl
theorem NjG:Go.Pe.deep st 12 (.agg (Tx.cs t))=some (.agg (Tx.cs t)):=by
 unfold Tx.cs slV;split<;>split<;>rfl
theorem Ncy{w1 v1 w2 v2 w3 v3:PV}(h1:Go.Pe.deep st 12 w1=some v1)(h2:Go.Pe.deep st 12 w2=some v2)(h3:Go.Pe.deep st 12 w3=some v3):Nbg st [w1,w2,w3]=some [v1,v2,v3]:=by
 have h1':Go.Pe.deep st NbU w1=some v1:=h1;have h2':Go.Pe.deep st NbU w2=some v2:=h2;have h3':Go.Pe.deep st NbU w3=some v3:=h3;unfold Nbg;simp only[mapO,h1',h2',h3']
theorem Nls(hc:CfgZ cfg){K:UInt8}{lo:Bool}(hA:ins.A.length * 56≤140737488351232)(hfu:ins.A.length+100≤fuel):∃ b,Nai cfg (NaK cfg (fuel+4)) 114 [.i .u8 (K.toNat:Int),.agg (In.cs ins),.b lo]=some (.b b):=by
 obtain⟨r,st',h1,b,h2⟩:=Nnv (st:={ sto:=.leaf,cnt:=1 }) (lo:=lo) hc rfl hA hfu;exact⟨b,NaE hc.k8 rfl (fun _=>rfl) ⟨r,st',h1,h2⟩⟩
theorem Npq(hc:CfgZ cfg){cd:Cd}(hA:ins.A.length * 56≤140737488351232)(hfu:ins.A.length+100≤fuel) :
 ∃ r st',NaK cfg (fuel+5) 81 [.agg (Cd.cs cd),.agg (Tx.cs t),.agg (In.cs ins)] st=some (r,st')∧∃ b,r=.b b:=by
 refine NaB (hc.fn _ _ (by kernel_rfl):cfg.fn 81=some m81) ?_;delta m81 Qa Qr Qg Ql Qt Qs Qk Qm Qh Qi Qu Qv;obtain⟨X,hX⟩:∃ X:PV→Prop,X=fun r=>∃ b,r=.b b:=⟨_,rfl⟩
 simp only[show ∀ r,(∃ b,r=PV.b b)=X r from fun _=>by rw[hX]];have fin:∀ b,X (.b b):=fun b=>by subst hX;exact⟨b,rfl⟩
 rw[show Cd.cs cd=[slV cd.zo cd.O.length (cd.O.flatMap Dc.cs),slV cd.zt cd.T.length (cd.T.flatMap Tx.cs)]from rfl,show Tx.cs t=[.s t.S,slV t.zl t.L.length (t.L.flatMap fun s=>[.s s]),slV t.zc t.C.length (t.C.flatMap In.cs)]from rfl,show In.cs ins=[.i .u8 (ins.D.toNat:Int),.i .u8 (ins.O.toNat:Int),.i .i64 ins.J,.i .i64 ins.I,.i .i64 ins.T,.i .i64 ins.N,slV ins.z ins.A.length (Exs.cs ins.A)]from rfl];have lO:=NaC cd.zo cd.O.length (cd.O.flatMap Dc.cs);have hO:=NaM Dc.cs_len cd.O;have lL:=NaC t.zl t.L.length (t.L.flatMap fun s=>[.s s]);have lC:=NaC t.zc t.C.length (t.C.flatMap In.cs);have lA:=NaC ins.z ins.A.length (Exs.cs ins.A);obtain⟨sto0,c0⟩:=st;obtain⟨k,hk⟩:∃ k,ins.D.toNat=k:=⟨_,rfl⟩;rw[hk];simp only[Nao];(try rw[Z0]);(try simp(maxSteps:=9^7)(disch:=first|omega|rfl|assumption)only[↓Yaa,Yab,Nae,Naa,rA,rB,rC,rD,reduceIte,unP,rE,Nag,Naf]);refine NaJ (fun x=>∃ (A:Nat) (B:Nat) (C:Nat),A<x.st.cnt∧(A<B)∧B<x.st.cnt∧(B<C)∧C<x.st.cnt∧x.env.get 3=.ptr A 0∧x.env.get 4=.ptr B 0∧x.env.get 5=.ptr C 0∧x.st.get A=some (.cells [slV cd.zo cd.O.length (cd.O.flatMap Dc.cs),slV cd.zt cd.T.length (cd.T.flatMap Tx.cs)] false)∧x.st.get B=some (.cells [.s t.S,slV t.zl t.L.length (t.L.flatMap fun s=>[.s s]),slV t.zc t.C.length (t.C.flatMap In.cs)] false)∧x.st.get C=some (.cells [.i .u8 (k:Int),.i .u8 (ins.O.toNat:Int),.i .i64 ins.J,.i .i64 ins.I,.i .i64 ins.T,.i .i64 ins.N,slV ins.z ins.A.length (Exs.cs ins.A)] false)) ?_ ?_
 ·refine⟨c0,c0+8,c0+16,?_,?_,?_,?_,?_,Zab,Zab,Zab,?_,?_,?_⟩<;>first|with_reducible rfl|with_reducible assumption|exact kA _|exact kB _|exact kC _|omega|(simp only[Z0L_,Nax];omega)|(simp only;omega)|assumption|rfl|(simp;omega)|(simp;done)|(simp(disch:=omega)only[Nar,Nas,Yaf];first|done|with_reducible rfl|with_reducible assumption)
 rintro⟨env,⟨sto,c⟩⟩ ⟨A,B,C,bA,oB,bB,oC,bC,g3,g4,g5,kA,kB,kC⟩;try simp only at bA bB bC g3 g4 g5
 replace kA:∀ n',St.get ⟨sto,n'⟩ A=some (.cells [slV cd.zo cd.O.length (cd.O.flatMap Dc.cs),slV cd.zt cd.T.length (cd.T.flatMap Tx.cs)] false):=fun _=>kA;replace kB:∀ n',St.get ⟨sto,n'⟩ B=some (.cells [.s t.S,slV t.zl t.L.length (t.L.flatMap fun s=>[.s s]),slV t.zc t.C.length (t.C.flatMap In.cs)] false):=fun _=>kB;replace kC:∀ n',St.get ⟨sto,n'⟩ C=some (.cells [.i .u8 (k:Int),.i .u8 (ins.O.toNat:Int),.i .i64 ins.J,.i .i64 ins.I,.i .i64 ins.T,.i .i64 ins.N,slV ins.z ins.A.length (Exs.cs ins.A)] false):=fun _=>kC;refine NaX (fun x=>A<x.st.cnt∧B<x.st.cnt∧C<x.st.cnt∧x.env.get 3=.ptr A 0∧x.env.get 4=.ptr B 0∧x.env.get 5=.ptr C 0∧x.st.get A=some (.cells [slV cd.zo cd.O.length (cd.O.flatMap Dc.cs),slV cd.zt cd.T.length (cd.T.flatMap Tx.cs)] false)∧x.st.get B=some (.cells [.s t.S,slV t.zl t.L.length (t.L.flatMap fun s=>[.s s]),slV t.zc t.C.length (t.C.flatMap In.cs)] false)∧x.st.get C=some (.cells [.i .u8 (k:Int),.i .u8 (ins.O.toNat:Int),.i .i64 ins.J,.i .i64 ins.I,.i .i64 ins.T,.i .i64 ins.N,slV ins.z ins.A.length (Exs.cs ins.A)] false)∧(∃ b,x.env.get 7=.b b)) ?_ ?_
 ·intro K1 hK1;by_cases c1:0≤ins.I
  ·by_cases c2:ins.I<(t.L.length:Int)
   ·skip
    (try rw[Z0]);(try simp(maxSteps:=9^7)(disch:=first|omega|rfl|assumption)only[↓Yaa,Yab,Nae,Naa,rA,rB,rC,rD,reduceIte,unP,rE,g3,g4,g5,kA,kB,kC,lL]);refine hK1 _ ⟨?_,?_,?_,(by simp[Yad,g3]),(by simp[Yad,g4]),(by simp[Yad,g5]),?_,?_,?_,⟨true,by simp[Yad]⟩⟩<;>first|with_reducible rfl|with_reducible assumption|exact kA _|exact kB _|exact kC _|omega|(simp only[Z0L_,Nax];omega)|(simp only;omega)|(simp(disch:=omega)only[Nar,Nas,Yaf,kA,kB,kC];first|done|with_reducible rfl|with_reducible assumption)
   ·skip
    (try rw[Z0]);(try simp(maxSteps:=9^7)(disch:=first|omega|rfl|assumption)only[↓Yaa,Yab,Nae,Naa,rA,rB,rC,rD,reduceIte,unP,rE,g3,g4,g5,kA,kB,kC,lL]);refine hK1 _ ⟨?_,?_,?_,(by simp[Yad,g3]),(by simp[Yad,g4]),(by simp[Yad,g5]),?_,?_,?_,⟨false,by simp[Yad]⟩⟩<;>first|with_reducible rfl|with_reducible assumption|exact kA _|exact kB _|exact kC _|omega|(simp only[Z0L_,Nax];omega)|(simp only;omega)|(simp(disch:=omega)only[Nar,Nas,Yaf,kA,kB,kC];first|done|with_reducible rfl|with_reducible assumption)
  ·skip
   (try rw[Z0]);(try simp(maxSteps:=9^7)(disch:=first|omega|rfl|assumption)only[↓Yaa,Yab,Nae,Naa,rA,rB,rC,rD,reduceIte,unP,rE,g3,g4,g5,kA,kB,kC,lL]);refine hK1 _ ⟨?_,?_,?_,(by simp[Yad,g3]),(by simp[Yad,g4]),(by simp[Yad,g5]),?_,?_,?_,⟨false,by simp[Yad]⟩⟩<;>first|with_reducible rfl|with_reducible assumption|exact kA _|exact kB _|exact kC _|omega|(simp only[Z0L_,Nax];omega)|(simp only;omega)|(simp(disch:=omega)only[Nar,Nas,Yaf,kA,kB,kC];first|done|with_reducible rfl|with_reducible assumption)
 clear bA bB bC g3 g4 g5 kA kB kC;rintro⟨env,⟨sto,c⟩⟩ ⟨bA,bB,bC,g3,g4,g5,kA,kB,kC,b7⟩;try simp only at bA bB bC g3 g4 g5 b7
 replace kA:∀ n',St.get ⟨sto,n'⟩ A=some (.cells [slV cd.zo cd.O.length (cd.O.flatMap Dc.cs),slV cd.zt cd.T.length (cd.T.flatMap Tx.cs)] false):=fun _=>kA;replace kB:∀ n',St.get ⟨sto,n'⟩ B=some (.cells [.s t.S,slV t.zl t.L.length (t.L.flatMap fun s=>[.s s]),slV t.zc t.C.length (t.C.flatMap In.cs)] false):=fun _=>kB;replace kC:∀ n',St.get ⟨sto,n'⟩ C=some (.cells [.i .u8 (k:Int),.i .u8 (ins.O.toNat:Int),.i .i64 ins.J,.i .i64 ins.I,.i .i64 ins.T,.i .i64 ins.N,slV ins.z ins.A.length (Exs.cs ins.A)] false):=fun _=>kC;obtain⟨v7,g7⟩:=b7;refine NaX (fun x=>A<x.st.cnt∧B<x.st.cnt∧C<x.st.cnt∧x.env.get 3=.ptr A 0∧x.env.get 4=.ptr B 0∧x.env.get 5=.ptr C 0∧x.st.get A=some (.cells [slV cd.zo cd.O.length (cd.O.flatMap Dc.cs),slV cd.zt cd.T.length (cd.T.flatMap Tx.cs)] false)∧x.st.get B=some (.cells [.s t.S,slV t.zl t.L.length (t.L.flatMap fun s=>[.s s]),slV t.zc t.C.length (t.C.flatMap In.cs)] false)∧x.st.get C=some (.cells [.i .u8 (k:Int),.i .u8 (ins.O.toNat:Int),.i .i64 ins.J,.i .i64 ins.I,.i .i64 ins.T,.i .i64 ins.N,slV ins.z ins.A.length (Exs.cs ins.A)] false)∧x.env.get 7=.b v7∧(∃ b,x.env.get 8=.b b)) ?_ ?_
 ·intro K2 hK2;by_cases c1:0≤ins.T
  ·skip
   (try rw[Z0]);(try simp(maxSteps:=9^7)(disch:=first|omega|rfl|assumption)only[↓Yaa,Yab,Nae,Naa,rA,rB,rC,rD,reduceIte,unP,rE,g3,g4,g5,kA,kB,kC,g7,lC]);refine hK2 _ ⟨?_,?_,?_,(by simp[Yad,g3]),(by simp[Yad,g4]),(by simp[Yad,g5]),?_,?_,?_,(by simp[Yad,g7]),⟨decide (ins.T≤(t.C.length:Int)),by simp[Yad]⟩⟩<;>first|with_reducible rfl|with_reducible assumption|exact kA _|exact kB _|exact kC _|omega|(simp only[Z0L_,Nax];omega)|(simp only;omega)|(simp(disch:=omega)only[Nar,Nas,Yaf,kA,kB,kC];first|done|with_reducible rfl|with_reducible assumption)
  ·skip
   (try rw[Z0]);(try simp(maxSteps:=9^7)(disch:=first|omega|rfl|assumption)only[↓Yaa,Yab,Nae,Naa,rA,rB,rC,rD,reduceIte,unP,rE,g3,g4,g5,kA,kB,kC,g7,lC]);refine hK2 _ ⟨?_,?_,?_,(by simp[Yad,g3]),(by simp[Yad,g4]),(by simp[Yad,g5]),?_,?_,?_,(by simp[Yad,g7]),⟨false,by simp[Yad]⟩⟩<;>first|with_reducible rfl|with_reducible assumption|exact kA _|exact kB _|exact kC _|omega|(simp only[Z0L_,Nax];omega)|(simp only;omega)|(simp(disch:=omega)only[Nar,Nas,Yaf,kA,kB,kC];first|done|with_reducible rfl|with_reducible assumption)
 clear bA bB bC g3 g4 g5 kA kB kC g7;rintro⟨env,⟨sto,c⟩⟩ ⟨bA,bB,bC,g3,g4,g5,kA,kB,kC,g7,b8⟩;try simp only at bA bB bC g3 g4 g5 g7 b8
 replace kA:∀ n',St.get ⟨sto,n'⟩ A=some (.cells [slV cd.zo cd.O.length (cd.O.flatMap Dc.cs),slV cd.zt cd.T.length (cd.T.flatMap Tx.cs)] false):=fun _=>kA;replace kB:∀ n',St.get ⟨sto,n'⟩ B=some (.cells [.s t.S,slV t.zl t.L.length (t.L.flatMap fun s=>[.s s]),slV t.zc t.C.length (t.C.flatMap In.cs)] false):=fun _=>kB;replace kC:∀ n',St.get ⟨sto,n'⟩ C=some (.cells [.i .u8 (k:Int),.i .u8 (ins.O.toNat:Int),.i .i64 ins.J,.i .i64 ins.I,.i .i64 ins.T,.i .i64 ins.N,slV ins.z ins.A.length (Exs.cs ins.A)] false):=fun _=>kC;obtain⟨v8,g8⟩:=b8;refine NaX (fun x=>A<x.st.cnt∧B<x.st.cnt∧C<x.st.cnt∧x.env.get 3=.ptr A 0∧x.env.get 4=.ptr B 0∧x.env.get 5=.ptr C 0∧x.st.get A=some (.cells [slV cd.zo cd.O.length (cd.O.flatMap Dc.cs),slV cd.zt cd.T.length (cd.T.flatMap Tx.cs)] false)∧x.st.get B=some (.cells [.s t.S,slV t.zl t.L.length (t.L.flatMap fun s=>[.s s]),slV t.zc t.C.length (t.C.flatMap In.cs)] false)∧x.st.get C=some (.cells [.i .u8 (k:Int),.i .u8 (ins.O.toNat:Int),.i .i64 ins.J,.i .i64 ins.I,.i .i64 ins.T,.i .i64 ins.N,slV ins.z ins.A.length (Exs.cs ins.A)] false)∧x.env.get 7=.b v7∧x.env.get 8=.b v8∧(∃ b,x.env.get 9=.b b∧(b=true→0≤ins.J∧ins.J<(cd.O.length:Int)))) ?_ ?_
 ·intro K3 hK3;by_cases c1:0≤ins.J
  ·by_cases c2:ins.J<(cd.O.length:Int)
   ·skip
    (try rw[Z0]);(try simp(maxSteps:=9^7)(disch:=first|omega|rfl|assumption)only[↓Yaa,Yab,Nae,Naa,rA,rB,rC,rD,reduceIte,unP,rE,g3,g4,g5,kA,kB,kC,g7,g8,lO]);refine hK3 _ ⟨?_,?_,?_,(by simp[Yad,g3]),(by simp[Yad,g4]),(by simp[Yad,g5]),?_,?_,?_,(by simp[Yad,g7]),(by simp[Yad,g8]),⟨true,by simp[Yad],fun _=>⟨c1,c2⟩⟩⟩<;>first|with_reducible rfl|with_reducible assumption|exact kA _|exact kB _|exact kC _|omega|(simp only[Z0L_,Nax];omega)|(simp only;omega)|(simp(disch:=omega)only[Nar,Nas,Yaf,kA,kB,kC];first|done|with_reducible rfl|with_reducible assumption)
   ·skip
    (try rw[Z0]);(try simp(maxSteps:=9^7)(disch:=first|omega|rfl|assumption)only[↓Yaa,Yab,Nae,Naa,rA,rB,rC,rD,reduceIte,unP,rE,g3,g4,g5,kA,kB,kC,g7,g8,lO]);refine hK3 _ ⟨?_,?_,?_,(by simp[Yad,g3]),(by simp[Yad,g4]),(by simp[Yad,g5]),?_,?_,?_,(by simp[Yad,g7]),(by simp[Yad,g8]),⟨false,by simp[Yad],nofun⟩⟩<;>first|with_reducible rfl|with_reducible assumption|exact kA _|exact kB _|exact kC _|omega|(simp only[Z0L_,Nax];omega)|(simp only;omega)|(simp(disch:=omega)only[Nar,Nas,Yaf,kA,kB,kC];first|done|with_reducible rfl|with_reducible assumption)
  ·skip
   (try rw[Z0]);(try simp(maxSteps:=9^7)(disch:=first|omega|rfl|assumption)only[↓Yaa,Yab,Nae,Naa,rA,rB,rC,rD,reduceIte,unP,rE,g3,g4,g5,kA,kB,kC,g7,g8,lO]);refine hK3 _ ⟨?_,?_,?_,(by simp[Yad,g3]),(by simp[Yad,g4]),(by simp[Yad,g5]),?_,?_,?_,(by simp[Yad,g7]),(by simp[Yad,g8]),⟨false,by simp[Yad],nofun⟩⟩<;>first|with_reducible rfl|with_reducible assumption|exact kA _|exact kB _|exact kC _|omega|(simp only[Z0L_,Nax];omega)|(simp only;omega)|(simp(disch:=omega)only[Nar,Nas,Yaf,kA,kB,kC];first|done|with_reducible rfl|with_reducible assumption)
 clear bA bB bC g3 g4 g5 kA kB kC g7 g8;rintro⟨env,⟨sto,c⟩⟩ ⟨bA,bB,bC,g3,g4,g5,kA,kB,kC,g7,g8,b9⟩;try simp only at bA bB bC g3 g4 g5 g7 g8 b9
 replace kA:∀ n',St.get ⟨sto,n'⟩ A=some (.cells [slV cd.zo cd.O.length (cd.O.flatMap Dc.cs),slV cd.zt cd.T.length (cd.T.flatMap Tx.cs)] false):=fun _=>kA;replace kB:∀ n',St.get ⟨sto,n'⟩ B=some (.cells [.s t.S,slV t.zl t.L.length (t.L.flatMap fun s=>[.s s]),slV t.zc t.C.length (t.C.flatMap In.cs)] false):=fun _=>kB;replace kC:∀ n',St.get ⟨sto,n'⟩ C=some (.cells [.i .u8 (k:Int),.i .u8 (ins.O.toNat:Int),.i .i64 ins.J,.i .i64 ins.I,.i .i64 ins.T,.i .i64 ins.N,slV ins.z ins.A.length (Exs.cs ins.A)] false):=fun _=>kC;obtain⟨v9,g9,hv9⟩:=b9;by_cases k1:k=1
 ·have f1:((k:Int)==Int.ofNat 1)=true:=by simp;omega
  cases v9 with
  |false =>
    iterate 5
     (try rw[Z0]);(try simp(maxSteps:=9^7)(disch:=first|omega|rfl|assumption)only[↓Yaa,Yab,Nae,Naa,rA,rB,rC,rD,reduceIte,unP,rE,g3,g4,g5,kA,kB,kC,g7,g8,g9,f1])
    exact⟨nofun,_,rfl,by simp only[NaF,Yad,if_true];exact fin _⟩
  |true =>
    obtain⟨j0,j1⟩:=hv9 rfl;have hJ:ins.J.toNat<cd.O.length:=(by omega);have hz:=NaD (z:=cd.zo) (cs:=cd.O.flatMap Dc.cs) hJ;have hlK:=fun st=>Nds (st:=st) hJ;rw[hz]at lO kA;obtain⟨bD,hbD⟩:=Nls (K:=cd.O[ins.J.toNat].K) (lo:=v7) hc hA hfu;have hdI:=fun st=>NgD (st:=st) (x:=ins);rw[show In.cs ins=[.i .u8 (ins.D.toNat:Int),.i .u8 (ins.O.toNat:Int),.i .i64 ins.J,.i .i64 ins.I,.i .i64 ins.T,.i .i64 ins.N,slV ins.z ins.A.length (Exs.cs ins.A)]from rfl,hk]at hbD hdI
    iterate 4
     (try rw[Z0]);(try simp(maxSteps:=9^7)(disch:=first|omega|rfl|assumption)only[↓Yaa,Yab,Nae,Naa,rA,rB,rC,rD,reduceIte,unP,rE,g3,g4,g5,kA,kB,kC,g7,g8,g9,f1,lO,hO,hlK,Nag,Naf])
    refine NbO (Ncy rfl (hdI _) rfl) hbD rfl rfl ?_;cases bD with
    |false =>
      iterate 5
       (try rw[Z0]);(try simp(maxSteps:=9^7)(disch:=first|omega|rfl|assumption)only[↓Yaa,Yab,Nae,Naa,rA,rB,rC,rD,reduceIte,unP,rE,g3,g4,g5,kA,kB,kC,g7,g8,g9,f1])
      exact⟨nofun,_,rfl,by simp only[NaF,Yad,if_true];exact fin _⟩
    |true =>
      by_cases c1:ins.O.toNat=16
      ·have b1:((ins.O.toNat:Int) != Int.ofNat 16)=false:=by simp;omega
       iterate 5
        (try rw[Z0]);(try simp(maxSteps:=9^7)(disch:=first|omega|rfl|assumption)only[↓Yaa,Yab,Nae,Naa,rA,rB,rC,rD,reduceIte,unP,rE,g3,g4,g5,kA,kB,kC,g7,g8,g9,f1,b1])
       exact⟨nofun,_,rfl,by simp only[NaF,Yad,if_true];exact fin _⟩
      ·have b1:((ins.O.toNat:Int) != Int.ofNat 16)=true:=by simp;omega
       iterate 5
        (try rw[Z0]);(try simp(maxSteps:=9^7)(disch:=first|omega|rfl|assumption)only[↓Yaa,Yab,Nae,Naa,rA,rB,rC,rD,reduceIte,unP,rE,g3,g4,g5,kA,kB,kC,g7,g8,g9,f1,b1])
       exact⟨nofun,_,rfl,by simp only[NaF,Yad,if_true];exact fin _⟩
 have f1:((k:Int)==Int.ofNat 1)=false:=by simp;omega
 by_cases k2:k=2
 ·have f2:((k:Int)==Int.ofNat 2)=true:=by simp;omega
  cases v9 with
  |false =>
    iterate 7
     (try rw[Z0]);(try simp(maxSteps:=9^7)(disch:=first|omega|rfl|assumption)only[↓Yaa,Yab,Nae,Naa,rA,rB,rC,rD,reduceIte,unP,rE,g3,g4,g5,kA,kB,kC,g7,g8,g9,f1,f2])
    exact⟨nofun,_,rfl,by simp only[NaF,Yad,if_true];exact fin _⟩
  |true =>
    obtain⟨j0,j1⟩:=hv9 rfl;have hJ:ins.J.toNat<cd.O.length:=(by omega);have hz:=NaD (z:=cd.zo) (cs:=cd.O.flatMap Dc.cs) hJ;have hlK:=fun st=>Nds (st:=st) hJ;rw[hz]at lO kA
    iterate 7
     (try rw[Z0]);(try simp(maxSteps:=9^7)(disch:=first|omega|rfl|assumption)only[↓Yaa,Yab,Nae,Naa,rA,rB,rC,rD,reduceIte,unP,rE,g3,g4,g5,kA,kB,kC,g7,g8,g9,f1,f2,lO,hO,hlK])
    exact⟨nofun,_,rfl,by simp only[NaF,Yad,if_true];exact fin _⟩
 have f2:((k:Int)==Int.ofNat 2)=false:=by simp;omega
 by_cases k3:k=3
 ·have f3:((k:Int)==Int.ofNat 3)=true:=by simp;omega
  cases v7 with
  |false =>
    iterate 9
     (try rw[Z0]);(try simp(maxSteps:=9^7)(disch:=first|omega|rfl|assumption)only[↓Yaa,Yab,Nae,Naa,rA,rB,rC,rD,reduceIte,unP,rE,g3,g4,g5,kA,kB,kC,g7,g8,g9,f1,f2,f3,lA])
    exact⟨nofun,_,rfl,by simp only[NaF,Yad,if_true];exact fin _⟩
  |true =>
    iterate 9
     (try rw[Z0]);(try simp(maxSteps:=9^7)(disch:=first|omega|rfl|assumption)only[↓Yaa,Yab,Nae,Naa,rA,rB,rC,rD,reduceIte,unP,rE,g3,g4,g5,kA,kB,kC,g7,g8,g9,f1,f2,f3,lA])
    exact⟨nofun,_,rfl,by simp only[NaF,Yad,if_true];exact fin _⟩
 have f3:((k:Int)==Int.ofNat 3)=false:=by simp;omega
 by_cases k4:k=4
 ·have f4:((k:Int)==Int.ofNat 4)=true:=by simp;omega
  cases v8 with
  |false =>
    iterate 12
     (try rw[Z0]);(try simp(maxSteps:=9^7)(disch:=first|omega|rfl|assumption)only[↓Yaa,Yab,Nae,Naa,rA,rB,rC,rD,reduceIte,unP,rE,g3,g4,g5,kA,kB,kC,g7,g8,g9,f1,f2,f3,f4,lA])
    exact⟨nofun,_,rfl,by simp only[NaF,Yad,if_true];exact fin _⟩
  |true =>
    iterate 12
     (try rw[Z0]);(try simp(maxSteps:=9^7)(disch:=first|omega|rfl|assumption)only[↓Yaa,Yab,Nae,Naa,rA,rB,rC,rD,reduceIte,unP,rE,g3,g4,g5,kA,kB,kC,g7,g8,g9,f1,f2,f3,f4,lA])
    exact⟨nofun,_,rfl,by simp only[NaF,Yad,if_true];exact fin _⟩
 have f4:((k:Int)==Int.ofNat 4)=false:=by simp;omega
 by_cases k5:k=5
 ·have f5:((k:Int)==Int.ofNat 5)=true:=by simp;omega
  iterate 14
   (try rw[Z0]);(try simp(maxSteps:=9^7)(disch:=first|omega|rfl|assumption)only[↓Yaa,Yab,Nae,Naa,rA,rB,rC,rD,reduceIte,unP,rE,g3,g4,g5,kA,kB,kC,g7,g8,g9,f1,f2,f3,f4,f5])
  exact⟨nofun,_,rfl,by simp only[NaF,Yad,if_true];exact fin _⟩
 have f5:((k:Int)==Int.ofNat 5)=false:=by simp;omega
 by_cases k6:k=6
 ·have f6:((k:Int)==Int.ofNat 6)=true:=by simp;omega
  iterate 16
   (try rw[Z0]);(try simp(maxSteps:=9^7)(disch:=first|omega|rfl|assumption)only[↓Yaa,Yab,Nae,Naa,rA,rB,rC,rD,reduceIte,unP,rE,g3,g4,g5,kA,kB,kC,g7,g8,g9,f1,f2,f3,f4,f5,f6])
  exact⟨nofun,_,rfl,by simp only[NaF,Yad,if_true];exact fin _⟩
 have f6:((k:Int)==Int.ofNat 6)=false:=by simp;omega
 by_cases k7:k=7
 ·have f7:((k:Int)==Int.ofNat 7)=true:=by simp;omega
  cases v7 with
  |false =>
    iterate 18
     (try rw[Z0]);(try simp(maxSteps:=9^7)(disch:=first|omega|rfl|assumption)only[↓Yaa,Yab,Nae,Naa,rA,rB,rC,rD,reduceIte,unP,rE,g3,g4,g5,kA,kB,kC,g7,g8,g9,f1,f2,f3,f4,f5,f6,f7])
    exact⟨nofun,_,rfl,by simp only[NaF,Yad,if_true];exact fin _⟩
  |true =>
    iterate 18
     (try rw[Z0]);(try simp(maxSteps:=9^7)(disch:=first|omega|rfl|assumption)only[↓Yaa,Yab,Nae,Naa,rA,rB,rC,rD,reduceIte,unP,rE,g3,g4,g5,kA,kB,kC,g7,g8,g9,f1,f2,f3,f4,f5,f6,f7])
    exact⟨nofun,_,rfl,by simp only[NaF,Yad,if_true];exact fin _⟩
 have f7:((k:Int)==Int.ofNat 7)=false:=by simp;omega
 iterate 20
  (try rw[Z0]);(try simp(maxSteps:=9^7)(disch:=first|omega|rfl|assumption)only[↓Yaa,Yab,Nae,Naa,rA,rB,rC,rD,reduceIte,unP,rE,g3,g4,g5,kA,kB,kC,g7,g8,g9,f1,f2,f3,f4,f5,f6,f7])
 exact⟨nofun,_,rfl,by simp only[NaF,Yad,if_true];exact fin _⟩
theorem Noa(hc:CfgZ cfg){cd:Cd}(hA:ins.A.length * 56≤140737488351232)(hfu:ins.A.length+100≤fuel):∃ b,Nai cfg (NaK cfg (fuel+5)) 81 [.agg (Cd.cs cd),.agg (Tx.cs t),.agg (In.cs ins)]=some (.b b):=by
 obtain⟨r,st',h1,b,h2⟩:=Npq (st:={ sto:=.leaf,cnt:=1 }) (cd:=cd) (t:=t) hc hA hfu;exact⟨b,NaE hc.k2 rfl (fun _=>rfl) ⟨r,st',h1,h2⟩⟩
end
end Go.Pe
