/-
 Code: may an object be; expressions' shape, walked. No condition.
-/
import Derived.Test.YtafdphmhbnjfaaaGreatDoorZRacF
set_option linter.unusedVariables false
set_option linter.unusedSimpArgs false
set_option maxHeartbeats 8000000
open Nat renaming reduceAdd → rA,reduceMul → rB,reduceLT → rC,reduceEqDiff → rD,reduceLeDiff → rE
namespace Go.Pe
open Go Go.Am Go.RowKit
structure CfgZ(cfg:Cfg):Prop extends CfgM cfg,CfgA cfg where
 a4:cfg.ext 47=none
 k1:cfg.ext 80=none
 k2:cfg.ext 81=none
 k3:cfg.ext 83=none
 k4:cfg.ext 82=none
 k5:cfg.ext 115=none
 k6:cfg.ext 84=none
 k7:cfg.ext 116=none
 k8:cfg.ext 114=none
 k9:cfg.ext 44=none
def Ngr(cd:Cd)(d:Dc):Bool :=
 if d.K.toNat=1 then d.N==0 else if d.K.toNat=2 then d.N==0 else if d.K.toNat=6 then d.N==0 else if d.K.toNat=7 then d.N==0
 else if d.K.toNat=3 then decide (1≤d.N)&&decide (d.N≤1048576)else if d.K.toNat=8 then decide (1≤d.N)&&decide (d.N≤1048576)
 else if d.K.toNat=5 then decide (1≤d.N)&&decide (d.N≤16)
 else if d.K.toNat=4 then decide (0≤d.N)&&decide (d.N<cd.O.length)&&((cd.O.getD d.N.toNat dcZ).K.toNat==1)
 else d.K.toNat==9
theorem Nds{st:St}{l:List Dc}{i:Nat}(h:i<l.length):Nbh st 1 (.fptr ((l.flatMap Dc.cs).drop (i * 5)))=some [.i .u8 (l[i].K.toNat:Int)]:=by
 rw[Nb6 Dc.cs_len h];show cut? _ 0 1=_;unfold cut?;rw[if_pos (by simp[Dc.cs])];rfl
theorem Ni7{cfg:Cfg}(hc:CfgZ cfg){fuel:Nat}{st:St}{cd:Cd}{d:Dc} :
 ∃ r st',NaK cfg (fuel+1) 80 [.agg (Cd.cs cd),.agg (Dc.cs d)] st=some (r,st')∧r=.b (Ngr cd d):=by
 refine NaB (hc.fn _ _ (by kernel_rfl):cfg.fn 80=some m80) ?_;delta m80 Qr Qg Ql Qt Qs Qk Qm Qh Qi Qu Qv Cd.cs;rw[show Dc.cs d=[.i .u8 (d.K.toNat:Int),.s d.S,.i .i64 d.N,.s d.O,.i .i64 d.R]from rfl];obtain⟨R,hR⟩:∃ R,Ngr cd d=R:=⟨_,rfl⟩;rw[hR];unfold Ngr at hR;have lO:=NaC cd.zo cd.O.length (cd.O.flatMap Dc.cs);have hO:=NaM Dc.cs_len cd.O;obtain⟨sto0,c0⟩:=st;obtain⟨k,hk⟩:∃ k,d.K.toNat=k:=⟨_,rfl⟩;rw[hk]at hR ⊢;simp only[Nao]
 iterate 3
  (try rw[Z0]);(try simp(disch:=first|omega|rfl|assumption)only[↓Yaa,Yab,Nae,Naa,rA,rB,rC,rD,reduceIte,unP,rE,Nag,Naf])
 refine NaJ (fun x=>∃ (A:Nat) (B:Nat),A<x.st.cnt∧(A<B)∧B<x.st.cnt∧x.env.get 2=.ptr A 0∧x.env.get 3=.ptr B 0∧x.env.get 6=.i .u8 (k:Int)∧x.st.get A=some (.cells [slV cd.zo cd.O.length (cd.O.flatMap Dc.cs),slV cd.zt cd.T.length (cd.T.flatMap Tx.cs)] false)∧x.st.get B=some (.cells [.i .u8 (k:Int),.s d.S,.i .i64 d.N,.s d.O,.i .i64 d.R] false)) ?_ ?_
 ·refine⟨c0,c0+8,?_,?_,?_,Zab,Zab,Zab,?_,?_⟩<;>first|with_reducible rfl|with_reducible assumption|exact kA _|exact kB _|omega|(simp only[Z0L_,Nax];omega)|(simp only;omega)|assumption|rfl|(simp;omega)|(simp;done)|(simp(disch:=omega)only[Nar,Nas,Yaf];first|done|with_reducible rfl|with_reducible assumption)
 rintro⟨env,⟨sto,c⟩⟩ ⟨A,B,bA,oB,bB,g2,g3,g6,kA,kB⟩;try simp only at bA bB g2 g3 g6
 replace kA:∀ n',St.get ⟨sto,n'⟩ A=some (.cells [slV cd.zo cd.O.length (cd.O.flatMap Dc.cs),slV cd.zt cd.T.length (cd.T.flatMap Tx.cs)] false):=fun _=>kA;replace kB:∀ n',St.get ⟨sto,n'⟩ B=some (.cells [.i .u8 (k:Int),.s d.S,.i .i64 d.N,.s d.O,.i .i64 d.R] false):=fun _=>kB;by_cases h1:k=1
 ·have f1:((k:Int)==Int.ofNat 1)=true:=by simp;omega
  subst h1;simp only[rD,if_true,if_false]at hR
  iterate 9
   (try rw[Z0]);(try simp(disch:=first|omega|rfl|assumption)only[↓Yaa,Yab,Nae,Naa,rA,rB,rC,rD,reduceIte,unP,rE,g2,g3,g6,kA,kB,f1])
  exact⟨nofun,_,rfl,by simp only[NaF,Yad,if_true];rw[←hR];rfl⟩
 have f1:((k:Int)==Int.ofNat 1)=false:=by simp;omega
 by_cases h2:k=2
 ·have f2:((k:Int)==Int.ofNat 2)=true:=by simp;omega
  subst h2;simp only[rD,if_true,if_false]at hR
  iterate 9
   (try rw[Z0]);(try simp(disch:=first|omega|rfl|assumption)only[↓Yaa,Yab,Nae,Naa,rA,rB,rC,rD,reduceIte,unP,rE,g2,g3,g6,kA,kB,f1,f2])
  exact⟨nofun,_,rfl,by simp only[NaF,Yad,if_true];rw[←hR];rfl⟩
 have f2:((k:Int)==Int.ofNat 2)=false:=by simp;omega
 by_cases h6:k=6
 ·have f6:((k:Int)==Int.ofNat 6)=true:=by simp;omega
  subst h6;simp only[rD,if_true,if_false]at hR
  iterate 9
   (try rw[Z0]);(try simp(disch:=first|omega|rfl|assumption)only[↓Yaa,Yab,Nae,Naa,rA,rB,rC,rD,reduceIte,unP,rE,g2,g3,g6,kA,kB,f1,f2,f6])
  exact⟨nofun,_,rfl,by simp only[NaF,Yad,if_true];rw[←hR];rfl⟩
 have f6:((k:Int)==Int.ofNat 6)=false:=by simp;omega
 by_cases h7:k=7
 ·have f7:((k:Int)==Int.ofNat 7)=true:=by simp;omega
  subst h7;simp only[rD,if_true,if_false]at hR
  iterate 9
   (try rw[Z0]);(try simp(disch:=first|omega|rfl|assumption)only[↓Yaa,Yab,Nae,Naa,rA,rB,rC,rD,reduceIte,unP,rE,g2,g3,g6,kA,kB,f1,f2,f6,f7])
  exact⟨nofun,_,rfl,by simp only[NaF,Yad,if_true];rw[←hR];rfl⟩
 have f7:((k:Int)==Int.ofNat 7)=false:=by simp;omega
 by_cases h3:k=3
 ·have f3:((k:Int)==Int.ofNat 3)=true:=by simp;omega
  subst h3;simp only[rD,if_true,if_false]at hR;by_cases c1:1≤d.N
  ·by_cases c2:d.N≤1048576
   ·rw[decide_eq_true c1,decide_eq_true c2]at hR
    iterate 9
     (try rw[Z0]);(try simp(disch:=first|omega|rfl|assumption)only[↓Yaa,Yab,Nae,Naa,rA,rB,rC,rD,reduceIte,unP,rE,g2,g3,g6,kA,kB,f1,f2,f6,f7,f3])
    exact⟨nofun,_,rfl,by simp only[NaF,Yad,if_true];rw[←hR];rfl⟩
   ·rw[decide_eq_true c1,decide_eq_false c2]at hR
    iterate 9
     (try rw[Z0]);(try simp(disch:=first|omega|rfl|assumption)only[↓Yaa,Yab,Nae,Naa,rA,rB,rC,rD,reduceIte,unP,rE,g2,g3,g6,kA,kB,f1,f2,f6,f7,f3])
    exact⟨nofun,_,rfl,by simp only[NaF,Yad,if_true];rw[←hR];rfl⟩
  ·rw[decide_eq_false c1]at hR
   iterate 9
    (try rw[Z0]);(try simp(disch:=first|omega|rfl|assumption)only[↓Yaa,Yab,Nae,Naa,rA,rB,rC,rD,reduceIte,unP,rE,g2,g3,g6,kA,kB,f1,f2,f6,f7,f3])
   exact⟨nofun,_,rfl,by simp only[NaF,Yad,if_true];rw[←hR];rfl⟩
 have f3:((k:Int)==Int.ofNat 3)=false:=by simp;omega
 by_cases h8:k=8
 ·have f8:((k:Int)==Int.ofNat 8)=true:=by simp;omega
  subst h8;simp only[rD,if_true,if_false]at hR;by_cases c1:1≤d.N
  ·by_cases c2:d.N≤1048576
   ·rw[decide_eq_true c1,decide_eq_true c2]at hR
    iterate 9
     (try rw[Z0]);(try simp(disch:=first|omega|rfl|assumption)only[↓Yaa,Yab,Nae,Naa,rA,rB,rC,rD,reduceIte,unP,rE,g2,g3,g6,kA,kB,f1,f2,f6,f7,f3,f8])
    exact⟨nofun,_,rfl,by simp only[NaF,Yad,if_true];rw[←hR];rfl⟩
   ·rw[decide_eq_true c1,decide_eq_false c2]at hR
    iterate 9
     (try rw[Z0]);(try simp(disch:=first|omega|rfl|assumption)only[↓Yaa,Yab,Nae,Naa,rA,rB,rC,rD,reduceIte,unP,rE,g2,g3,g6,kA,kB,f1,f2,f6,f7,f3,f8])
    exact⟨nofun,_,rfl,by simp only[NaF,Yad,if_true];rw[←hR];rfl⟩
  ·rw[decide_eq_false c1]at hR
   iterate 9
    (try rw[Z0]);(try simp(disch:=first|omega|rfl|assumption)only[↓Yaa,Yab,Nae,Naa,rA,rB,rC,rD,reduceIte,unP,rE,g2,g3,g6,kA,kB,f1,f2,f6,f7,f3,f8])
   exact⟨nofun,_,rfl,by simp only[NaF,Yad,if_true];rw[←hR];rfl⟩
 have f8:((k:Int)==Int.ofNat 8)=false:=by simp;omega
 by_cases h5:k=5
 ·have f5:((k:Int)==Int.ofNat 5)=true:=by simp;omega
  subst h5;simp only[rD,if_true,if_false]at hR;by_cases c1:1≤d.N
  ·by_cases c2:d.N≤16
   ·rw[decide_eq_true c1,decide_eq_true c2]at hR
    iterate 9
     (try rw[Z0]);(try simp(disch:=first|omega|rfl|assumption)only[↓Yaa,Yab,Nae,Naa,rA,rB,rC,rD,reduceIte,unP,rE,g2,g3,g6,kA,kB,f1,f2,f6,f7,f3,f8,f5])
    exact⟨nofun,_,rfl,by simp only[NaF,Yad,if_true];rw[←hR];rfl⟩
   ·rw[decide_eq_true c1,decide_eq_false c2]at hR
    iterate 9
     (try rw[Z0]);(try simp(disch:=first|omega|rfl|assumption)only[↓Yaa,Yab,Nae,Naa,rA,rB,rC,rD,reduceIte,unP,rE,g2,g3,g6,kA,kB,f1,f2,f6,f7,f3,f8,f5])
    exact⟨nofun,_,rfl,by simp only[NaF,Yad,if_true];rw[←hR];rfl⟩
  ·rw[decide_eq_false c1]at hR
   iterate 9
    (try rw[Z0]);(try simp(disch:=first|omega|rfl|assumption)only[↓Yaa,Yab,Nae,Naa,rA,rB,rC,rD,reduceIte,unP,rE,g2,g3,g6,kA,kB,f1,f2,f6,f7,f3,f8,f5])
   exact⟨nofun,_,rfl,by simp only[NaF,Yad,if_true];rw[←hR];rfl⟩
 have f5:((k:Int)==Int.ofNat 5)=false:=by simp;omega
 by_cases h4:k=4
 ·have f4:((k:Int)==Int.ofNat 4)=true:=by simp;omega
  subst h4;simp only[rD,if_true,if_false]at hR;by_cases c1:0≤d.N
  ·by_cases c2:d.N<(cd.O.length:Int)
   ·have hN:d.N.toNat<cd.O.length:=(by omega);have hz:=NaD (z:=cd.zo) (cs:=cd.O.flatMap Dc.cs) hN;have hlK:=fun st=>Nds (st:=st) hN;have hgd:cd.O.getD d.N.toNat dcZ=cd.O[d.N.toNat]:=(by rw[List.getD_eq_getElem?_getD,List.getElem?_eq_getElem hN];rfl);rw[decide_eq_true c1,decide_eq_true c2,hgd]at hR;rw[hz]at lO kA
    iterate 9
     (try rw[Z0]);(try simp(disch:=first|omega|rfl|assumption)only[↓Yaa,Yab,Nae,Naa,rA,rB,rC,rD,reduceIte,unP,rE,g2,g3,g6,kA,kB,f1,f2,f6,f7,f3,f8,f5,f4,lO,hO,hlK])
    exact⟨nofun,_,rfl,by simp only[NaF,Yad,if_true];rw[←hR];exact congrArg PV.b (by rw[Bool.eq_iff_iff];simp only[Bool.true_and,beq_iff_eq];omega)⟩
   ·rw[decide_eq_true c1,decide_eq_false c2]at hR
    iterate 9
     (try rw[Z0]);(try simp(disch:=first|omega|rfl|assumption)only[↓Yaa,Yab,Nae,Naa,rA,rB,rC,rD,reduceIte,unP,rE,g2,g3,g6,kA,kB,f1,f2,f6,f7,f3,f8,f5,f4,lO,Nag,Naf])
    exact⟨nofun,_,rfl,by simp only[NaF,Yad,if_true];rw[←hR];rfl⟩
  ·rw[decide_eq_false c1]at hR
   iterate 9
    (try rw[Z0]);(try simp(disch:=first|omega|rfl|assumption)only[↓Yaa,Yab,Nae,Naa,rA,rB,rC,rD,reduceIte,unP,rE,g2,g3,g6,kA,kB,f1,f2,f6,f7,f3,f8,f5,f4])
   exact⟨nofun,_,rfl,by simp only[NaF,Yad,if_true];rw[←hR];rfl⟩
 have f4:((k:Int)==Int.ofNat 4)=false:=by simp;omega
 simp only[h1,h2,h6,h7,h3,h8,h5,h4,if_false]at hR
 iterate 20
  (try rw[Z0]);(try simp(disch:=first|omega|rfl|assumption)only[↓Yaa,Yab,Nae,Naa,rA,rB,rC,rD,reduceIte,unP,rE,g2,g3,g6,kA,kB,f1,f2,f6,f7,f3,f8,f5,f4])
 exact⟨nofun,_,rfl,by simp only[NaF,Yad,if_true];rw[←hR];exact congrArg PV.b (by rw[Bool.eq_iff_iff];simp only[Bool.true_and,beq_iff_eq];omega)⟩
theorem NhJ{cfg:Cfg}(hc:CfgZ cfg){fuel:Nat}{cd:Cd}{d:Dc}:Nai cfg (NaK cfg (fuel+1)) 80 [.agg (Cd.cs cd),.agg (Dc.cs d)]=some (.b (Ngr cd d)) :=
 NaE hc.k1 rfl (fun _=>rfl) (Ni7 hc)
end Go.Pe
