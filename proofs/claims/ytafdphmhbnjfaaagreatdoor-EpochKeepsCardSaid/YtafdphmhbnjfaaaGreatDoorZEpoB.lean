/-
 Epochs: is it a trace of a code: walked. No condition.
-/
import Derived.Test.YtafdphmhbnjfaaaGreatDoorZEpoA
set_option linter.unusedVariables false
set_option linter.unusedSimpArgs false
set_option maxHeartbeats 4000000
open Nat renaming reduceAdd → rA,reduceMul → rB,reduceLT → rC,reduceEqDiff → rD,reduceLeDiff → rE
namespace Go.Pe
open Go Go.Am Go.RowKit
section
variable {cfg:Cfg}{fuel B:Nat}{z:Bool}{st:St}{cd:Cd}{l:List Et}
theorem Nem{x:Now}{t F:Nat}{a b c d e:PV}(h1:x.env.get t=.ptr F 0)(h2:x.st.get F=some (.cells [a,b,c,d,e] z)):mapO (Ngl x) [.cell t true 5]=some [.agg [a,b,c,d,e]]:=by
 simp only[mapO,Ngl,h1,NbL,h2,NbM];rfl
theorem Ncq{x:Now}{t F u:Nat}{a b c d e:PV}(h1:x.env.get t=.ptr F 0)(h2:x.st.get F=some (.cells [a,b,c,d,e] z)):mapO (Ngl x) [.cell t true 5,.t u]=some [.agg [a,b,c,d,e],x.env.get u]:=by
 simp only[mapO,Ngl,h1,NbL,h2,NbM];rfl
theorem NlL(hc:CfgE cfg) :
 ∃ r st',NaK cfg (fuel+1) 23 [] st=some (r,st')∧r=.agg [.i .i64 (-1),.i .i64 0,.i .i64 (-1),.i .i64 0,.nsl]:=by
 refine NaB (hc.fn _ _ (by kernel_rfl):cfg.fn 23=some m23) ?_;delta m23 Ql Qt Qn Qi;obtain⟨sto0,c0⟩:=st;simp only[Nao]
 iterate 3
  (try rw[Z0]);(try simp(maxSteps:=9^7)(disch:=first|omega|rfl|assumption)only[↓Yaa,Yab,Nae,Naa,rA,rB,rC,rD,reduceIte,unP,rE])
 exact⟨nofun,_,Nem (by simp only[Yad,if_true];rfl) (by rw[Yaf];rfl),rfl⟩
theorem NeO(hc:CfgE cfg):Nai cfg (NaK cfg (fuel+1)) 23 []=some (.agg [.i .i64 (-1),.i .i64 0,.i .i64 (-1),.i .i64 0,.nsl]) :=
 NaE hc.e3 rfl (fun _=>rfl) (NlL hc)
theorem NmC(hc:CfgE cfg){e:Et}(hO:cd.O.length≤reachBytes)(hT:cd.T.length≤reachBytes)(lB:B<st.cnt)(hB:st.get B=some (.cells [slV cd.zo cd.O.length (cd.O.flatMap Dc.cs),slV cd.zt cd.T.length (cd.T.flatMap Tx.cs)] false)) :
 ∃ r st',NaK cfg (fuel+1) 54 [.agg (Et.cs e),.ptr B 0] st=some (r,st')∧r=.b (!etB cd e)∧(∀ j,j<st.cnt→st'.get j=st.get j)∧st.cnt≤st'.cnt:=by
 refine NaB (hc.fn _ _ (by kernel_rfl):cfg.fn 54=some m54) ?_;delta m54 Qr Qg Ql Qt Qs Qk Qm Qh Qi Qu Qv Et.cs;have hrb:reachBytes<4611686018427387904:=by decide
 have lD:=NaC cd.zo cd.O.length (cd.O.flatMap Dc.cs);have lT:=NaC cd.zt cd.T.length (cd.T.flatMap Tx.cs);obtain⟨sto0,c0⟩:=st;simp only at lB;have kB:∀ n',St.get ⟨sto0,n'⟩ B=_:=fun _=>hB;obtain⟨R,hR⟩:∃ R,etB cd e=R:=⟨_,rfl⟩;rw[hR];unfold etB at hR;obtain⟨X,hX⟩:∃ X:PV→St→Prop,X=fun r st'=>(r=.b (!R)∧(∀ j,j<c0→st'.get j=St.get ⟨sto0,c0⟩ j)∧c0≤st'.cnt):=⟨_,rfl⟩
 simp only[show ∀ r st',(r=.b (!R)∧(∀ j,j<c0→st'.get j=St.get ⟨sto0,c0⟩ j)∧c0≤st'.cnt)=X r st' from fun _ _=>by rw[hX]];simp only[Nao];by_cases c1:e.T<0
 ·rw[decide_eq_false (show ¬ 0≤e.T by omega)]at hR
  iterate 3
   (try rw[Z0]);(try simp(maxSteps:=9^7)(disch:=first|omega|rfl|assumption)only[↓Yaa,Yab,Nae,Naa,rA,rB,rC,rD,reduceIte,unP,rE,kB,lD,lT])
  subst hX;exact⟨nofun,_,rfl,by simp only[NaF,Yad,if_true];rw[←hR];rfl,fun j hj=>by simp(disch:=omega)only[Nar,Nas];rfl,by first|omega|(simp only[Z0L_];omega)⟩
 by_cases c2:(cd.T.length:Int)≤e.T
 ·rw[decide_eq_false (show ¬ e.T<cd.T.length by omega)]at hR
  iterate 3
   (try rw[Z0]);(try simp(maxSteps:=9^7)(disch:=first|omega|rfl|assumption)only[↓Yaa,Yab,Nae,Naa,rA,rB,rC,rD,reduceIte,unP,rE,kB,lD,lT])
  subst hX;exact⟨nofun,_,rfl,by simp only[NaF,Yad,if_true];rw[←hR];simp,fun j hj=>by simp(disch:=omega)only[Nar,Nas];rfl,by first|omega|(simp only[Z0L_];omega)⟩
 by_cases c3:e.J<0
 ·rw[decide_eq_false (show ¬ 0≤e.J by omega)]at hR
  iterate 3
   (try rw[Z0]);(try simp(maxSteps:=9^7)(disch:=first|omega|rfl|assumption)only[↓Yaa,Yab,Nae,Naa,rA,rB,rC,rD,reduceIte,unP,rE,kB,lD,lT])
  subst hX;exact⟨nofun,_,rfl,by simp only[NaF,Yad,if_true];rw[←hR];simp,fun j hj=>by simp(disch:=omega)only[Nar,Nas];rfl,by first|omega|(simp only[Z0L_];omega)⟩
 by_cases c4:(cd.O.length:Int)≤e.J
 ·rw[decide_eq_false (show ¬ e.J<cd.O.length by omega)]at hR
  iterate 3
   (try rw[Z0]);(try simp(maxSteps:=9^7)(disch:=first|omega|rfl|assumption)only[↓Yaa,Yab,Nae,Naa,rA,rB,rC,rD,reduceIte,unP,rE,kB,lD,lT])
  subst hX;exact⟨nofun,_,rfl,by simp only[NaF,Yad,if_true];rw[←hR];simp,fun j hj=>by simp(disch:=omega)only[Nar,Nas];rfl,by first|omega|(simp only[Z0L_];omega)⟩
 rw[decide_eq_true (show 0≤e.T by omega),decide_eq_true (show e.T<cd.T.length by omega),decide_eq_true (show 0≤e.J by omega),decide_eq_true (show e.J<cd.O.length by omega)]at hR
 iterate 3
  (try rw[Z0]);(try simp(maxSteps:=9^7)(disch:=first|omega|rfl|assumption)only[↓Yaa,Yab,Nae,Naa,rA,rB,rC,rD,reduceIte,unP,rE,kB,lD,lT])
 subst hX;exact⟨nofun,_,rfl,by simp only[NaF,Yad,if_true];rw[←hR];rfl,fun j hj=>by simp(disch:=omega)only[Nar,Nas];rfl,by first|omega|(simp only[Z0L_];omega)⟩
theorem NnR(hc:CfgE cfg)(hO:cd.O.length≤reachBytes)(hT:cd.T.length≤reachBytes)(hl:l.length<1000)(hfu:l.length≤fuel)(lB:B<st.cnt)(hB:st.get B=some (.cells [slV cd.zo cd.O.length (cd.O.flatMap Dc.cs),slV cd.zt cd.T.length (cd.T.flatMap Tx.cs)] false)) :
 ∃ r st',NaK cfg (fuel+2) 91 [slV z l.length (l.flatMap Et.cs),.fn 54 [.ptr B 0]] st=some (r,st')∧((∃ b:Int,r=.i .i64 b∧decide (0≤b)=!l.all (etB cd))∧(∀ j,j<st.cnt→st'.get j=st.get j)∧st.cnt≤st'.cnt):=by
 refine NaB (hc.fn _ _ (by kernel_rfl):cfg.fn 91=some m91) ?_;delta m91 Qa Ql Qt Qk Qm Qi Qo;have hlv:=NaC z l.length (l.flatMap Et.cs);have hE:=NaM Et.cs_len l;obtain⟨A,hA⟩:∃ A,l.all (etB cd)=A:=⟨_,rfl⟩;rw[hA];obtain⟨sto0,c0⟩:=st;simp only at lB;obtain⟨X,hX⟩:∃ X:PV→St→Prop,X=fun r st'=>((∃ b:Int,r=.i .i64 b∧decide (0≤b)=!A)∧(∀ j,j<c0→st'.get j=St.get ⟨sto0,c0⟩ j)∧c0≤st'.cnt):=⟨_,rfl⟩
 simp only[show ∀ r st',((∃ b:Int,r=.i .i64 b∧decide (0≤b)=!A)∧(∀ j,j<c0→st'.get j=St.get ⟨sto0,c0⟩ j)∧c0≤st'.cnt)=X r st' from fun _ _=>by rw[hX]];simp only[Nao]
 iterate 3
  (try rw[Z0]);(try simp(maxSteps:=9^7)(disch:=first|omega|rfl|assumption)only[↓Yaa,Yab,Nae,Naa,rA,rB,rC,rD,reduceIte,unP,rE,hlv])
 refine Z9 (k:=l.length - 0) (fun m x=>∃ (i:Nat),m=l.length - i∧x.env.get 0=slV z l.length (l.flatMap Et.cs)∧x.env.get 1=.fn 54 [.ptr B 0]∧x.env.get 7=.i .i64 (l.length:Int)∧x.env.get 8=.i .i64 (i:Int)∧(i≤l.length)∧((l.drop i).all (etB cd)=A)∧(∀ j,j<c0→x.st.get j=St.get ⟨sto0,c0⟩ j)∧(c0≤x.st.cnt)) ?_ ?_ Zaa
 ·skip
  rintro m ⟨env,⟨sto,c⟩⟩ ⟨i,rfl,g0,g1,g7,g8,hi,hob,kof,cc⟩;try simp only at g0 g1 g7 g8 cc cc
  by_cases hil:i<l.length
  ·rw[NaD hil]at g0;obtain⟨e,he⟩:∃ e,l[i]=e:=⟨_,rfl⟩;have hld:=fun st=>NdL (st:=st) hil;simp only[he]at hld;rw[List.drop_eq_getElem_cons hil,he,List.all_cons]at hob;have hck:=fun st h1 h2=>NmC (fuel:=fuel) (e:=e) (st:=st) (B:=B) hc hO hT h1 h2;simp only[Et.cs]at hck
   iterate 6
    (try rw[Z0]);(try simp(maxSteps:=9^7)(disch:=first|omega|rfl|assumption)only[↓Yaa,Yab,Nae,Naa,rA,rB,rC,rD,reduceIte,unP,rE,g0,g1,g7,g8,hld,hE,hlv,hc.e5])
   refine Nbk (hck _ Zad ((kof B lB).trans hB)) ?_;rintro r ⟨sto2,c2⟩ ⟨rfl,fr2,cn2⟩;simp only at cn2;have fr3:∀ j,j<c0→St.get ⟨sto2,c2⟩ j=St.get ⟨sto0,c0⟩ j:=fun j hj=>(fr2 j Zad).trans (kof j hj);cases hb:etB cd e with
   |false =>
     rw[hb]at hob;simp only[Bool.not_false]
     iterate 6
      (try rw[Z0]);(try simp(maxSteps:=9^7)(disch:=first|omega|rfl|assumption)only[↓Yaa,Yab,Nae,Naa,rA,rB,rC,rD,reduceIte,unP,rE,g0,g1,g7,g8])
     subst hX;exact⟨nofun,_,rfl,⟨_,by simp only[NaF,Yad,if_true];rfl,by rw[←hob];simp⟩,fr3,by first|omega|(show c0≤St.cnt _;simp only;omega)⟩
   |true =>
     rw[hb,Bool.true_and]at hob;simp only[Bool.not_true]
     iterate 6
      (try rw[Z0]);(try simp(maxSteps:=9^7)(disch:=first|omega|rfl|assumption)only[↓Yaa,Yab,Nae,Naa,rA,rB,rC,rD,reduceIte,unP,rE,g0,g1,g7,g8])
     exact⟨l.length - (i+1),by omega,i+1,rfl,(NaD hil).symm,rfl,by omega,hob,fr3⟩
  ·have h0:l.drop i=[]:=List.drop_of_length_le Zaa;rw[h0]at hob
   iterate 5
    (try rw[Z0]);(try simp(maxSteps:=9^7)(disch:=first|omega|rfl|assumption)only[↓Yaa,Yab,Nae,Naa,rA,rB,rC,rD,reduceIte,unP,rE,g0,g1,g7,g8])
   subst hX;exact⟨nofun,_,rfl,⟨_,by simp only[NaF,Yad,if_true];rfl,by rw[←hob];simp⟩,kof,by first|omega|(show c0≤St.cnt _;simp only;omega)⟩
 ·skip
  exact⟨0,rfl,Zab,Zab,Zab,Zab,(by first|assumption|rfl|omega|(simp only[Z0L_,Nax];omega)|(simp;omega)|(simp;done)),(by rw[List.drop_zero];exact hA),(fun j hj=>rfl),Zac⟩
theorem Nnq(hc:CfgE cfg)(hO:cd.O.length≤reachBytes)(hT:cd.T.length≤reachBytes)(hl:l.length<1000)(hfu:l.length≤fuel)(lB:B<st.cnt)(hB:st.get B=some (.cells [slV cd.zo cd.O.length (cd.O.flatMap Dc.cs),slV cd.zt cd.T.length (cd.T.flatMap Tx.cs)] false)) :
 ∃ r st',NaK cfg (fuel+3) 55 [slV z l.length (l.flatMap Et.cs),.fn 54 [.ptr B 0]] st=some (r,st')∧r=.b (!l.all (etB cd)):=by
 refine NaB (hc.fn _ _ (by kernel_rfl):cfg.fn 55=some m55) ?_;delta m55 Qa Ql Qt Qk Qm Qi;obtain⟨sto0,c0⟩:=st;simp only at lB;simp only[Nao]
 iterate 2
  (try rw[Z0]);(try simp(maxSteps:=9^7)(disch:=first|omega|rfl|assumption)only[↓Yaa,Yab,Nae,Naa,rA,rB,rC,rD,reduceIte,unP,rE,hc.e7])
 refine Nbk (NnR hc hO hT hl hfu Zad hB) ?_;rintro r ⟨sto2,c2⟩ ⟨⟨b,rfl,hb⟩,fr2,cn2⟩;simp only at cn2
 iterate 2
  (try rw[Z0]);(try simp(maxSteps:=9^7)(disch:=first|omega|rfl|assumption)only[↓Yaa,Yab,Nae,Naa,rA,rB,rC,rD,reduceIte,unP,rE])
 refine⟨nofun,_,rfl,?_⟩;simp only[NaF,Yad,if_true];rw[←hb];simp
theorem NkV(hc:CfgE cfg){ck:Int}(hck:Nai cfg (NaK cfg (fuel+3)) 47 [.agg (Cd.cs cd)]=some (.i .i64 ck))(hO:cd.O.length≤reachBytes)(hT:cd.T.length≤reachBytes)(hl:l.length<1000)(hfu:l.length≤fuel) :
 ∃ r st',NaK cfg (fuel+4) 33 [.agg (Cd.cs cd),slV z l.length (l.flatMap Et.cs)] st=some (r,st')∧r=.b (trV ck cd l):=by
 refine NaB (hc.fn _ _ (by kernel_rfl):cfg.fn 33=some m33) ?_;have gc:∀ (st:St) (key:Nat),Naq (Nai cfg (NaK cfg (fuel+3)) 47) false st key [.agg [slV cd.zo cd.O.length (cd.O.flatMap Dc.cs),slV cd.zt cd.T.length (cd.T.flatMap Tx.cs)]]=some (.i .i64 ck,st):=fun st key=>NaT (Nbf Nbu) hck rfl rfl;delta m33 Ql Qt Qs Qk Qm Qh Qi Qw Cd.cs;obtain⟨sto0,c0⟩:=st;obtain⟨R,hR⟩:∃ R,trV ck cd l=R:=⟨_,rfl⟩;rw[hR];unfold trV at hR;simp only[Nao];by_cases h0:ck=0
 ·have b0:(ck==Int.ofNat 0)=true:=by rw[h0];rfl
  rw[h0]at hR;simp only[beq_self_eq_true,Bool.true_and]at hR
  iterate 3
   (try rw[Z0]);(try simp(maxSteps:=9^7)(disch:=first|omega|rfl|assumption)only[↓Yaa,Yab,Nae,Naa,rA,rB,rC,rD,reduceIte,unP,rE,Nag,Naf,gc,b0,hc.e6])
  refine Nbk (Nnq hc hO hT hl hfu (by simp only[Z0L_];omega) (by simp(disch:=omega)only[Nar,Nas];exact Yaf _ _ _)) ?_;rintro r ⟨sto2,c2⟩ rfl;rw[hR]
  iterate 2
   (try rw[Z0]);(try simp(maxSteps:=9^7)(disch:=first|omega|rfl|assumption)only[↓Yaa,Yab,Nae,Naa,rA,rB,rC,rD,reduceIte,unP,rE])
  exact⟨nofun,_,rfl,by simp only[NaF,Yad,if_true];rw[Bool.not_not]⟩
 ·have b0:(ck==Int.ofNat 0)=false:=by simpa using h0
  have:(ck==0)=false:=by simpa using h0
  rw[this]at hR
  iterate 4
   (try rw[Z0]);(try simp(maxSteps:=9^7)(disch:=first|omega|rfl|assumption)only[↓Yaa,Yab,Nae,Naa,rA,rB,rC,rD,reduceIte,unP,rE,Nag,Naf,gc,b0])
  exact⟨nofun,_,rfl,by simp only[NaF,Yad,if_true];rw[←hR];rfl⟩
theorem Nje(hc:CfgE cfg){ck:Int}(hck:Nai cfg (NaK cfg (fuel+3)) 47 [.agg (Cd.cs cd)]=some (.i .i64 ck))(hO:cd.O.length≤reachBytes)(hT:cd.T.length≤reachBytes)(hl:l.length<1000)(hfu:l.length≤fuel) :
 Nai cfg (NaK cfg (fuel+4)) 33 [.agg (Cd.cs cd),slV z l.length (l.flatMap Et.cs)]=some (.b (trV ck cd l)) :=
 NaE hc.e4 Nco (fun _=>rfl) (NkV hc hck hO hT hl hfu)
end
end Go.Pe
