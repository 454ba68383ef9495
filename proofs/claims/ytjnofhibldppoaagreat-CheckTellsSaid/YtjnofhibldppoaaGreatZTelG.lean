/-
 CheckTells: the document's long: walked. No condition.
-/
import Derived.Test.YtjnofhibldppoaaGreatZTelB
set_option linter.unusedVariables false
set_option linter.unusedSimpArgs false
set_option maxHeartbeats 8000000
open Nat renaming reduceAdd → rB,reduceMul → rC,reduceLT → rD,reduceEqDiff → rE,reduceLeDiff → rF
namespace Go.Pe
open Go Go.Am Go.RowKit
set_option pp.deepTerms false
set_option pp.deepTerms.threshold 7
theorem Nko{cfg:Cfg}(hf:cfg.fn 21=some m21)(hc9:cfg.fn 36=some m36)(hx:cfg.ext 21=none)(hx9:cfg.ext 36=none):∀ (fuel:Nat) (l:List Sm) (z:Bool) (st:St),Sms.size l+2≤fuel→Sms.size l<1000000000000000→Sms.rt l=true →
 ∃ r st',NaC cfg (fuel+1) 21 [slV z l.length (Sms.cs l)] st=some (r,st')∧r=.i .i64 (Sms.lg l 0):=by
 intro fuel
 induction fuel with
 |zero=>intro l z st h;omega
 |succ q ih =>
   intro l z st hfu hn hrt;refine NaA hf ?_;delta m21 Qa Qr Qg Ql Qt Qn Qs Qk Qm Qh Qi Qu Qv Qo;have hlv:=NaD z l.length (Sms.cs l);have hsz:=Sms.len l;have hlle:=Sms.len_le l;obtain⟨R,hR⟩:∃ R,Sms.lg l 0=R:=⟨_,rfl⟩;rw[hR];obtain⟨sto0,c0⟩:=st;simp only[Nai];have g9:∀ n:Int,Naj cfg (NaC cfg (q+1)) 36 [.i .i64 n]=some (.i .i64 (mnI n 1000000000)):=fun n=>Naq hx9 rfl (fun _=>rfl) (NnN hc9);have g9c:∀ (n:Int) (st:St) (key:Nat),Nam (Naj cfg (NaC cfg (q+1)) 36) false st key [.i .i64 n]=some (.i .i64 (mnI n 1000000000),st):=fun n st key=>Nal rfl (g9 n) rfl
   iterate 4
    (try rw[Z0]);(try simp(maxSteps:=9^7)(disch:=first|omega|rfl|assumption)only[↓Yaa,Yab,Nae,Naa,rB,rC,rD,rE,reduceIte,unP,rF])
   refine Z9 (k:=l.length - 0) (fun m x=>∃ (i:Nat) (t:Int),m=l.length - i∧x.env.get 0=slV z l.length (Sms.cs l)∧x.env.get 3=.i .i64 t∧x.env.get 4=.i .i64 (i:Int)∧(i≤l.length)∧(0≤t∧t≤1000000000)∧(Sms.rt (l.drop i)=true)∧(Sms.lg (l.drop i) t=R)) ?_ ?_ Zaa
   ·skip
    rintro m ⟨env,⟨sto,c⟩⟩ ⟨i,t,rfl,g0,g3,g4,hi,ht,hrd,hob⟩;try simp only at g0 g3 g4
    by_cases hil:i<l.length
    ·rw[Nan hil]at g0 hlv;obtain⟨s,he⟩:∃ s,l[i]=s:=⟨_,rfl⟩;have hld:=fun st=>NcL (st:=st) hil;simp only[he]at hld;have hel:s.size≤Sms.size l:=Sms.size_mem (he▸List.getElem_mem hil);have hes:=Sm.size_eq s;rw[List.drop_eq_getElem_cons hil,he,Sms.lg,Sm.lg_eq]at hob;rw[List.drop_eq_getElem_cons hil,he,Sms.rt,Bool.and_eq_true]at hrd;obtain⟨hsh,hrB,hrE,-⟩:=No7 hrd.1;have hl3:=(Ngq hsh).1;obtain⟨q1,hq1⟩:∃ x,Sms.lg s.B 0=x:=⟨_,rfl⟩;obtain⟨q2,hq2⟩:∃ x,Sms.lg s.E 0=x:=⟨_,rfl⟩;obtain⟨k,hk⟩:∃ x,s.K.toNat=x:=⟨_,rfl⟩;obtain⟨o,ho⟩:∃ x,s.O.toNat=x:=⟨_,rfl⟩;obtain⟨n,hN⟩:∃ x,s.N=x:=⟨_,rfl⟩;have gB:Naj cfg (NaC cfg (q+1)) 21 [slV s.zb s.B.length (Sms.cs s.B)]=some (.i .i64 q1):=Naq hx NbQ (fun _=>rfl) (by rw[←hq1];exact ih s.B s.zb { sto:=.leaf,cnt:=1 } (by omega) (by omega) hrB);have gE:Naj cfg (NaC cfg (q+1)) 21 [slV s.ze s.E.length (Sms.cs s.E)]=some (.i .i64 q2):=Naq hx NbQ (fun _=>rfl) (by rw[←hq2];exact ih s.E s.ze { sto:=.leaf,cnt:=1 } (by omega) (by omega) hrE);have b1:=(Sms.lg_run s.B 0 hrB Zaa Zaa).1;have b2:=(Sms.lg_run s.E 0 hrE Zaa Zaa).1;rw[hq1,hq2,hk,ho,hN]at hob;rw[hq1]at b1;rw[hq2]at b2;rw[hk,hN]at hl3;simp only[hk,ho,hN]at hld;have hlg:=Np5 (k:=k) (o:=o) (fun h=>(hl3 h).1) b1.1 b2.1 ht.1;obtain⟨T,hT⟩:∃ T,lgS k o n q1 q2 t=T:=⟨_,rfl⟩;rw[hT]at hob hlg
     iterate 2
      (try rw[Z0]);(try simp(maxSteps:=9^7)(disch:=first|omega|rfl|assumption)only[↓Yaa,Yab,Nae,Naa,rB,rC,rD,rE,reduceIte,unP,rF,g0,g3,g4,hlv])
     refine Nbn fun K9 hK9=>?_;(try rw[Z0]);(try simp(maxSteps:=9^7)(disch:=first|omega|rfl|assumption)only[↓Yaa,Yab,Nae,Naa,rB,rC,rD,rE,reduceIte,unP,rF,g0,g3,g4]);(try rw[Z0]);(try simp(maxSteps:=9^7)(disch:=first|omega|rfl|assumption)only[↓Yaa,Yab,Nae,Naa,rB,rC,rD,rE,reduceIte,unP,rF,g0,g3,g4,hsz,hld,Nag,Naf]);refine NaL (fun x=>∃ (B:Nat),B<x.st.cnt∧x.env.get 0=.fsl l.length (Sms.cs l)∧x.env.get 3=.i .i64 t∧x.env.get 4=.i .i64 (i:Int)∧x.env.get 5=.ptr B 0∧x.st.get B=some (.cells [.i .u8 (k:Int),.i .u8 (o:Int),.s s.J,.s s.I,.i .i64 n,slV s.za s.A.length (Exs.cs s.A),slV s.zb s.B.length (Sms.cs s.B),slV s.ze s.E.length (Sms.cs s.E),.i .i64 s.R] false)) ?_ ?_
     ·refine⟨c+64,Zab,?_,?_,?_,?_,(by rw[Yaf])⟩<;>first|with_reducible rfl|with_reducible assumption|(simp[Yad,g0,g3,g4]<;>omega)
     clear g0 g3 g4;rintro⟨env,⟨sto,c⟩⟩ ⟨B,bB,g0,g3,g4,g5,kB⟩;try simp only at bB g0 g3 g4 g5
     replace kB:∀ n',St.get ⟨sto,n'⟩ B=some (.cells [.i .u8 (k:Int),.i .u8 (o:Int),.s s.J,.s s.I,.i .i64 n,slV s.za s.A.length (Exs.cs s.A),slV s.zb s.B.length (Sms.cs s.B),slV s.ze s.E.length (Sms.cs s.E),.i .i64 s.R] false):=fun _=>kB;refine NaQ (fun x=>B<x.st.cnt∧x.env.get 0=.fsl l.length (Sms.cs l)∧x.env.get 3=.i .i64 t∧x.env.get 4=.i .i64 (i:Int)∧x.env.get 5=.ptr B 0∧x.st.get B=some (.cells [.i .u8 (k:Int),.i .u8 (o:Int),.s s.J,.s s.I,.i .i64 n,slV s.za s.A.length (Exs.cs s.A),slV s.zb s.B.length (Sms.cs s.B),slV s.ze s.E.length (Sms.cs s.E),.i .i64 s.R] false)∧x.env.get 6=.i .i64 q1∧x.env.get 7=.i .i64 q2) ?_ ?_
     ·intro K1 hK1;(try rw[Z0]);(try simp(maxSteps:=9^7)(disch:=first|omega|rfl|assumption)only[↓Yaa,Yab,Nae,Naa,rB,rC,rD,rE,reduceIte,unP,rF,g0,g3,g4,g5,kB]);refine NaS (NaX NbI) gB rfl rfl ?_;(try rw[Z0]);(try simp(maxSteps:=9^7)(disch:=first|omega|rfl|assumption)only[↓Yaa,Yab,Nae,Naa,rB,rC,rD,rE,reduceIte,unP,rF,g0,g3,g4,g5,kB]);refine NaS (NaX NbI) gE rfl rfl ?_;(try rw[Z0]);(try simp(maxSteps:=9^7)(disch:=first|omega|rfl|assumption)only[↓Yaa,Yab,Nae,Naa,rB,rC,rD,rE,reduceIte,unP,rF,g0,g3,g4,g5,kB]);refine hK1 _ ⟨Zab,?_,?_,?_,?_,?_,?_,?_⟩<;>first|with_reducible rfl|with_reducible assumption|exact kB _|(simp[Yad,g0,g3,g4,g5]<;>omega)|(simp(disch:=omega)only[NaP,NaV,Yaf,kB];first|done|with_reducible rfl|with_reducible assumption)
     clear bB g0 g3 g4 g5 kB;rintro⟨env,⟨sto,c⟩⟩ ⟨bB,g0,g3,g4,g5,kB,g6,g7⟩;try simp only at bB g0 g3 g4 g5 g6 g7
     replace kB:∀ n',St.get ⟨sto,n'⟩ B=some (.cells [.i .u8 (k:Int),.i .u8 (o:Int),.s s.J,.s s.I,.i .i64 n,slV s.za s.A.length (Exs.cs s.A),slV s.zb s.B.length (Sms.cs s.B),slV s.ze s.E.length (Sms.cs s.E),.i .i64 s.R] false):=fun _=>kB;(try rw[Z0]);(try simp(maxSteps:=9^7)(disch:=first|omega|rfl|assumption)only[↓Yaa,Yab,Nae,Naa,rB,rC,rD,rE,reduceIte,unP,rF,g0,g3,g4,g5,kB,g6,g7]);unfold lgS at hT;by_cases c3:k=3
     ·have k3:((k:Int)==Int.ofNat 3)=true:=(by subst c3;rfl);by_cases cn:1000<n
      ·rw[if_pos ⟨c3,cn⟩]at hT
       iterate 2
        (try rw[Z0]);(try simp(maxSteps:=9^7)(disch:=first|omega|rfl|assumption)only[↓Yaa,Yab,Nae,Naa,rB,rC,rD,rE,reduceIte,unP,rF,g0,g3,g4,g5,kB,g6,g7,k3,cn])
       refine hK9 _ ?_
       iterate 2
        (try rw[Z0]);(try simp(maxSteps:=9^7)(disch:=first|omega|rfl|assumption)only[↓Yaa,Yab,Nae,Naa,rB,rC,rD,rE,reduceIte,unP,rF,g0,g3,g4,g5,kB,g6,g7])
       refine⟨l.length - (i+1),by omega,i+1,T,rfl,?_⟩
       repeat' apply And.intro
       all_goals first|rfl|exact(Nan hil).symm|exact congrArg _ hT|(rw[←hT];rfl)|exact hob|exact hlg.1|exact hlg.2|exact hrd.2|omega
      ·rw[if_neg (fun h=>cn h.2),if_pos c3]at hT;obtain⟨X,hX⟩:∃ X,mnI (3+q1) 1000000000=X:=⟨_,rfl⟩;have bX:=Nnk (a:=3+q1) Zaa;rw[hX]at hT bX;have hn0:=(hl3 c3).1;have m0:0≤n * X:=Int.mul_nonneg hn0 bX.1;have m1:n * X≤1000 * 1000000000:=Int.mul_le_mul Zaa bX.2 bX.1 Zaa;obtain⟨Z,hZ⟩:∃ Z,mnI (n * X) 1000000000=Z:=⟨_,rfl⟩;have bZ:=Nnk (a:=n * X) m0;rw[hZ]at hT bZ;have w1:IntKind.i64.wrap (n * X)=n * X:=NaG _ ⟨by omega,by omega⟩
       iterate 2
        (try rw[Z0]);(try simp(maxSteps:=9^7)(disch:=first|omega|rfl|assumption)only[↓Yaa,Yab,Nae,Naa,rB,rC,rD,rE,reduceIte,unP,rF,g0,g3,g4,g5,kB,g6,g7,k3,cn])
       refine NaS (Na8 rfl) (g9 _) rfl rfl ?_;rw[show((3:Nat):Int)+q1=3+q1 from rfl,hX];(try rw[Z0]);(try simp(maxSteps:=9^7)(disch:=first|omega|rfl|assumption)only[↓Yaa,Yab,Nae,Naa,rB,rC,rD,rE,reduceIte,unP,rF,g0,g3,g4,g5,kB,g6,g7,w1]);refine NaS (Na8 rfl) (g9 _) rfl rfl ?_;rw[hZ];(try rw[Z0]);(try simp(maxSteps:=9^7)(disch:=first|omega|rfl|assumption)only[↓Yaa,Yab,Nae,Naa,rB,rC,rD,rE,reduceIte,unP,rF,g0,g3,g4,g5,kB,g6,g7]);refine NaS (Na8 rfl) (g9 _) rfl rfl ?_;(try rw[Z0]);(try simp(maxSteps:=9^7)(disch:=first|omega|rfl|assumption)only[↓Yaa,Yab,Nae,Naa,rB,rC,rD,rE,reduceIte,unP,rF,g0,g3,g4,g5,kB,g6,g7]);refine hK9 _ ?_
       iterate 2
        (try rw[Z0]);(try simp(maxSteps:=9^7)(disch:=first|omega|rfl|assumption)only[↓Yaa,Yab,Nae,Naa,rB,rC,rD,rE,reduceIte,unP,rF,g0,g3,g4,g5,kB,g6,g7])
       refine⟨l.length - (i+1),by omega,i+1,T,rfl,?_⟩
       repeat' apply And.intro
       all_goals first|rfl|exact(Nan hil).symm|exact congrArg _ hT|(rw[←hT];rfl)|exact hob|exact hlg.1|exact hlg.2|exact hrd.2|omega
     ·have k3:((k:Int)==Int.ofNat 3)=false:=(by simp;omega);rw[if_neg (fun h=>c3 h.1),if_neg c3]at hT;by_cases c4:k=4
      ·have k4:((k:Int)==Int.ofNat 4)=true:=(by subst c4;rfl);rw[if_pos c4]at hT
       iterate 3
        (try rw[Z0]);(try simp(maxSteps:=9^7)(disch:=first|omega|rfl|assumption)only[↓Yaa,Yab,Nae,Naa,rB,rC,rD,rE,reduceIte,unP,rF,g0,g3,g4,g5,kB,g6,g7,k3,k4,g9c])
       refine hK9 _ ?_
       iterate 2
        (try rw[Z0]);(try simp(maxSteps:=9^7)(disch:=first|omega|rfl|assumption)only[↓Yaa,Yab,Nae,Naa,rB,rC,rD,rE,reduceIte,unP,rF,g0,g3,g4,g5,kB,g6,g7])
       refine⟨l.length - (i+1),by omega,i+1,T,rfl,?_⟩
       repeat' apply And.intro
       all_goals first|rfl|exact(Nan hil).symm|exact congrArg _ hT|(rw[←hT];rfl)|exact hob|exact hlg.1|exact hlg.2|exact hrd.2|omega
      ·have k4:((k:Int)==Int.ofNat 4)=false:=(by simp;omega);rw[if_neg c4]at hT;by_cases c1:k=1∧o=16
       ·have k1:((k:Int)==Int.ofNat 1)=true:=(by rw[c1.1];rfl);have o1:((o:Int)==Int.ofNat 16)=true:=(by rw[c1.2];rfl);rw[if_pos c1]at hT
        iterate 4
         (try rw[Z0]);(try simp(maxSteps:=9^7)(disch:=first|omega|rfl|assumption)only[↓Yaa,Yab,Nae,Naa,rB,rC,rD,rE,reduceIte,unP,rF,g0,g3,g4,g5,kB,g6,g7,k3,k4,k1,o1,g9c])
        refine hK9 _ ?_
        iterate 2
         (try rw[Z0]);(try simp(maxSteps:=9^7)(disch:=first|omega|rfl|assumption)only[↓Yaa,Yab,Nae,Naa,rB,rC,rD,rE,reduceIte,unP,rF,g0,g3,g4,g5,kB,g6,g7])
        refine⟨l.length - (i+1),by omega,i+1,T,rfl,?_⟩
        repeat' apply And.intro
        all_goals first|rfl|exact(Nan hil).symm|exact congrArg _ hT|(rw[←hT];rfl)|exact hob|exact hlg.1|exact hlg.2|exact hrd.2|omega
       ·rw[if_neg c1]at hT;by_cases c2:k=1
        ·have k1:((k:Int)==Int.ofNat 1)=true:=(by rw[c2];rfl);have o1:((o:Int)==Int.ofNat 16)=false:=by simp;omega
         iterate 4
          (try rw[Z0]);(try simp(maxSteps:=9^7)(disch:=first|omega|rfl|assumption)only[↓Yaa,Yab,Nae,Naa,rB,rC,rD,rE,reduceIte,unP,rF,g0,g3,g4,g5,kB,g6,g7,k3,k4,k1,o1,g9c])
         refine hK9 _ ?_
         iterate 2
          (try rw[Z0]);(try simp(maxSteps:=9^7)(disch:=first|omega|rfl|assumption)only[↓Yaa,Yab,Nae,Naa,rB,rC,rD,rE,reduceIte,unP,rF,g0,g3,g4,g5,kB,g6,g7])
         refine⟨l.length - (i+1),by omega,i+1,T,rfl,?_⟩
         repeat' apply And.intro
         all_goals first|rfl|exact(Nan hil).symm|exact congrArg _ hT|(rw[←hT];rfl)|exact hob|exact hlg.1|exact hlg.2|exact hrd.2|omega
        ·have k1:((k:Int)==Int.ofNat 1)=false:=by simp;omega
         iterate 4
          (try rw[Z0]);(try simp(maxSteps:=9^7)(disch:=first|omega|rfl|assumption)only[↓Yaa,Yab,Nae,Naa,rB,rC,rD,rE,reduceIte,unP,rF,g0,g3,g4,g5,kB,g6,g7,k3,k4,k1,g9c])
         refine hK9 _ ?_
         iterate 2
          (try rw[Z0]);(try simp(maxSteps:=9^7)(disch:=first|omega|rfl|assumption)only[↓Yaa,Yab,Nae,Naa,rB,rC,rD,rE,reduceIte,unP,rF,g0,g3,g4,g5,kB,g6,g7])
         refine⟨l.length - (i+1),by omega,i+1,T,rfl,?_⟩
         repeat' apply And.intro
         all_goals first|rfl|exact(Nan hil).symm|exact congrArg _ hT|(rw[←hT];rfl)|exact hob|exact hlg.1|exact hlg.2|exact hrd.2|omega
    ·have h0:l.drop i=[]:=List.drop_of_length_le Zaa;rw[h0,Sms.lg]at hob
     iterate 6
      (try rw[Z0]);(try simp(maxSteps:=9^7)(disch:=first|omega|rfl|assumption)only[↓Yaa,Yab,Nae,Naa,rB,rC,rD,rE,reduceIte,unP,rF,g0,g3,g4,hlv])
     exact⟨nofun,_,rfl,by simp only[Nay,Yad,if_true];rw[←hob]⟩
   ·skip
    exact⟨0,0,rfl,Zac,Zac,Zac,Zad,Zad,(by rw[List.drop_zero];exact hrt),(by rw[List.drop_zero];exact hR)⟩
end Go.Pe
