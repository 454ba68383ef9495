/-
 The document's tree: is a statement right by itself: walked. No condition.
-/
import Derived.Test.YtjnofhibldppoaaZRigC
set_option linter.unusedVariables false
set_option linter.unusedSimpArgs false
set_option maxHeartbeats 16000000
open Nat renaming reduceAdd → rB,reduceMul → rC,reduceLT → rD,reduceEqDiff → rE,reduceLeDiff → rF
namespace Go.Pe
open Go Go.Am Go.RowKit
def ivB(o:Nat)(i:List UInt8):Bool:=if NeW o=true then NaJ i else i==[]
theorem NpV(o:Nat)(j i:List UInt8)(n:Int)(a b e:Nat):Na0 1 o j i n a b e=(!(doT o j n a b e)&&ivB o i):=by
 unfold Na0 ivB;rw[if_pos rfl];cases doT o j n a b e<;>simp
theorem Nmo{cfg:Cfg}(hc:CfgR cfg){fuel:Nat}(hfu:4≤fuel){k o:Nat}{j i:List UInt8}{n:Int}{a b e:Nat}{va vb ve:PV}{r:Int}(la:Nd7 va=some (.i .i64 a))(lb:Nd7 vb=some (.i .i64 b))(le:Nd7 ve=some (.i .i64 e))
 (oa:va.one=true) (ob:vb.one=true) (oe:ve.one=true) (ca:va.cells=[va]) (cb:vb.cells=[vb]) (ce:ve.cells=[ve]) (hb:b+e<9223372036854775807) {st:St} :
 ∃ r' st',Nay cfg (fuel+1) 42 [.agg [.i .u8 (k:Int),.i .u8 (o:Int),.s j,.s i,.i .i64 n,va,vb,ve,.i .i64 r]] st=some (r',st')∧r'=.b (Na0 k o j i n a b e):=by
 refine Nax (hc.fn _ _ (by kernel_rfl):cfg.fn 42=some m42) ?_;delta m42 Qr Qg Ql Qt Qs Qk Qm Qh Qi Qu Qv;obtain⟨q,rfl⟩:∃ q,fuel=q+1:=⟨fuel - 1,by omega⟩;have gN:∀ x,Nak cfg (Nay cfg (q+1)) 31 [.s x]=some (.b (NaJ x)):=fun x=>Nar hc.r1 rfl (fun _=>rfl) (Nf6 (hc.fn _ _ (by kernel_rfl)) hc.rn);have kN:∀ x (st:St) (key:Nat),Nam (Nak cfg (Nay cfg (q+1)) 31) false st key [.s x]=some (.b (NaJ x),st):=fun x st key=>Nal rfl (gN x) rfl;have hdS:∀ (st:St) x,Nbk st [.s x]=some [.s x]:=fun _ _=>rfl;have hdI:∀ (st:St) k n,Nbk st [.i k n]=some [.i k n]:=fun _ _ _=>rfl;have cbB:∀ x,PV.closedB (.b x)=true:=fun _=>rfl;have cbI:∀ k n,PV.closedB (.i k n)=true:=fun _ _=>rfl;have rbB:∀ (st:St) (key:Nat) x,NaE st key (.b x)=some (.b x,st):=fun _ _ _=>rfl;have rbI:∀ (st:St) (key:Nat) k n,NaE st key (.i k n)=some (.i k n,st):=fun _ _ _ _=>rfl;have gA:Nak cfg (Nay cfg (q+1)) 28 [.i .u8 (o:Int)]=some (.i .i64 (argsN o:Int)):=Nar hc.r2 rfl (fun _=>rfl) (Nld (hc.fn _ _ (by kernel_rfl)));have kI:∀ (st:St) (key:Nat),Nam (Nak cfg (Nay cfg (q+1)) 29) false st key [.i .u8 (o:Int)]=some (.b (NeW o),st):=fun st key =>
  Nal rfl (Nar hc.r3 rfl (fun _=>rfl) (NlM (hc.fn _ _ (by kernel_rfl)))) rfl
 have hwb:IntKind.i64.wrap ((b:Int)+(e:Int))=((b+e:Nat):Int):=by rw[NaD _ ⟨by omega,by omega⟩];omega
 obtain⟨z,hz⟩:∃ z,(((b+e:Nat):Int)==((0:Nat):Int))=z:=⟨_,rfl⟩;have hz1:z=true→b=0∧e=0:=fun h=>by
  rw[h]at hz;have:((b+e:Nat):Int)=0:=by simpa using hz
  omega
 have hz0:z=false→0<b+e:=fun h=>by
  rw[h]at hz;have:¬ ((b+e:Nat):Int)=0:=by simpa using hz
  omega
 simp only[Naj]
 iterate 2
  (try rw[Z0]);(try simp(maxSteps:=9^7)(disch:=first|omega|rfl|assumption)only[↓Yaa,Yab,Nae,Naa,rB,rC,rD,rE,reduceIte,unP,rF,la,lb,le,oa,ob,oe,ca,cb,ce,hwb,hz])
 refine NaL (fun x=>∃ K:Nat,x.env.get 1=.ptr K 0∧x.env.get 3=.b z∧x.st.get K=some (.cells [.i .u8 (k:Int),.i .u8 (o:Int),.s j,.s i,.i .i64 n,va,vb,ve,.i .i64 r] false)) ?_ ?_
 ·refine⟨st.cnt,?_⟩;simp(disch:=first|omega|rfl|assumption)only[Yad,rE,reduceIte,NaG,Njl,true_and,hz]
 rintro⟨env,⟨sto,c⟩⟩ ⟨K,g1,g3,kC⟩;simp only at g1 g3;replace kC:∀ n',St.get ⟨sto,n'⟩ K=some (.cells [.i .u8 (k:Int),.i .u8 (o:Int),.s j,.s i,.i .i64 n,va,vb,ve,.i .i64 r] false):=fun _=>kC;by_cases k1:k=1
 ·subst k1;rw[NpV];obtain⟨bi,hbi⟩:∃ bi,(i==[])=bi:=⟨_,rfl⟩;obtain⟨iv,hiv⟩:∃ iv,ivB o i=iv:=⟨_,rfl⟩;rw[hiv];unfold ivB at hiv;rw[hbi]at hiv
  iterate 4
   (try rw[Z0]);(try simp(maxSteps:=9^7)(disch:=first|omega|rfl|assumption)only[↓Yaa,Yab,Nae,Naa,rB,rC,rD,rE,reduceIte,unP,rF,g1,g3,kC,hbi])
  refine Za (fun x=>x.env.get 4=.b iv∧x.env.get 1=.ptr K 0∧x.env.get 3=.b z∧x.st.get K=some (.cells [.i .u8 ((1:Nat):Int),.i .u8 (o:Int),.s j,.s i,.i .i64 n,va,vb,ve,.i .i64 r] false)) ?_ ?_
  ·cases hI:NeW o with
   |true =>
     rw[hI,if_pos rfl]at hiv
     iterate 2
      (try rw[Z0]);(try simp(maxSteps:=9^7)(disch:=first|omega|rfl|assumption)only[↓Yaa,Yab,Nae,Naa,rB,rC,rD,rE,reduceIte,unP,rF,g1,g3,kC,kI,hI,kN,hiv])
   |false =>
     rw[hI,if_neg Zaf]at hiv;subst hiv
     iterate 2
      (try rw[Z0]);(try simp(maxSteps:=9^7)(disch:=first|omega|rfl|assumption)only[↓Yaa,Yab,Nae,Naa,rB,rC,rD,rE,reduceIte,unP,rF,g1,g3,kC,kI,hI])
  clear g1 g3 kC;rintro⟨env,⟨sto,c⟩⟩ ⟨g4,g1,g3,kC⟩;simp only at g1 g3 g4;replace kC:∀ n',St.get ⟨sto,n'⟩ K=_:=fun _=>kC;by_cases h1:o<1
  ·have b1:¬ (1:Int)≤(o:Int):=by omega
   iterate 2
    (try rw[Z0]);(try simp(maxSteps:=9^7)(disch:=first|omega|rfl|assumption)only[↓Yaa,Yab,Nae,Naa,rB,rC,rD,rE,reduceIte,unP,rF,g1,g3,g4,kC,kN,gN,gA,hdS,hdI,cbB,cbI,rbB,rbI,la,lb,le])
   exact⟨nofun,_,rfl,by simp only[Nau,Yad,if_true];rw[show doT o j n a b e=true by unfold doT;rw[if_pos h1]];rfl⟩
  by_cases h2:23<o
  ·have b1:¬ (o:Int)≤23:=by omega
   iterate 2
    (try rw[Z0]);(try simp(maxSteps:=9^7)(disch:=first|omega|rfl|assumption)only[↓Yaa,Yab,Nae,Naa,rB,rC,rD,rE,reduceIte,unP,rF,g1,g3,g4,kC,kN,gN,gA,hdS,hdI,cbB,cbI,rbB,rbI,la,lb,le])
   exact⟨nofun,_,rfl,by simp only[Nau,Yad,if_true];rw[show doT o j n a b e=true by unfold doT;rw[if_neg h1,if_pos h2]];rfl⟩
  by_cases h3:NaJ j=false
  ·rw[show doT o j n a b e=true by unfold doT;rw[if_neg h1,if_neg h2,if_pos h3]]
   iterate 2
    (try rw[Z0]);(try simp(maxSteps:=9^7)(disch:=first|omega|rfl|assumption)only[↓Yaa,Yab,Nae,Naa,rB,rC,rD,rE,reduceIte,unP,rF,g1,g3,g4,kC,kN,gN,gA,hdS,hdI,cbB,cbI,rbB,rbI,la,lb,le,h3])
   exact⟨nofun,_,rfl,by simp only[Nau,Yad,if_true]<;>rfl⟩
  have h3t:NaJ j=true:=by simpa using h3
  cases iv with
  |false =>
    iterate 2
     (try rw[Z0]);(try simp(maxSteps:=9^7)(disch:=first|omega|rfl|assumption)only[↓Yaa,Yab,Nae,Naa,rB,rC,rD,rE,reduceIte,unP,rF,g1,g3,g4,kC,kN,gN,gA,hdS,hdI,cbB,cbI,rbB,rbI,la,lb,le,h3t])
    exact⟨nofun,_,rfl,by simp only[Nau,Yad,if_true];rw[Bool.and_false]⟩
  |true =>
  rw[Bool.and_true];by_cases h4:n≠0
  ·rw[show doT o j n a b e=true by unfold doT;rw[if_neg h1,if_neg h2,if_neg h3,if_pos h4]];have b4:(n==Int.ofNat 0)=false:=by simpa using h4
   iterate 2
    (try rw[Z0]);(try simp(maxSteps:=9^7)(disch:=first|omega|rfl|assumption)only[↓Yaa,Yab,Nae,Naa,rB,rC,rD,rE,reduceIte,unP,rF,g1,g3,g4,kC,kN,gN,gA,hdS,hdI,cbB,cbI,rbB,rbI,la,lb,le,h3t,b4])
   exact⟨nofun,_,rfl,by simp only[Nau,Yad,if_true]<;>rfl⟩
  have h4t:n=0:=by omega
  subst h4t;by_cases h5:a≠argsN o
  ·rw[show doT o j 0 a b e=true by unfold doT;rw[if_neg h1,if_neg h2,if_neg h3,if_neg h4,if_pos h5]];have b50:(a:Int)≠(argsN o:Int):=(by omega);have b5:((a:Int)==(argsN o:Int))=false:=by simpa using b50
   iterate 2
    (try rw[Z0]);(try simp(maxSteps:=9^7)(disch:=first|omega|rfl|assumption)only[↓Yaa,Yab,Nae,Naa,rB,rC,rD,rE,reduceIte,unP,rF,g1,g3,g4,kC,kN,gN,gA,hdS,hdI,cbB,cbI,rbB,rbI,la,lb,le,h3t,b5])
   exact⟨nofun,_,rfl,by simp only[Nau,Yad,if_true]<;>rfl⟩
  have h5t:a=argsN o:=by omega
  have b5:((a:Int)==(argsN o:Int))=true:=by rw[h5t];simp
  cases z with
  |true =>
    obtain⟨rfl,rfl⟩:=hz1 rfl;rw[show doT o j 0 a 0 0=false by unfold doT;rw[if_neg h1,if_neg h2,if_neg h3,if_neg h4,if_neg h5,if_neg Zaa,if_neg Zaa]]
    iterate 2
     (try rw[Z0]);(try simp(maxSteps:=9^7)(disch:=first|omega|rfl|assumption)only[↓Yaa,Yab,Nae,Naa,rB,rC,rD,rE,reduceIte,unP,rF,g1,g3,g4,kC,kN,gN,gA,hdS,hdI,cbB,cbI,rbB,rbI,la,lb,le,h3t,b5])
    exact⟨nofun,_,rfl,by simp only[Nau,Yad,if_true]<;>rfl⟩
  |false =>
    have hp:=hz0 rfl;by_cases h6:o=16
    ·by_cases h7:e=0
     ·subst h7;rw[show doT o j 0 a b 0=false by unfold doT;rw[if_neg h1,if_neg h2,if_neg h3,if_neg h4,if_neg h5,if_neg Zaa,if_pos hp,h6];rfl]
      iterate 2
       (try rw[Z0]);(try simp(maxSteps:=9^7)(disch:=first|omega|rfl|assumption)only[↓Yaa,Yab,Nae,Naa,rB,rC,rD,rE,reduceIte,unP,rF,g1,g3,g4,kC,kN,gN,gA,hdS,hdI,cbB,cbI,rbB,rbI,la,lb,le,h3t,b5])
      exact⟨nofun,_,rfl,by simp only[Nau,Yad,if_true]<;>rfl⟩
     ·rw[show doT o j 0 a b e=true by unfold doT;rw[if_neg h1,if_neg h2,if_neg h3,if_neg h4,if_neg h5,if_pos Zaa]]
      iterate 2
       (try rw[Z0]);(try simp(maxSteps:=9^7)(disch:=first|omega|rfl|assumption)only[↓Yaa,Yab,Nae,Naa,rB,rC,rD,rE,reduceIte,unP,rF,g1,g3,g4,kC,kN,gN,gA,hdS,hdI,cbB,cbI,rbB,rbI,la,lb,le,h3t,b5])
      exact⟨nofun,_,rfl,by simp only[Nau,Yad,if_true]<;>rfl⟩
    ·rw[show doT o j 0 a b e=true by unfold doT;rw[if_neg h1,if_neg h2,if_neg h3,if_neg h4,if_neg h5];simp[h6,hp]]
     iterate 2
      (try rw[Z0]);(try simp(maxSteps:=9^7)(disch:=first|omega|rfl|assumption)only[↓Yaa,Yab,Nae,Naa,rB,rC,rD,rE,reduceIte,unP,rF,g1,g3,g4,kC,kN,gN,gA,hdS,hdI,cbB,cbI,rbB,rbI,la,lb,le,h3t,b5])
     exact⟨nofun,_,rfl,by simp only[Nau,Yad,if_true]<;>rfl⟩
 have n1:((k:Int)==Int.ofNat 1)=false:=by simp;omega
 rw[show Na0 k o j i n a b e=(if k=2 then Nfe o j i n a (b+e)else if Nby o j i=true then false else if k=3 then(if n<0 then false else if a≠0 then false else e==0)else if k=4 then(if n≠0 then false else a==1)else false) by unfold Na0;rw[if_neg k1]];by_cases k2:k=2
 ·subst k2;rw[if_pos rfl];by_cases h1:o≠0
  ·have b1:((o:Int)==Int.ofNat 0)=false:=by simp;omega
   iterate 8
    (try rw[Z0]);(try simp(maxSteps:=9^7)(disch:=first|omega|rfl|assumption)only[↓Yaa,Yab,Nae,Naa,rB,rC,rD,rE,reduceIte,unP,rF,g1,g3,kC,kN,gN,gA,hdS,hdI,cbB,cbI,rbB,rbI,la,lb,le])
   exact⟨nofun,_,rfl,by simp only[Nau,Yad,if_true];unfold Nfe;rw[if_pos h1]⟩
  obtain rfl:o=0:=by omega
  by_cases h2:j≠[]
  ·have b2:(j==[])=false:=by simpa using h2
   iterate 8
    (try rw[Z0]);(try simp(maxSteps:=9^7)(disch:=first|omega|rfl|assumption)only[↓Yaa,Yab,Nae,Naa,rB,rC,rD,rE,reduceIte,unP,rF,g1,g3,kC,kN,gN,gA,hdS,hdI,cbB,cbI,rbB,rbI,la,lb,le,b2])
   exact⟨nofun,_,rfl,by simp only[Nau,Yad,if_true];unfold Nfe;rw[if_neg h1,if_pos h2]⟩
  have b2:(j==[])=true:=by simpa using h2
  cases h3:NaJ i with
  |false =>
    iterate 8
     (try rw[Z0]);(try simp(maxSteps:=9^7)(disch:=first|omega|rfl|assumption)only[↓Yaa,Yab,Nae,Naa,rB,rC,rD,rE,reduceIte,unP,rF,g1,g3,kC,kN,gN,gA,hdS,hdI,cbB,cbI,rbB,rbI,la,lb,le,b2,h3])
    exact⟨nofun,_,rfl,by simp only[Nau,Yad,if_true];unfold Nfe;rw[h3];simp⟩
  |true =>
  by_cases h4:n≠0
  ·have b4:(n==Int.ofNat 0)=false:=by simpa using h4
   iterate 8
    (try rw[Z0]);(try simp(maxSteps:=9^7)(disch:=first|omega|rfl|assumption)only[↓Yaa,Yab,Nae,Naa,rB,rC,rD,rE,reduceIte,unP,rF,g1,g3,kC,kN,gN,gA,hdS,hdI,cbB,cbI,rbB,rbI,la,lb,le,b2,h3,b4])
   exact⟨nofun,_,rfl,by simp only[Nau,Yad,if_true];unfold Nfe;rw[if_neg h1,if_neg h2,if_pos h4]⟩
  obtain rfl:n=0:=by omega
  by_cases h5:a≠1
  ·have b50:(a:Int)≠Int.ofNat 1:=(by show(a:Int)≠1;omega);have b5:((a:Int)==Int.ofNat 1)=false:=by simpa using b50
   iterate 8
    (try rw[Z0]);(try simp(maxSteps:=9^7)(disch:=first|omega|rfl|assumption)only[↓Yaa,Yab,Nae,Naa,rB,rC,rD,rE,reduceIte,unP,rF,g1,g3,kC,kN,gN,gA,hdS,hdI,cbB,cbI,rbB,rbI,la,lb,le,b2,h3,b5])
   exact⟨nofun,_,rfl,by simp only[Nau,Yad,if_true];unfold Nfe;rw[if_neg h1,if_neg h2,if_neg h4,if_pos h5]⟩
  obtain rfl:a=1:=by omega
  cases z with
  |true =>
    obtain⟨rfl,rfl⟩:=hz1 rfl
    iterate 8
     (try rw[Z0]);(try simp(maxSteps:=9^7)(disch:=first|omega|rfl|assumption)only[↓Yaa,Yab,Nae,Naa,rB,rC,rD,rE,reduceIte,unP,rF,g1,g3,kC,kN,gN,gA,hdS,hdI,cbB,cbI,rbB,rbI,la,lb,le,b2,h3])
    exact⟨nofun,_,rfl,by simp only[Nau,Yad,if_true];unfold Nfe;rw[h3,if_neg h1,if_neg h2,if_neg h4,if_neg h5,if_neg Zaa]⟩
  |false =>
    have hp:=hz0 rfl
    iterate 8
     (try rw[Z0]);(try simp(maxSteps:=9^7)(disch:=first|omega|rfl|assumption)only[↓Yaa,Yab,Nae,Naa,rB,rC,rD,rE,reduceIte,unP,rF,g1,g3,kC,kN,gN,gA,hdS,hdI,cbB,cbI,rbB,rbI,la,lb,le,b2,h3])
    exact⟨nofun,_,rfl,by simp only[Nau,Yad,if_true];unfold Nfe;rw[if_neg h1,if_neg h2,if_neg h4,if_neg h5,if_pos Zaa]⟩
 have n2:((k:Int)==Int.ofNat 2)=false:=by simp;omega
 rw[if_neg k2];by_cases k3:k=3
 ·subst k3;by_cases h1:o≠0
  ·have b1:((o:Int)==Int.ofNat 0)=false:=(by simp;omega);rw[show Nby o j i=true by unfold Nby;rw[if_pos h1],if_pos rfl]
   iterate 9
    (try rw[Z0]);(try simp(maxSteps:=9^7)(disch:=first|omega|rfl|assumption)only[↓Yaa,Yab,Nae,Naa,rB,rC,rD,rE,reduceIte,unP,rF,g1,g3,kC,kN,gN,gA,hdS,hdI,cbB,cbI,rbB,rbI,la,lb,le])
   exact⟨nofun,_,rfl,by simp only[Nau,Yad,if_true]<;>rfl⟩
  obtain rfl:o=0:=by omega
  by_cases h2:j≠[]
  ·have b2:(j==[])=false:=(by simpa using h2);rw[show Nby 0 j i=true by unfold Nby;rw[if_neg h1,if_pos h2],if_pos rfl]
   iterate 9
    (try rw[Z0]);(try simp(maxSteps:=9^7)(disch:=first|omega|rfl|assumption)only[↓Yaa,Yab,Nae,Naa,rB,rC,rD,rE,reduceIte,unP,rF,g1,g3,kC,kN,gN,gA,hdS,hdI,cbB,cbI,rbB,rbI,la,lb,le,b2])
   exact⟨nofun,_,rfl,by simp only[Nau,Yad,if_true]<;>rfl⟩
  have b2:(j==[])=true:=by simpa using h2
  by_cases h3:i≠[]
  ·have b3:(i==[])=false:=(by simpa using h3);rw[show Nby 0 j i=true by unfold Nby;rw[if_neg h1,if_neg h2];simpa using h3,if_pos rfl]
   iterate 9
    (try rw[Z0]);(try simp(maxSteps:=9^7)(disch:=first|omega|rfl|assumption)only[↓Yaa,Yab,Nae,Naa,rB,rC,rD,rE,reduceIte,unP,rF,g1,g3,kC,kN,gN,gA,hdS,hdI,cbB,cbI,rbB,rbI,la,lb,le,b2,b3])
   exact⟨nofun,_,rfl,by simp only[Nau,Yad,if_true]<;>rfl⟩
  have b3:(i==[])=true:=by simpa using h3
  rw[show Nby 0 j i=false by unfold Nby;rw[if_neg h1,if_neg h2];simpa using h3,if_neg Zaf];rw[if_pos rfl];by_cases h4:n<0
  ·rw[if_pos h4]
   iterate 9
    (try rw[Z0]);(try simp(maxSteps:=9^7)(disch:=first|omega|rfl|assumption)only[↓Yaa,Yab,Nae,Naa,rB,rC,rD,rE,reduceIte,unP,rF,g1,g3,kC,kN,gN,gA,hdS,hdI,cbB,cbI,rbB,rbI,la,lb,le,b2,b3])
   exact⟨nofun,_,rfl,by simp only[Nau,Yad,if_true]<;>rfl⟩
  rw[if_neg h4];by_cases h5:a≠0
  ·have b50:(a:Int)≠Int.ofNat 0:=(by show(a:Int)≠0;omega);have b5:((a:Int)==Int.ofNat 0)=false:=(by simpa using b50);rw[if_pos h5]
   iterate 9
    (try rw[Z0]);(try simp(maxSteps:=9^7)(disch:=first|omega|rfl|assumption)only[↓Yaa,Yab,Nae,Naa,rB,rC,rD,rE,reduceIte,unP,rF,g1,g3,kC,kN,gN,gA,hdS,hdI,cbB,cbI,rbB,rbI,la,lb,le,b2,b3,b5])
   exact⟨nofun,_,rfl,by simp only[Nau,Yad,if_true]<;>rfl⟩
  obtain rfl:a=0:=by omega
  rw[if_neg h5];by_cases h6:e=0
  ·subst h6
   iterate 9
    (try rw[Z0]);(try simp(maxSteps:=9^7)(disch:=first|omega|rfl|assumption)only[↓Yaa,Yab,Nae,Naa,rB,rC,rD,rE,reduceIte,unP,rF,g1,g3,kC,kN,gN,gA,hdS,hdI,cbB,cbI,rbB,rbI,la,lb,le,b2,b3])
   exact⟨nofun,_,rfl,by simp only[Nau,Yad,if_true]<;>rfl⟩
  ·have b60:(e:Int)≠Int.ofNat 0:=(by show(e:Int)≠0;omega);have b6:((e:Int)==Int.ofNat 0)=false:=by simpa using b60
   iterate 9
    (try rw[Z0]);(try simp(maxSteps:=9^7)(disch:=first|omega|rfl|assumption)only[↓Yaa,Yab,Nae,Naa,rB,rC,rD,rE,reduceIte,unP,rF,g1,g3,kC,kN,gN,gA,hdS,hdI,cbB,cbI,rbB,rbI,la,lb,le,b2,b3,b6])
   exact⟨nofun,_,rfl,by simp only[Nau,Yad,if_true];simp[h6]⟩
 have n3:((k:Int)==Int.ofNat 3)=false:=by simp;omega
 by_cases k4:k=4
 ·subst k4;by_cases h1:o≠0
  ·have b1:((o:Int)==Int.ofNat 0)=false:=(by simp;omega);rw[show Nby o j i=true by unfold Nby;rw[if_pos h1],if_pos rfl]
   iterate 9
    (try rw[Z0]);(try simp(maxSteps:=9^7)(disch:=first|omega|rfl|assumption)only[↓Yaa,Yab,Nae,Naa,rB,rC,rD,rE,reduceIte,unP,rF,g1,g3,kC,kN,gN,gA,hdS,hdI,cbB,cbI,rbB,rbI,la,lb,le])
   exact⟨nofun,_,rfl,by simp only[Nau,Yad,if_true]<;>rfl⟩
  obtain rfl:o=0:=by omega
  by_cases h2:j≠[]
  ·have b2:(j==[])=false:=(by simpa using h2);rw[show Nby 0 j i=true by unfold Nby;rw[if_neg h1,if_pos h2],if_pos rfl]
   iterate 9
    (try rw[Z0]);(try simp(maxSteps:=9^7)(disch:=first|omega|rfl|assumption)only[↓Yaa,Yab,Nae,Naa,rB,rC,rD,rE,reduceIte,unP,rF,g1,g3,kC,kN,gN,gA,hdS,hdI,cbB,cbI,rbB,rbI,la,lb,le,b2])
   exact⟨nofun,_,rfl,by simp only[Nau,Yad,if_true]<;>rfl⟩
  have b2:(j==[])=true:=by simpa using h2
  by_cases h3:i≠[]
  ·have b3:(i==[])=false:=(by simpa using h3);rw[show Nby 0 j i=true by unfold Nby;rw[if_neg h1,if_neg h2];simpa using h3,if_pos rfl]
   iterate 9
    (try rw[Z0]);(try simp(maxSteps:=9^7)(disch:=first|omega|rfl|assumption)only[↓Yaa,Yab,Nae,Naa,rB,rC,rD,rE,reduceIte,unP,rF,g1,g3,kC,kN,gN,gA,hdS,hdI,cbB,cbI,rbB,rbI,la,lb,le,b2,b3])
   exact⟨nofun,_,rfl,by simp only[Nau,Yad,if_true]<;>rfl⟩
  have b3:(i==[])=true:=by simpa using h3
  rw[show Nby 0 j i=false by unfold Nby;rw[if_neg h1,if_neg h2];simpa using h3,if_neg Zaf];rw[if_neg Zaa,if_pos rfl];by_cases h4:n≠0
  ·have b4:(n==Int.ofNat 0)=false:=(by simpa using h4);rw[if_pos h4]
   iterate 10
    (try rw[Z0]);(try simp(maxSteps:=9^7)(disch:=first|omega|rfl|assumption)only[↓Yaa,Yab,Nae,Naa,rB,rC,rD,rE,reduceIte,unP,rF,g1,g3,kC,kN,gN,gA,hdS,hdI,cbB,cbI,rbB,rbI,la,lb,le,b2,b3,b4])
   exact⟨nofun,_,rfl,by simp only[Nau,Yad,if_true]<;>rfl⟩
  obtain rfl:n=0:=by omega
  rw[if_neg h4];by_cases h5:a=1
  ·subst h5
   iterate 10
    (try rw[Z0]);(try simp(maxSteps:=9^7)(disch:=first|omega|rfl|assumption)only[↓Yaa,Yab,Nae,Naa,rB,rC,rD,rE,reduceIte,unP,rF,g1,g3,kC,kN,gN,gA,hdS,hdI,cbB,cbI,rbB,rbI,la,lb,le,b2,b3])
   exact⟨nofun,_,rfl,by simp only[Nau,Yad,if_true]<;>rfl⟩
  ·have b50:(a:Int)≠Int.ofNat 1:=(by show(a:Int)≠1;omega);have b5:((a:Int)==Int.ofNat 1)=false:=by simpa using b50
   iterate 10
    (try rw[Z0]);(try simp(maxSteps:=9^7)(disch:=first|omega|rfl|assumption)only[↓Yaa,Yab,Nae,Naa,rB,rC,rD,rE,reduceIte,unP,rF,g1,g3,kC,kN,gN,gA,hdS,hdI,cbB,cbI,rbB,rbI,la,lb,le,b2,b3,b5])
   exact⟨nofun,_,rfl,by simp only[Nau,Yad,if_true];simp[h5]⟩
 have n4:((k:Int)==Int.ofNat 4)=false:=by simp;omega
 rw[if_neg k3,if_neg k4]
 iterate 10
  (try rw[Z0]);(try simp(maxSteps:=9^7)(disch:=first|omega|rfl|assumption)only[↓Yaa,Yab,Nae,Naa,rB,rC,rD,rE,reduceIte,unP,rF,g1,g3,kC,kN,gN,gA,hdS,hdI,cbB,cbI,rbB,rbI,la,lb,le])
 exact⟨nofun,_,rfl,by simp only[Nau,Yad,if_true];simp⟩
end Go.Pe
