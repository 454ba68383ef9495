/-
 Trees: an expression, a statement, an object, each by itself. No condition. (Printed by gen_shape.py.)
-/
import Derived.Test.YtjnofhibldppoaaZChkP
set_option linter.unusedVariables false
set_option linter.unusedSimpArgs false
set_option maxHeartbeats 16000000
open Nat renaming reduceAdd → rB,reduceMul → rC,reduceLT → rD,reduceEqDiff → rE,reduceLeDiff → rF
namespace Go.Pe
open Go Go.Am Go.RowKit
def NnQ(x:List UInt8)(l:List (List UInt8)):Bool:=decide (0≤Nf1 x l 0)
theorem Npq{cfg:Cfg}(hf:cfg.fn 69=some m69)(hf2:cfg.fn 70=some m70)(hx2:cfg.ext 70=none){fuel:Nat}{l:List (List UInt8)}{x:List UInt8}(hl:l.length≤1000)(hfu:l.length+3≤fuel){st:St} :
 ∃ r st',Nay cfg (fuel+1) 69 [.fsl l.length (txC l),.s x] st=some (r,st')∧r=.b (NnQ x l):=by
 refine Nax hf ?_;delta m69 Qa Ql Qt Qk Qm Qi;obtain⟨n,rfl⟩:∃ n,fuel=n+1:=⟨fuel - 1,by omega⟩;have k:∀ (st:St) (key:Nat),Nam (Nak cfg (Nay cfg (n+1)) 70) false st key [.fsl l.length (txC l),.s x]=some (.i .i64 (Nf1 x l 0),st):=fun st key =>
  Nal rfl (Nar hx2 rfl (fun _=>rfl) (Nps hf2 hl Zaa)) rfl
 obtain⟨q,hq⟩:∃ q,Nf1 x l 0=q:=⟨_,rfl⟩;unfold NnQ;rw[hq]at k ⊢;simp(disch:=first|omega|rfl|assumption)only[Naj,↓Z0,↓Xp,↓Xt,Xq,Xc,Nae,Naa,rB,rC,rD,rE,reduceIte,Xm,rF,Xa,Xn,unP,Nab,Nac,Nad,k];refine⟨nofun,_,rfl,?_⟩;simp only[Nau,↓Z0,↓Xp,↓Xt,Xq,Xc,Nae,Naa,rB,rC,rD,rE,reduceIte];rfl
theorem NfU{st:St}{k:Nat}{cs:List PV}{sz n:Nat}(hk:st.get k=some (.cells cs false))(hl:cs.length=n * sz)(hf:cs.all PV.flat=true)(hlt:k<st.cnt):Go.Pe.deep st 12 (.rsl k sz 0 n)=some (.fsl n cs) :=
 (show Own st sz (.rsl k sz 0 n) n cs from .inr ⟨k,rfl,hk,hl,hlt⟩).deepO hf
def Ng7:List (List UInt8):=[[45]]
def signs2:List (List UInt8):=[[43],[45],[42],[61,61],[60]]
def Nbd(k:Nat)(s:List UInt8)(n:Int)(c:Nat):Bool :=
 if k=1 then decide (0≤n)&&(s==[]&&c==0)
 else if k=2 then n==0&&(c==0&&NaJ s)
 else if k=3 then n==0&&(decide (1≤c∧c≤2)&&NnQ s (if c=1 then Ng7 else signs2))
 else false
def doT(o:Nat)(j:List UInt8)(n:Int)(a b e:Nat):Bool :=
 if o<1 then true else if 23<o then true else if NaJ j=false then true else if n≠0 then true else if a≠argsN o then true else if 0<e then true else if 0<b+e then o != 16 else false
def Nfe(o:Nat)(j i:List UInt8)(n:Int)(a b:Nat):Bool :=
 if o≠0 then false else if j≠[]then false else if n≠0 then false else if a≠1 then false else if b≠0 then false else NaJ i
def Nby(o:Nat)(j i:List UInt8):Bool:=if o≠0 then true else if j≠[]then true else i != []
def Na0(k o:Nat)(j i:List UInt8)(n:Int)(a b e:Nat):Bool :=
 if k=1 then(if doT o j n a b e=true then false else if NeW o=true then NaJ i else i==[])
 else if k=2 then Nfe o j i n a (b+e)
 else if Nby o j i=true then false
 else if k=3 then(if n<0 then false else if a≠0 then false else e==0)
 else if k=4 then(if n≠0 then false else a==1)
 else false
theorem NaL{cfg:Cfg}{callE:CallE}{n:Nat}{m:MCode}{x:Now}{Q:MExit→Now→Prop}(R:Now→Prop)(h:R x)(k:∀ x,R x→WC cfg callE n m x Q):WC cfg callE n m x Q:=k x h
structure CfgT(cfg:Cfg):Prop extends CfgC cfg where
 x1:cfg.ext 46=none
 x2:cfg.ext 84=none
 x3:cfg.ext 85=none
 x4:cfg.ext 63=none
 x5:cfg.ext 69=none
 x6:cfg.ext 70=none
 x7:cfg.ext 67=none
 x8:cfg.ext 87=none
 x9:cfg.ext 45=none
theorem Nmm{cfg:Cfg}(hc:CfgT cfg){fuel:Nat}(hfu:4≤fuel){k o:Nat}{j i:List UInt8}{n:Int}{a b e:Nat}{va vb ve:PV}{r:Int}(la:Nd7 va=some (.i .i64 (a:Int)))(lb:Nd7 vb=some (.i .i64 (b:Int)))(le:Nd7 ve=some (.i .i64 (e:Int)))
 (oa:va.one=true) (ob:vb.one=true) (oe:ve.one=true) (ca:va.cells=[va]) (cb:vb.cells=[vb]) (ce:ve.cells=[ve]) (hb:b+e<9223372036854775808) {st:St} :
 ∃ r' st',Nay cfg (fuel+1) 67 [.agg [.i .u8 (k:Int),.i .u8 (o:Int),.s j,.s i,.i .i64 n,va,vb,ve,.i .i64 r]] st=some (r',st')∧r'=.b (Na0 k o j i n a b e):=by
 refine Nax (hc.fn _ _ (by kernel_rfl):cfg.fn 67=some m67) ?_;delta m67 Qr Qg Ql Qt Qs Qk Qm Qh Qi Qu Qv;have gN:∀ x,Nak cfg (Nay cfg fuel) 46 [.s x]=some (.b (NaJ x)):=fun x=>Nex hc.toCfgC hc.x1 Zaa x;have kN:∀ x (st:St) (key:Nat),Nam (Nak cfg (Nay cfg fuel) 46) false st key [.s x]=some (.b (NaJ x),st):=fun x st key=>Nal rfl (gN x) rfl;have hdS:∀ (st:St) x,Nbk st [.s x]=some [.s x]:=fun _ _=>rfl;have hdI:∀ (st:St) k n,Nbk st [.i k n]=some [.i k n]:=fun _ _ _=>rfl;have cbB:∀ x,PV.closedB (.b x)=true:=fun _=>rfl;have cbI:∀ k n,PV.closedB (.i k n)=true:=fun _ _=>rfl;have rbB:∀ (st:St) (key:Nat) x,NaE st key (.b x)=some (.b x,st):=fun _ _ _=>rfl;have rbI:∀ (st:St) (key:Nat) k n,NaE st key (.i k n)=some (.i k n,st):=fun _ _ _ _=>rfl;have gA:Nak cfg (Nay cfg fuel) 84 [.i .u8 (o:Int)]=some (.i .i64 (argsN o:Int)):=by
  obtain⟨q,rfl⟩:∃ q,fuel=q+1:=⟨fuel - 1,by omega⟩;exact Nar hc.x2 rfl (fun _=>rfl) (Nng (hc.fn _ _ (by kernel_rfl)))
 have kI:∀ (st:St) (key:Nat),Nam (Nak cfg (Nay cfg fuel) 85) false st key [.i .u8 (o:Int)]=some (.b (NeW o),st):=fun st key=>by
  obtain⟨q,rfl⟩:∃ q,fuel=q+1:=⟨fuel - 1,by omega⟩;exact Nal rfl (Nar hc.x3 rfl (fun _=>rfl) (NnU (hc.fn _ _ (by kernel_rfl)))) rfl
 simp only[Naj]
 iterate 2
  (try rw[Z0]);(try simp(disch:=first|omega|rfl|assumption)only[↓Yaa,Yab,Nae,Naa,rB,rC,rD,rE,reduceIte,unP,rF,la,lb,le,oa,ob,oe,ca,cb,ce])
 refine NaL (fun x=>∃ K:Nat,x.env.get 1=.ptr K 0∧x.env.get 3=.i .i64 ((b+e:Nat):Int)∧x.st.get K=some (.cells [.i .u8 (k:Int),.i .u8 (o:Int),.s j,.s i,.i .i64 n,va,vb,ve,.i .i64 r] false)) ?_ ?_
 ·refine⟨st.cnt,?_⟩;simp(disch:=first|omega|rfl|assumption)only[Yad,rE,reduceIte,NaG,Njl,true_and]
 rintro⟨env,⟨sto,c⟩⟩ ⟨K,g1,g3,kC⟩;simp only at g1 g3;replace kC:∀ n',St.get ⟨sto,n'⟩ K=some (.cells [.i .u8 (k:Int),.i .u8 (o:Int),.s j,.s i,.i .i64 n,va,vb,ve,.i .i64 r] false):=fun _=>kC;unfold Na0;by_cases k1:k=1
 ·rw[if_pos k1]
  iterate 4
   (try rw[Z0]);(try simp(disch:=first|omega|rfl|assumption)only[↓Yaa,Yab,Nae,Naa,rB,rC,rD,rE,reduceIte,unP,rF,g1,g3,kC])
  refine Za (fun x=>x.env.get 57=.b (doT o j n a b e)∧x.env.get 1=.ptr K 0∧x.st.get K=some (.cells [.i .u8 (k:Int),.i .u8 (o:Int),.s j,.s i,.i .i64 n,va,vb,ve,.i .i64 r] false)) ?_ ?_
  ·by_cases h1:o<1
   ·rw[show doT o j n a b e=true by unfold doT;rw[if_pos h1]];simp(maxSteps:=300000) (disch:=first|omega|rfl|assumption)only[↓Yaa,Yac,Nae,Naa,rB,rC,rD,rE,reduceIte,unP,Xm,rF,g1,g3,kC,kN,gN,gA,kI,hdS,hdI,cbB,cbI,rbB,rbI,la,lb,le,Bool.not_true,Bool.not_false]
    all_goals (first|done|exact kC _|(refine⟨?_,?_⟩<;>first|rfl|exact kC _))
   by_cases h2:23<o
   ·rw[show doT o j n a b e=true by unfold doT;rw[if_neg h1,if_pos h2]];simp(maxSteps:=300000) (disch:=first|omega|rfl|assumption)only[↓Yaa,Yac,Nae,Naa,rB,rC,rD,rE,reduceIte,unP,Xm,rF,g1,g3,kC,kN,gN,gA,kI,hdS,hdI,cbB,cbI,rbB,rbI,la,lb,le,Bool.not_true,Bool.not_false]
    all_goals (first|done|exact kC _|(refine⟨?_,?_⟩<;>first|rfl|exact kC _))
   by_cases h3:NaJ j=false
   ·rw[show doT o j n a b e=true by unfold doT;rw[if_neg h1,if_neg h2,if_pos h3]];simp(maxSteps:=300000) (disch:=first|omega|rfl|assumption)only[↓Yaa,Yac,Nae,Naa,rB,rC,rD,rE,reduceIte,unP,Xm,rF,g1,g3,kC,kN,gN,gA,kI,hdS,hdI,cbB,cbI,rbB,rbI,la,lb,le,Bool.not_true,Bool.not_false,h3]
    all_goals (first|done|exact kC _|(refine⟨?_,?_⟩<;>first|rfl|exact kC _))
   have h3':NaJ j=true:=(by simpa using h3);by_cases h4:n≠0
   ·rw[show doT o j n a b e=true by unfold doT;rw[if_neg h1,if_neg h2,if_neg h3,if_pos h4]];simp(maxSteps:=300000) (disch:=first|omega|rfl|assumption)only[↓Yaa,Yac,Nae,Naa,rB,rC,rD,rE,reduceIte,unP,Xm,rF,g1,g3,kC,kN,gN,gA,kI,hdS,hdI,cbB,cbI,rbB,rbI,la,lb,le,Bool.not_true,Bool.not_false,h3']
    all_goals (first|done|exact kC _|(refine⟨?_,?_⟩<;>first|rfl|exact kC _))
   by_cases h5:a≠argsN o
   ·rw[show doT o j n a b e=true by unfold doT;rw[if_neg h1,if_neg h2,if_neg h3,if_neg h4,if_pos h5]];simp(maxSteps:=300000) (disch:=first|omega|rfl|assumption)only[↓Yaa,Yac,Nae,Naa,rB,rC,rD,rE,reduceIte,unP,Xm,rF,g1,g3,kC,kN,gN,gA,kI,hdS,hdI,cbB,cbI,rbB,rbI,la,lb,le,Bool.not_true,Bool.not_false,h3']
    all_goals (first|done|exact kC _|(refine⟨?_,?_⟩<;>first|rfl|exact kC _))
   by_cases h6:0<e
   ·rw[show doT o j n a b e=true by unfold doT;rw[if_neg h1,if_neg h2,if_neg h3,if_neg h4,if_neg h5,if_pos h6]];simp(maxSteps:=300000) (disch:=first|omega|rfl|assumption)only[↓Yaa,Yac,Nae,Naa,rB,rC,rD,rE,reduceIte,unP,Xm,rF,g1,g3,kC,kN,gN,gA,kI,hdS,hdI,cbB,cbI,rbB,rbI,la,lb,le,Bool.not_true,Bool.not_false,h3']
    all_goals (first|done|exact kC _|(refine⟨?_,?_⟩<;>first|rfl|exact kC _))
   by_cases h7:0<b+e
   ·by_cases h8:o=16
    ·rw[show doT o j n a b e=false by unfold doT;rw[if_neg h1,if_neg h2,if_neg h3,if_neg h4,if_neg h5,if_neg h6,if_pos h7];simp[h8]];simp(maxSteps:=300000) (disch:=first|omega|rfl|assumption)only[↓Yaa,Yac,Nae,Naa,rB,rC,rD,rE,reduceIte,unP,Xm,rF,g1,g3,kC,kN,gN,gA,kI,hdS,hdI,cbB,cbI,rbB,rbI,la,lb,le,Bool.not_true,Bool.not_false,h3']
     all_goals (first|done|exact kC _|(refine⟨?_,?_⟩<;>first|rfl|exact kC _))
    ·rw[show doT o j n a b e=true by unfold doT;rw[if_neg h1,if_neg h2,if_neg h3,if_neg h4,if_neg h5,if_neg h6,if_pos h7];simp[h8]];simp(maxSteps:=300000) (disch:=first|omega|rfl|assumption)only[↓Yaa,Yac,Nae,Naa,rB,rC,rD,rE,reduceIte,unP,Xm,rF,g1,g3,kC,kN,gN,gA,kI,hdS,hdI,cbB,cbI,rbB,rbI,la,lb,le,Bool.not_true,Bool.not_false,h3']
     all_goals (first|done|exact kC _|(refine⟨?_,?_⟩<;>first|rfl|exact kC _))
   ·rw[show doT o j n a b e=false by unfold doT;rw[if_neg h1,if_neg h2,if_neg h3,if_neg h4,if_neg h5,if_neg h6,if_neg h7]];simp(maxSteps:=300000) (disch:=first|omega|rfl|assumption)only[↓Yaa,Yac,Nae,Naa,rB,rC,rD,rE,reduceIte,unP,Xm,rF,g1,g3,kC,kN,gN,gA,kI,hdS,hdI,cbB,cbI,rbB,rbI,la,lb,le,Bool.not_true,Bool.not_false,h3']
    all_goals (first|done|exact kC _|(refine⟨?_,?_⟩<;>first|rfl|exact kC _))
  clear g1 g3 kC;rintro⟨env,⟨sto,c⟩⟩ ⟨g57,g1,kC⟩;simp only at g57 g1;replace kC:∀ n',St.get ⟨sto,n'⟩ K=some (.cells [.i .u8 (k:Int),.i .u8 (o:Int),.s j,.s i,.i .i64 n,va,vb,ve,.i .i64 r] false):=fun _=>kC;cases hT:doT o j n a b e with
  |true =>
    rw[hT]at g57
    iterate 2
     (try rw[Z0]);(try simp(disch:=first|omega|rfl|assumption)only[↓Yaa,Yab,Nae,Naa,rB,rC,rD,rE,reduceIte,unP,rF,g57])
    refine⟨nofun,_,rfl,?_⟩;simp only[Nau,↓Z0,↓Xp,↓Xt,Xq,Xc,Nae,Naa,rB,rC,rD,rE,reduceIte]
    all_goals rfl
  |false =>
    rw[hT]at g57;by_cases hi:NeW o=true
    ·skip
     iterate 4
      (try rw[Z0]);(try simp(disch:=first|omega|rfl|assumption)only[↓Yaa,Yab,Nae,Naa,rB,rC,rD,rE,reduceIte,unP,rF,g57,g1,kC,kI,hi,kN])
     refine⟨nofun,_,rfl,?_⟩;simp only[Nau,↓Z0,↓Xp,↓Xt,Xq,Xc,Nae,Naa,rB,rC,rD,rE,reduceIte]
     all_goals simp[hi]
    ·have hi':NeW o=false:=(by simpa using hi);by_cases hi2:i=[]
     ·subst hi2
      iterate 5
       (try rw[Z0]);(try simp(disch:=first|omega|rfl|assumption)only[↓Yaa,Yab,Nae,Naa,rB,rC,rD,rE,reduceIte,unP,rF,g57,g1,kC,kI,hi'])
      refine⟨nofun,_,rfl,?_⟩;simp only[Nau,↓Z0,↓Xp,↓Xt,Xq,Xc,Nae,Naa,rB,rC,rD,rE,reduceIte]
      all_goals simp[hi']
     ·have hi3:(i==[])=false:=by simpa using hi2
      iterate 5
       (try rw[Z0]);(try simp(disch:=first|omega|rfl|assumption)only[↓Yaa,Yab,Nae,Naa,rB,rC,rD,rE,reduceIte,unP,rF,g57,g1,kC,kI,hi',hi3])
      refine⟨nofun,_,rfl,?_⟩;simp only[Nau,↓Z0,↓Xp,↓Xt,Xq,Xc,Nae,Naa,rB,rC,rD,rE,reduceIte]
      all_goals simp[hi',hi3]
 rw[if_neg k1];by_cases k2:k=2
 ·rw[if_pos k2]
  iterate 4
   (try rw[Z0]);(try simp(disch:=first|omega|rfl|assumption)only[↓Yaa,Yab,Nae,Naa,rB,rC,rD,rE,reduceIte,unP,rF,g1,g3,kC])
  refine Za (fun x=>x.env.get 2=.b (Nfe o j i n a (b+e))) ?_ ?_
  ·by_cases h1:o≠0
   ·rw[show Nfe o j i n a (b+e)=false by unfold Nfe;rw[if_pos h1]];simp(maxSteps:=300000) (disch:=first|omega|rfl|assumption)only[↓Yaa,Yac,Nae,Naa,rB,rC,rD,rE,reduceIte,unP,Xm,rF,g1,g3,kC,kN,gN,gA,kI,hdS,hdI,cbB,cbI,rbB,rbI,la,lb,le,Bool.not_true,Bool.not_false]
   by_cases h2:j≠[]
   ·have h2b:(j==[])=false:=(by simpa using h2);rw[show Nfe o j i n a (b+e)=false by unfold Nfe;rw[if_neg h1,if_pos h2]];simp(maxSteps:=300000) (disch:=first|omega|rfl|assumption)only[↓Yaa,Yac,Nae,Naa,rB,rC,rD,rE,reduceIte,unP,Xm,rF,g1,g3,kC,kN,gN,gA,kI,hdS,hdI,cbB,cbI,rbB,rbI,la,lb,le,Bool.not_true,Bool.not_false,h2b]
   have h2b:(j==[])=true:=(by simpa using h2);by_cases h3:n≠0
   ·rw[show Nfe o j i n a (b+e)=false by unfold Nfe;rw[if_neg h1,if_neg h2,if_pos h3]];simp(maxSteps:=300000) (disch:=first|omega|rfl|assumption)only[↓Yaa,Yac,Nae,Naa,rB,rC,rD,rE,reduceIte,unP,Xm,rF,g1,g3,kC,kN,gN,gA,kI,hdS,hdI,cbB,cbI,rbB,rbI,la,lb,le,Bool.not_true,Bool.not_false,h2b]
   by_cases h4:a≠1
   ·rw[show Nfe o j i n a (b+e)=false by unfold Nfe;rw[if_neg h1,if_neg h2,if_neg h3,if_pos h4]];simp(maxSteps:=300000) (disch:=first|omega|rfl|assumption)only[↓Yaa,Yac,Nae,Naa,rB,rC,rD,rE,reduceIte,unP,Xm,rF,g1,g3,kC,kN,gN,gA,kI,hdS,hdI,cbB,cbI,rbB,rbI,la,lb,le,Bool.not_true,Bool.not_false,h2b]
   by_cases h5:b+e≠0
   ·rw[show Nfe o j i n a (b+e)=false by unfold Nfe;rw[if_neg h1,if_neg h2,if_neg h3,if_neg h4,if_pos h5]];simp(maxSteps:=300000) (disch:=first|omega|rfl|assumption)only[↓Yaa,Yac,Nae,Naa,rB,rC,rD,rE,reduceIte,unP,Xm,rF,g1,g3,kC,kN,gN,gA,kI,hdS,hdI,cbB,cbI,rbB,rbI,la,lb,le,Bool.not_true,Bool.not_false,h2b]
   rw[show Nfe o j i n a (b+e)=NaJ i by unfold Nfe;rw[if_neg h1,if_neg h2,if_neg h3,if_neg h4,if_neg h5]];simp(maxSteps:=300000) (disch:=first|omega|rfl|assumption)only[↓Yaa,Yac,Nae,Naa,rB,rC,rD,rE,reduceIte,unP,Xm,rF,g1,g3,kC,kN,gN,gA,kI,hdS,hdI,cbB,cbI,rbB,rbI,la,lb,le,Bool.not_true,Bool.not_false,h2b]
  rintro⟨env,⟨sto,c⟩⟩ g2;simp only at g2
  iterate 2
   (try rw[Z0]);(try simp(disch:=first|omega|rfl|assumption)only[↓Yaa,Yab,Nae,Naa,rB,rC,rD,rE,reduceIte,unP,rF,g2])
  refine⟨nofun,_,rfl,?_⟩;simp only[Nau,↓Z0,↓Xp,↓Xt,Xq,Xc,Nae,Naa,rB,rC,rD,rE,reduceIte]
  all_goals exact g2
 rw[if_neg k2]
 iterate 5
  (try rw[Z0]);(try simp(disch:=first|omega|rfl|assumption)only[↓Yaa,Yab,Nae,Naa,rB,rC,rD,rE,reduceIte,unP,rF,g1,g3,kC])
 refine Za (fun x=>x.env.get 109=.b (Nby o j i)∧x.env.get 1=.ptr K 0∧x.st.get K=some (.cells [.i .u8 (k:Int),.i .u8 (o:Int),.s j,.s i,.i .i64 n,va,vb,ve,.i .i64 r] false)) ?_ ?_
 ·by_cases h1:o≠0
  ·rw[show Nby o j i=true by unfold Nby;rw[if_pos h1]];simp(maxSteps:=300000) (disch:=first|omega|rfl|assumption)only[↓Yaa,Yac,Nae,Naa,rB,rC,rD,rE,reduceIte,unP,Xm,rF,g1,g3,kC,kN,gN,gA,kI,hdS,hdI,cbB,cbI,rbB,rbI,la,lb,le,Bool.not_true,Bool.not_false]
   all_goals (first|done|exact kC _|(refine⟨?_,?_⟩<;>first|rfl|exact kC _))
  by_cases h2:j≠[]
  ·have h2b:(j==[])=false:=(by simpa using h2);have h2c:(j != [])=true:=(by simpa using h2);rw[show Nby o j i=true by unfold Nby;rw[if_neg h1,if_pos h2]];simp(maxSteps:=300000) (disch:=first|omega|rfl|assumption)only[↓Yaa,Yac,Nae,Naa,rB,rC,rD,rE,reduceIte,unP,Xm,rF,g1,g3,kC,kN,gN,gA,kI,hdS,hdI,cbB,cbI,rbB,rbI,la,lb,le,Bool.not_true,Bool.not_false,h2b,h2c]
   all_goals (first|done|exact kC _|(refine⟨?_,?_⟩<;>first|rfl|exact kC _))
  have h2b:(j==[])=true:=by simpa using h2
  have h2c:(j != [])=false:=by simpa using h2
  by_cases h3:i=[]
  ·have h3b:(i==[])=true:=(by simpa using h3);have h3c:(i != [])=false:=(by simpa using h3);rw[show Nby o j i=false by unfold Nby;rw[if_neg h1,if_neg h2,h3c]];simp(maxSteps:=300000) (disch:=first|omega|rfl|assumption)only[↓Yaa,Yac,Nae,Naa,rB,rC,rD,rE,reduceIte,unP,Xm,rF,g1,g3,kC,kN,gN,gA,kI,hdS,hdI,cbB,cbI,rbB,rbI,la,lb,le,Bool.not_true,Bool.not_false,h2b,h2c,h3b,h3c]
   all_goals (first|done|exact kC _|(refine⟨?_,?_⟩<;>first|rfl|exact kC _))
  ·have h3b:(i==[])=false:=(by simpa using h3);have h3c:(i != [])=true:=(by simpa using h3);rw[show Nby o j i=true by unfold Nby;rw[if_neg h1,if_neg h2,h3c]];simp(maxSteps:=300000) (disch:=first|omega|rfl|assumption)only[↓Yaa,Yac,Nae,Naa,rB,rC,rD,rE,reduceIte,unP,Xm,rF,g1,g3,kC,kN,gN,gA,kI,hdS,hdI,cbB,cbI,rbB,rbI,la,lb,le,Bool.not_true,Bool.not_false,h2b,h2c,h3b,h3c]
   all_goals (first|done|exact kC _|(refine⟨?_,?_⟩<;>first|rfl|exact kC _))
 clear g1 g3 kC;rintro⟨env,⟨sto,c⟩⟩ ⟨g109,g1,kC⟩;simp only at g109 g1;replace kC:∀ n',St.get ⟨sto,n'⟩ K=some (.cells [.i .u8 (k:Int),.i .u8 (o:Int),.s j,.s i,.i .i64 n,va,vb,ve,.i .i64 r] false):=fun _=>kC;cases hT:Nby o j i with
 |true =>
   rw[hT]at g109
   iterate 2
    (try rw[Z0]);(try simp(disch:=first|omega|rfl|assumption)only[↓Yaa,Yab,Nae,Naa,rB,rC,rD,rE,reduceIte,unP,rF,g109])
   refine⟨nofun,_,rfl,?_⟩;simp only[Nau,↓Z0,↓Xp,↓Xt,Xq,Xc,Nae,Naa,rB,rC,rD,rE,reduceIte]
   all_goals rfl
 |false =>
   rw[hT]at g109;rw[if_neg Zaf];by_cases k3:k=3
   ·rw[if_pos k3];by_cases q1:n<0
    ·skip
     iterate 7
      (try rw[Z0]);(try simp(disch:=first|omega|rfl|assumption)only[↓Yaa,Yab,Nae,Naa,rB,rC,rD,rE,reduceIte,unP,rF,g109,g1,kC,la,lb,le])
     refine⟨nofun,_,rfl,?_⟩;simp only[Nau,↓Z0,↓Xp,↓Xt,Xq,Xc,Nae,Naa,rB,rC,rD,rE,reduceIte]
     all_goals simp[q1]
    by_cases q2:a=0
    ·by_cases q3:e=0
     ·skip
      iterate 7
       (try rw[Z0]);(try simp(disch:=first|omega|rfl|assumption)only[↓Yaa,Yab,Nae,Naa,rB,rC,rD,rE,reduceIte,unP,rF,g109,g1,kC,la,lb,le])
      refine⟨nofun,_,rfl,?_⟩;simp only[Nau,↓Z0,↓Xp,↓Xt,Xq,Xc,Nae,Naa,rB,rC,rD,rE,reduceIte]
      all_goals simp[q1,q2,q3]
     ·skip
      iterate 7
       (try rw[Z0]);(try simp(disch:=first|omega|rfl|assumption)only[↓Yaa,Yab,Nae,Naa,rB,rC,rD,rE,reduceIte,unP,rF,g109,g1,kC,la,lb,le])
      refine⟨nofun,_,rfl,?_⟩;simp only[Nau,↓Z0,↓Xp,↓Xt,Xq,Xc,Nae,Naa,rB,rC,rD,rE,reduceIte]
      all_goals simp[q1,q2,q3]
    ·skip
     iterate 7
      (try rw[Z0]);(try simp(disch:=first|omega|rfl|assumption)only[↓Yaa,Yab,Nae,Naa,rB,rC,rD,rE,reduceIte,unP,rF,g109,g1,kC,la,lb,le])
     refine⟨nofun,_,rfl,?_⟩;simp only[Nau,↓Z0,↓Xp,↓Xt,Xq,Xc,Nae,Naa,rB,rC,rD,rE,reduceIte]
     all_goals simp[q1,q2]
   rw[if_neg k3];by_cases k4:k=4
   ·rw[if_pos k4];by_cases q1:n=0
    ·by_cases q2:a=1
     ·skip
      iterate 7
       (try rw[Z0]);(try simp(disch:=first|omega|rfl|assumption)only[↓Yaa,Yab,Nae,Naa,rB,rC,rD,rE,reduceIte,unP,rF,g109,g1,kC,la,lb,le])
      refine⟨nofun,_,rfl,?_⟩;simp only[Nau,↓Z0,↓Xp,↓Xt,Xq,Xc,Nae,Naa,rB,rC,rD,rE,reduceIte]
      all_goals simp[q1,q2]
     ·skip
      iterate 7
       (try rw[Z0]);(try simp(disch:=first|omega|rfl|assumption)only[↓Yaa,Yab,Nae,Naa,rB,rC,rD,rE,reduceIte,unP,rF,g109,g1,kC,la,lb,le])
      refine⟨nofun,_,rfl,?_⟩;simp only[Nau,↓Z0,↓Xp,↓Xt,Xq,Xc,Nae,Naa,rB,rC,rD,rE,reduceIte]
      all_goals simp[q1,q2]
    ·skip
     iterate 7
      (try rw[Z0]);(try simp(disch:=first|omega|rfl|assumption)only[↓Yaa,Yab,Nae,Naa,rB,rC,rD,rE,reduceIte,unP,rF,g109,g1,kC,la,lb,le])
     refine⟨nofun,_,rfl,?_⟩;simp only[Nau,↓Z0,↓Xp,↓Xt,Xq,Xc,Nae,Naa,rB,rC,rD,rE,reduceIte]
     all_goals simp[q1]
   rw[if_neg k4]
   iterate 8
    (try rw[Z0]);(try simp(disch:=first|omega|rfl|assumption)only[↓Yaa,Yab,Nae,Naa,rB,rC,rD,rE,reduceIte,unP,rF,g109,g1,kC,la,lb,le])
   refine⟨nofun,_,rfl,?_⟩;simp only[Nau,↓Z0,↓Xp,↓Xt,Xq,Xc,Nae,Naa,rB,rC,rD,rE,reduceIte]
end Go.Pe
