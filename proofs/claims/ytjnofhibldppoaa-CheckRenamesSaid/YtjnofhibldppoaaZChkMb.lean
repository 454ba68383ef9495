/-
 Check: may an object be known? No condition.
-/
import Derived.Test.YtjnofhibldppoaaZChkZ
set_option linter.unusedVariables false
set_option linter.unusedSimpArgs false
set_option maxHeartbeats 8000000
open Nat renaming reduceAdd → rB,reduceMul → rC,reduceLT → rD,reduceEqDiff → rE,reduceLeDiff → rF
namespace Go.Pe
open Go Go.Am Go.RowKit
def esV(es:List (List UInt8×Nat)):List (PV×PV):=es.map fun p=>(.s p.1,.i .u8 (p.2:Int))
def getN(s:List UInt8):List (List UInt8×Nat)→Option Nat
 |[]=>none
 |(t,k)::r=>if s==t then some k else getN s r
def putN(s:List UInt8)(k:Nat):List (List UInt8×Nat)→List (List UInt8×Nat)
 |[]=>[(s,k)]
 |(t,j)::r=>if s==t then(s,k)::r else(t,j)::putN s k r
theorem Ne1(s:List UInt8):∀ es,Nbz 2 (.s s) (esV es)=some ((getN s es).map fun k=>.i .u8 (k:Int))
 |[]=>rfl
 |(t,k)::r=>by
   have ih:=Ne1 s r;unfold esV at ih ⊢;rw[List.map_cons,Nbz,getN];cases h:s==t with
   |true=>simp[eq1,h]
   |false=>simp[eq1,h,ih]
theorem NgN(s:List UInt8)(k:Nat):∀ es,Nbu 2 (.s s) (.i .u8 (k:Int)) (esV es)=some (esV (putN s k es))
 |[]=>rfl
 |(t,j)::r=>by
   have ih:=NgN s k r;unfold esV at ih ⊢;rw[List.map_cons,Nbu,putN];cases h:s==t with
   |true=>simp[eq1,h]
   |false=>simp[eq1,h,ih]
def NcS(s:List UInt8)(d:Nat)(es:List (List UInt8×Nat)):Int :=
 match getN s es with
 |none=>110
 |some k=>if k=d then 0 else 111
theorem Nim{cfg:Cfg}(hc:CfgV cfg){fuel k M d:Nat}{s:List UInt8}{v:PV}{es:List (List UInt8×Nat)}{st:St}(hk:st.get k=some (.cells [.mp M,v] false))(hM:st.get M=some (.map (esV es))) :
 ∃ r st',Nay cfg (fuel+1) 37 [.ptr k 0,.s s,.i .u8 (d:Int)] st=some (r,st')∧(r=.i .i64 (NcS s d es)∧(∀ j,st'.get j=st.get j)∧st.cnt≤st'.cnt):=by
 refine Nax (hc.fn _ _ (by kernel_rfl):cfg.fn 37=some m37) ?_;delta m37 Qa Qr Qf Qc Ql Qm Qh Qi Qo;have kk:∀ n',St.get ⟨st.sto,n'⟩ k=some (.cells [.mp M,v] false):=fun _=>hk;have kM:∀ n',St.get ⟨st.sto,n'⟩ M=some (.map (esV es)):=fun _=>hM;have hg:=Ne1 s es;simp only[Naj];unfold NcS;cases h:getN s es with
 |none =>
   rw[h]at hg;simp only[Option.map]at hg
   iterate 6
    (try rw[Z0]);(try simp(disch:=first|omega|rfl|assumption)only[↓Yaa,Yab,Nae,Naa,rB,rC,rD,rE,reduceIte,unP,rF,kk,kM,hg,Option.map,Option.getD,Option.isSome])
   exact⟨nofun,_,rfl,rfl,fun _=>trivial⟩
 |some x =>
   rw[h]at hg;simp only[Option.map]at hg;by_cases hx:x=d
   ·have b:((x:Int)==(d:Int))=true:=by simp[hx]
    iterate 8
     (try rw[Z0]);(try simp(disch:=first|omega|rfl|assumption)only[↓Yaa,Yab,Nae,Naa,rB,rC,rD,rE,reduceIte,unP,rF,kk,kM,hg,b,Option.map,Option.getD,Option.isSome])
    rw[if_pos hx];exact⟨nofun,_,rfl,rfl,fun _=>trivial⟩
   ·have b:((x:Int)==(d:Int))=false:=by simp;omega
    iterate 8
     (try rw[Z0]);(try simp(disch:=first|omega|rfl|assumption)only[↓Yaa,Yab,Nae,Naa,rB,rC,rD,rE,reduceIte,unP,rF,kk,kM,hg,b,Option.map,Option.getD,Option.isSome])
    rw[if_neg hx];exact⟨nofun,_,rfl,rfl,fun _=>trivial⟩
end Go.Pe
set_option maxHeartbeats 8000000
namespace Go.Pe
open Go Go.Am Go.RowKit
def NoH(m n:Int):Int:=if n<1 then 113 else if m<n then 113 else 0
def Ndn(k:Nat)(s:List UInt8)(n:Int)(o:List UInt8)(es:List (List UInt8×Nat)):Int :=
 if(getN s es).isSome=true then 112
 else if k=5 then NoH 16 n
 else if k=4 then NcS o 1 es
 else if k=3 then NoH 1048576 n
 else if k=8 then NoH 1048576 n
 else 0
theorem NlT{cfg:Cfg}(hc:CfgV cfg)(hx:cfg.ext 37=none){fuel kp M k:Nat}{s o:List UInt8}{n r:Int}{v:PV}{es:List (List UInt8×Nat)}{st:St}(hlt:kp<st.cnt)(hlm:M<st.cnt)(hk:st.get kp=some (.cells [.mp M,v] false))(hM:st.get M=some (.map (esV es))) :
 ∃ r' st',Nay cfg (fuel+2) 23 [.ptr kp 0,.agg [.i .u8 (k:Int),.s s,.i .i64 n,.s o,.i .i64 r]] st=some (r',st')∧(r'=.i .i64 (Ndn k s n o es)∧(∀ j,j<st.cnt→st'.get j=st.get j)∧st.cnt≤st'.cnt):=by
 refine Nax (hc.fn _ _ (by kernel_rfl):cfg.fn 23=some m23) ?_;delta m23 Qa Qr Qf Qg Qc Ql Qt Qs Qk Qm Qh Qi Qu Qv Qo;have hg:=Ne1 s es;simp only[Naj];unfold Ndn;refine Za (fun x=>∃ K:Nat,x.env.get 0=.ptr kp 0∧x.env.get 3=.ptr K 0∧st.cnt≤K∧K<x.st.cnt∧x.st.get K=some (.cells [.i .u8 (k:Int),.s s,.i .i64 n,.s o,.i .i64 r] false)∧(∀ j,j<st.cnt→x.st.get j=st.get j)) ?_ ?_
 ·skip
  (try rw[Z0]);(try simp(disch:=first|omega|rfl|assumption)only[↓Yaa,Yab,Nae,Naa,rB,rC,rD,rE,reduceIte,unP,rF,hg]);exact⟨_,rfl,by omega,by omega,by rw[Yaf],fun j hj=>by rw[Yae Zaa];rfl⟩
 rintro⟨env,⟨sto,c⟩⟩ ⟨K,g0,g3,hK,hKc,kK,ko⟩;simp only at g0 g3 hKc;have kk:∀ n',St.get ⟨sto,n'⟩ kp=some (.cells [.mp M,v] false):=fun _=>(ko kp hlt).trans hk;have kM:∀ n',St.get ⟨sto,n'⟩ M=some (.map (esV es)):=fun _=>(ko M hlm).trans hM;replace kK:∀ n',St.get ⟨sto,n'⟩ K=_:=fun _=>kK;replace ko:∀ n' j,j<st.cnt→St.get ⟨sto,n'⟩ j=st.get j:=fun _=>ko;cases h:getN s es with
 |some x =>
   rw[h]at hg;simp only[Option.map]at hg;rw[if_pos (show(some x).isSome=true from rfl)]
   iterate 6
    (try rw[Z0]);(try simp(disch:=first|omega|rfl|assumption)only[↓Yaa,Yab,Nae,Naa,rB,rC,rD,rE,reduceIte,unP,rF,g0,g3,kk,kM,kK,hg,Option.map,Option.getD,Option.isSome])
   exact⟨nofun,_,rfl,by simp only[Yad,if_true,Nau]<;>rfl,fun j hj=>ko _ j hj⟩
 |none =>
   rw[h]at hg;simp only[Option.map]at hg;rw[if_neg Zaf]
   iterate 4
    (try rw[Z0]);(try simp(disch:=first|omega|rfl|assumption)only[↓Yaa,Yab,Nae,Naa,rB,rC,rD,rE,reduceIte,unP,rF,g0,g3,kk,kM,kK,hg,Option.map,Option.getD,Option.isSome])
   by_cases h5:k=5
   ·have b5:((k:Int)==Int.ofNat 5)=true:=(by subst h5;rfl);rw[if_pos h5];unfold NoH;by_cases n1:n<1
    ·rw[if_pos n1]
     iterate 9
      (try rw[Z0]);(try simp(disch:=first|omega|rfl|assumption)only[↓Yaa,Yab,Nae,Naa,rB,rC,rD,rE,reduceIte,unP,rF,g0,g3,kk,kM,kK,b5])
     exact⟨nofun,_,rfl,by simp only[Yad,if_true,Nau]<;>rfl,fun j hj=>ko _ j hj⟩
    ·rw[if_neg n1];by_cases n2:16<n
     ·rw[if_pos n2]
      iterate 9
       (try rw[Z0]);(try simp(disch:=first|omega|rfl|assumption)only[↓Yaa,Yab,Nae,Naa,rB,rC,rD,rE,reduceIte,unP,rF,g0,g3,kk,kM,kK,b5])
      exact⟨nofun,_,rfl,by simp only[Yad,if_true,Nau]<;>rfl,fun j hj=>ko _ j hj⟩
     ·rw[if_neg n2]
      iterate 9
       (try rw[Z0]);(try simp(disch:=first|omega|rfl|assumption)only[↓Yaa,Yab,Nae,Naa,rB,rC,rD,rE,reduceIte,unP,rF,g0,g3,kk,kM,kK,b5])
      exact⟨nofun,_,rfl,by simp only[Yad,if_true,Nau]<;>rfl,fun j hj=>ko _ j hj⟩
   have b5:((k:Int)==Int.ofNat 5)=false:=(by simp;omega);rw[if_neg h5];by_cases h4:k=4
   ·have b4:((k:Int)==Int.ofNat 4)=true:=(by subst h4;rfl);rw[if_pos h4]
    iterate 9
     (try rw[Z0]);(try simp(disch:=first|omega|rfl|assumption)only[↓Yaa,Yab,Nae,Naa,rB,rC,rD,rE,reduceIte,unP,rF,g0,g3,kk,kM,kK,b5,b4,hx])
    refine Nd0 (Nim hc (d:=1) (kk _) (kM _)) ?_;rintro r' ⟨sto',c'⟩ ⟨hr,hj,hcn⟩;simp only at hcn;exact⟨nofun,_,rfl,by simp only[Yad,if_true,Nau];exact hr,fun j h=>(hj j).trans (ko _ j h),by simp only;omega⟩
   have b4:((k:Int)==Int.ofNat 4)=false:=(by simp;omega);rw[if_neg h4];by_cases h3:k=3
   ·have b3:((k:Int)==Int.ofNat 3)=true:=(by subst h3;rfl);rw[if_pos h3];unfold NoH;by_cases n1:n<1
    ·rw[if_pos n1]
     iterate 14
      (try rw[Z0]);(try simp(disch:=first|omega|rfl|assumption)only[↓Yaa,Yab,Nae,Naa,rB,rC,rD,rE,reduceIte,unP,rF,g0,g3,kk,kM,kK,b5,b4,b3])
     exact⟨nofun,_,rfl,by simp only[Yad,if_true,Nau]<;>rfl,fun j hj=>ko _ j hj⟩
    ·rw[if_neg n1];by_cases n2:1048576<n
     ·rw[if_pos n2]
      iterate 14
       (try rw[Z0]);(try simp(disch:=first|omega|rfl|assumption)only[↓Yaa,Yab,Nae,Naa,rB,rC,rD,rE,reduceIte,unP,rF,g0,g3,kk,kM,kK,b5,b4,b3])
      exact⟨nofun,_,rfl,by simp only[Yad,if_true,Nau]<;>rfl,fun j hj=>ko _ j hj⟩
     ·rw[if_neg n2]
      iterate 14
       (try rw[Z0]);(try simp(disch:=first|omega|rfl|assumption)only[↓Yaa,Yab,Nae,Naa,rB,rC,rD,rE,reduceIte,unP,rF,g0,g3,kk,kM,kK,b5,b4,b3])
      exact⟨nofun,_,rfl,by simp only[Yad,if_true,Nau]<;>rfl,fun j hj=>ko _ j hj⟩
   have b3:((k:Int)==Int.ofNat 3)=false:=(by simp;omega);rw[if_neg h3];by_cases h8:k=8
   ·have b8:((k:Int)==Int.ofNat 8)=true:=(by subst h8;rfl);rw[if_pos h8];unfold NoH;by_cases n1:n<1
    ·rw[if_pos n1]
     iterate 16
      (try rw[Z0]);(try simp(disch:=first|omega|rfl|assumption)only[↓Yaa,Yab,Nae,Naa,rB,rC,rD,rE,reduceIte,unP,rF,g0,g3,kk,kM,kK,b5,b4,b3,b8])
     exact⟨nofun,_,rfl,by simp only[Yad,if_true,Nau]<;>rfl,fun j hj=>ko _ j hj⟩
    ·rw[if_neg n1];by_cases n2:1048576<n
     ·rw[if_pos n2]
      iterate 16
       (try rw[Z0]);(try simp(disch:=first|omega|rfl|assumption)only[↓Yaa,Yab,Nae,Naa,rB,rC,rD,rE,reduceIte,unP,rF,g0,g3,kk,kM,kK,b5,b4,b3,b8])
      exact⟨nofun,_,rfl,by simp only[Yad,if_true,Nau]<;>rfl,fun j hj=>ko _ j hj⟩
     ·rw[if_neg n2]
      iterate 16
       (try rw[Z0]);(try simp(disch:=first|omega|rfl|assumption)only[↓Yaa,Yab,Nae,Naa,rB,rC,rD,rE,reduceIte,unP,rF,g0,g3,kk,kM,kK,b5,b4,b3,b8])
      exact⟨nofun,_,rfl,by simp only[Yad,if_true,Nau]<;>rfl,fun j hj=>ko _ j hj⟩
   have b8:((k:Int)==Int.ofNat 8)=false:=(by simp;omega);rw[if_neg h8]
   iterate 14
    (try rw[Z0]);(try simp(disch:=first|omega|rfl|assumption)only[↓Yaa,Yab,Nae,Naa,rB,rC,rD,rE,reduceIte,unP,rF,g0,g3,kk,kM,kK,b5,b4,b3,b8])
   exact⟨nofun,_,rfl,by simp only[Yad,if_true,Nau]<;>rfl,fun j hj=>ko _ j hj⟩
end Go.Pe
