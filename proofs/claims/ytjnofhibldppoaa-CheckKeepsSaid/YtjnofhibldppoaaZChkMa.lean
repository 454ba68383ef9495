/-
 Check: the names that are known (a map). No condition.
-/
import Derived.Test.YtjnofhibldppoaaZChkZ
set_option linter.unusedVariables false
set_option linter.unusedSimpArgs false
set_option maxHeartbeats 8000000
open Nat renaming reduceAdd → rA,reduceMul → rB,reduceLT → rC,reduceEqDiff → rD,reduceLeDiff → rE
namespace Go.Pe
open Go Go.Am Go.RowKit
def esV(es:List (List UInt8×Nat)):List (PV×PV):=es.map fun p=>(.s p.1,.i .u8 (p.2:Int))
def getN(s:List UInt8):List (List UInt8×Nat)→Option Nat
 |[]=>none
 |(t,k)::r=>if s==t then some k else getN s r
def putN(s:List UInt8)(k:Nat):List (List UInt8×Nat)→List (List UInt8×Nat)
 |[]=>[(s,k)]
 |(t,j)::r=>if s==t then(s,k)::r else(t,j)::putN s k r
theorem NcP(s:List UInt8):∀ es,Nbi 2 (.s s) (esV es)=some ((getN s es).map fun k=>.i .u8 (k:Int))
 |[]=>rfl
 |(t,k)::r=>by
   have ih:=NcP s r;unfold esV at ih ⊢;rw[List.map_cons,Nbi,getN];cases h:s==t with
   |true=>simp[eq1,h]
   |false=>simp[eq1,h,ih]
theorem NdN(s:List UInt8)(k:Nat):∀ es,Na6 2 (.s s) (.i .u8 (k:Int)) (esV es)=some (esV (putN s k es))
 |[]=>rfl
 |(t,j)::r=>by
   have ih:=NdN s k r;unfold esV at ih ⊢;rw[List.map_cons,Na6,putN];cases h:s==t with
   |true=>simp[eq1,h]
   |false=>simp[eq1,h,ih]
def NbD(s:List UInt8)(d:Nat)(es:List (List UInt8×Nat)):Int :=
 match getN s es with
 |none=>110
 |some k=>if k=d then 0 else 111
theorem Ngw{cfg:Cfg}(hc:CfgV cfg){fuel k M d:Nat}{s:List UInt8}{v:PV}{es:List (List UInt8×Nat)}{st:St}(hk:st.get k=some (.cells [.mp M,v] false))(hM:st.get M=some (.map (esV es))) :
 ∃ r st',NaI cfg (fuel+1) 37 [.ptr k 0,.s s,.i .u8 (d:Int)] st=some (r,st')∧(r=.i .i64 (NbD s d es)∧(∀ j,st'.get j=st.get j)∧st.cnt≤st'.cnt):=by
 refine Naz (hc.fn _ _ (by kernel_rfl):cfg.fn 37=some m37) ?_;delta m37 Qa Qr Qf Qc Ql Qm Qh Qi Qo;have kk:∀ n',St.get ⟨st.sto,n'⟩ k=some (.cells [.mp M,v] false):=fun _=>hk;have kM:∀ n',St.get ⟨st.sto,n'⟩ M=some (.map (esV es)):=fun _=>hM;have hg:=NcP s es;simp only[Naj];unfold NbD;cases h:getN s es with
 |none =>
   rw[h]at hg;simp only[Option.map]at hg
   iterate 6
    (try rw[Z0]);(try simp(disch:=first|omega|rfl|assumption)only[↓Yaa,Yab,Nae,Naa,rA,rB,rC,rD,reduceIte,unP,rE,kk,kM,hg,Option.map,Option.getD,Option.isSome])
   exact⟨nofun,_,rfl,rfl,fun _=>trivial⟩
 |some x =>
   rw[h]at hg;simp only[Option.map]at hg;by_cases hx:x=d
   ·have b:((x:Int)==(d:Int))=true:=by simp[hx]
    iterate 8
     (try rw[Z0]);(try simp(disch:=first|omega|rfl|assumption)only[↓Yaa,Yab,Nae,Naa,rA,rB,rC,rD,reduceIte,unP,rE,kk,kM,hg,b,Option.map,Option.getD,Option.isSome])
    rw[if_pos hx];exact⟨nofun,_,rfl,rfl,fun _=>trivial⟩
   ·have b:((x:Int)==(d:Int))=false:=by simp;omega
    iterate 8
     (try rw[Z0]);(try simp(disch:=first|omega|rfl|assumption)only[↓Yaa,Yab,Nae,Naa,rA,rB,rC,rD,reduceIte,unP,rE,kk,kM,hg,b,Option.map,Option.getD,Option.isSome])
    rw[if_neg hx];exact⟨nofun,_,rfl,rfl,fun _=>trivial⟩
end Go.Pe
