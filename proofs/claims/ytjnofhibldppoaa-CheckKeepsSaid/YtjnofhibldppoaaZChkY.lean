/-
 Trees: Right answers as the walk over the whole program. No condition.
-/
import Derived.Test.YtjnofhibldppoaaZChkX
set_option linter.unusedVariables false
set_option linter.unusedSimpArgs false
set_option maxHeartbeats 8000000
open Nat renaming reduceAdd → rA,reduceMul → rB,reduceLT → rC,reduceEqDiff → rD,reduceLeDiff → rE
namespace Go.Pe
open Go Go.Am Go.RowKit
def Ncm(p:Pg):Bool:=!(Ng6 true p 0).2
theorem Njz{cfg:Cfg}(hc:CfgV cfg){fuel:Nat}{p:Pg}{st:St}(hfu:Tds.size p.T+p.D.length+30≤fuel)(hn:Tds.size p.T+p.D.length<1000000000000000) :
 ∃ r st',NaI cfg (fuel+2) 22 [.agg (Pg.cs p)] st=some (r,st')∧(r=.b (Ncm p)∧(∀ j,j<st.cnt→st'.get j=st.get j)∧st.cnt≤st'.cnt):=by
 refine Naz (hc.fn _ _ (by kernel_rfl):cfg.fn 22=some m22) ?_;delta m22 Ql Qt Qm Qi Qw Pg.cs;simp only[Naj]
 iterate 3
  (try rw[Z0]);(try simp(disch:=first|omega|rfl|assumption)only[↓Yaa,Yab,Nae,Naa,rA,rB,rC,rD,reduceIte,unP,rE,Nai,Naf,hc.y4])
 refine Ncc (Ng7 hc (p:=p) (ask:=true) (b0:=false) (n:=0) (k:=st.cnt+24) hfu (by rw[Yaf];rfl) Zal Zaa) ?_;rintro r ⟨sto',c'⟩ ⟨hr,-,kp⟩;have h1:=kp.c;simp only[Nau]at h1;refine⟨nofun,[r],rfl,by simp only[NaF];exact hr,fun j hj=>?_,by simp only;omega⟩;rw[kp.g j Zaa Zal];simp(disch:=omega)only[NaB,NaJ]
end Go.Pe
