/-
 CheckTells: the document's small functions: Find, has, cap9, Of: walked. No condition.
-/
import Derived.Test.YtjnofhibldppoaaGreatZTelA
import Derived.Test.YtjnofhibldppoaaGreatZKitD
import Derived.Test.YtjnofhibldppoaaGreatZLstA
set_option linter.unusedVariables false
set_option linter.unusedSimpArgs false
set_option maxHeartbeats 8000000
open Nat renaming reduceAdd → rB,reduceMul → rC,reduceLT → rD,reduceEqDiff → rE,reduceLeDiff → rF
namespace Go.Pe
open Go Go.Am Go.RowKit
section
variable {st:St}{cfg:Cfg}{fuel:Nat}
def NjC(s:List UInt8):List Dc→Nat→Int
 |[],_=>-1
 |d::r,i=>if d.S==s then(i:Int)else NjC s r (i+1)
theorem Nf9(s:List UInt8):∀ (D:List Dc) (i:Nat),(getN s (esD D)=none→NjC s D i=-1)∧(∀ k,getN s (esD D)=some k→∃ (j:Nat) (h:j<D.length),NjC s D i=((i+j:Nat):Int)∧D[j].K.toNat=k)
 |[],i=>⟨fun _=>rfl,fun k h=>by simp[esD,getN]at h⟩
 |d::r,i=>by
   obtain⟨h1,h2⟩:=Nf9 s r (i+1);have he:esD (d::r)=(d.S,d.K.toNat)::esD r:=rfl;have hc:(d.S==s)=(s==d.S):=BEq.comm;rw[he,getN,NjC,hc];cases h:s==d.S with
   |true =>
     rw[if_pos rfl,if_pos rfl];exact⟨nofun,fun k hk=>⟨0,by simp,rfl,by simpa using hk⟩⟩
   |false =>
     rw[if_neg Zaf,if_neg Zaf];refine⟨h1,fun k hk=>?_⟩;obtain⟨j,hj,e1,e2⟩:=h2 k hk;exact⟨j+1,by simp;omega,by rw[e1];congr 1;omega,e2⟩
theorem Noi(hf:cfg.fn 18=some m18){D:List Dc}{z:Bool}{s:List UInt8}(hl:D.length<1000000000000000)(hfu:D.length+2≤fuel) :
 ∃ r st',NaC cfg (fuel+1) 18 [slV z D.length (D.flatMap Dc.cs),.s s] st=some (r,st')∧r=.i .i64 (NjC s D 0):=by
 refine NaA hf ?_;delta m18 Qa Qr Qf Ql Qt Qk Qm Qi Qo;have hlv:=NaD z D.length (D.flatMap Dc.cs);have hsz:=NaR Dc.cs_len D;obtain⟨R,hR⟩:∃ R,NjC s D 0=R:=⟨_,rfl⟩;rw[hR];obtain⟨sto0,c0⟩:=st;simp only[Nai]
 iterate 3
  (try rw[Z0]);(try simp(maxSteps:=9^7)(disch:=first|omega|rfl|assumption)only[↓Yaa,Yab,Nae,Naa,rB,rC,rD,rE,reduceIte,unP,rF])
 refine Z9 (k:=D.length - 0) (fun m x=>∃ (i:Nat),m=D.length - i∧x.env.get 0=slV z D.length (D.flatMap Dc.cs)∧x.env.get 1=.s s∧x.env.get 5=.i .i64 (i:Int)∧(i≤D.length)∧(NjC s (D.drop i) i=R)) ?_ ?_ Zaa
 ·skip
  rintro m ⟨env,⟨sto,c⟩⟩ ⟨i,rfl,g0,g1,g5,hi,hob⟩;try simp only at g0 g1 g5
  by_cases hil:i<D.length
  ·rw[Nan hil]at g0 hlv;obtain⟨d,he⟩:∃ d,D[i]=d:=⟨_,rfl⟩;have hld:=fun st=>(Nit (st:=st) hil).1;simp only[he]at hld;rw[List.drop_eq_getElem_cons hil,he,NjC]at hob;cases hs:d.S==s with
   |true =>
     rw[if_pos hs]at hob
     iterate 7
      (try rw[Z0]);(try simp(maxSteps:=9^7)(disch:=first|omega|rfl|assumption)only[↓Yaa,Yab,Nae,Naa,rB,rC,rD,rE,reduceIte,unP,rF,g0,g1,g5,hlv,hld,hsz,hs])
     exact⟨nofun,_,rfl,by simp only[Nay,Yad,if_true];rw[←hob]⟩
   |false =>
     rw[if_neg (by simp[hs])]at hob
     iterate 7
      (try rw[Z0]);(try simp(maxSteps:=9^7)(disch:=first|omega|rfl|assumption)only[↓Yaa,Yab,Nae,Naa,rB,rC,rD,rE,reduceIte,unP,rF,g0,g1,g5,hlv,hld,hsz,hs])
     exact⟨D.length - (i+1),by omega,i+1,rfl,(Nan hil).symm,rfl,by omega,hob⟩
  ·have h0:D.drop i=[]:=List.drop_of_length_le Zaa;rw[h0,NjC]at hob
   iterate 6
    (try rw[Z0]);(try simp(maxSteps:=9^7)(disch:=first|omega|rfl|assumption)only[↓Yaa,Yab,Nae,Naa,rB,rC,rD,rE,reduceIte,unP,rF,g0,g1,g5,hlv])
   exact⟨nofun,_,rfl,by simp only[Nay,Yad,if_true];rw[←hob];rfl⟩
 ·skip
  exact⟨0,rfl,Zac,Zac,Zac,Zad,(by rw[List.drop_zero];exact hR)⟩
theorem Nol(s:List UInt8):∀ (ls:List (List UInt8)) (i:Nat) (h:i<ls.length),NbN s (ls.drop i)=if ls[i]==s then true else NbN s (ls.drop (i+1)):=fun ls i h=>by
 rw[List.drop_eq_getElem_cons h,NbN];have hc:(ls[i]==s)=(s==ls[i]):=BEq.comm;rw[hc]
def stC(ls:List (List UInt8)):List PV:=ls.map .s
theorem NoE{ls:List (List UInt8)}{i:Nat}(h:i<ls.length):NaY st 1 (.fptr ((stC ls).drop i))=some [.s ls[i]]:=by
 show cut? _ 0 1=_;unfold cut?;rw[if_pos (by rw[List.length_drop,stC,List.length_map];omega),List.drop_zero,stC,←List.map_drop,List.drop_eq_getElem_cons h];rfl
theorem Nl8(hf:cfg.fn 35=some m35){ls:List (List UInt8)}{z:Bool}{s:List UInt8}(hl:ls.length<1000000000000000)(hfu:ls.length+2≤fuel) :
 ∃ r st',NaC cfg (fuel+1) 35 [.s s,slV z ls.length (stC ls)] st=some (r,st')∧r=.b (NbN s ls):=by
 refine NaA hf ?_;delta m35 Qa Qr Ql Qt Qk Qm Qi Qo;have hlv:=NaD z ls.length (stC ls);have hsz:(stC ls).length=ls.length:=List.length_map _;obtain⟨R,hR⟩:∃ R,NbN s ls=R:=⟨_,rfl⟩;rw[hR];obtain⟨sto0,c0⟩:=st;simp only[Nai]
 iterate 3
  (try rw[Z0]);(try simp(maxSteps:=9^7)(disch:=first|omega|rfl|assumption)only[↓Yaa,Yab,Nae,Naa,rB,rC,rD,rE,reduceIte,unP,rF])
 refine Z9 (k:=ls.length - 0) (fun m x=>∃ (i:Nat),m=ls.length - i∧x.env.get 0=.s s∧x.env.get 1=slV z ls.length (stC ls)∧x.env.get 5=.i .i64 (i:Int)∧(i≤ls.length)∧(NbN s (ls.drop i)=R)) ?_ ?_ Zaa
 ·skip
  rintro m ⟨env,⟨sto,c⟩⟩ ⟨i,rfl,g0,g1,g5,hi,hob⟩;try simp only at g0 g1 g5
  by_cases hil:i<ls.length
  ·rw[Nan hil]at g1 hlv;obtain⟨d,he⟩:∃ d,ls[i]=d:=⟨_,rfl⟩;have hld:=fun st=>NoE (st:=st) hil;simp only[he]at hld;rw[Nol s ls i hil,he]at hob;cases hs:d==s with
   |true =>
     rw[if_pos hs]at hob
     iterate 7
      (try rw[Z0]);(try simp(maxSteps:=9^7)(disch:=first|omega|rfl|assumption)only[↓Yaa,Yab,Nae,Naa,rB,rC,rD,rE,reduceIte,unP,rF,g0,g1,g5,hlv,hld,hsz,hs])
     exact⟨nofun,_,rfl,by simp only[Nay,Yad,if_true];rw[←hob]⟩
   |false =>
     rw[if_neg (by simp[hs])]at hob
     iterate 7
      (try rw[Z0]);(try simp(maxSteps:=9^7)(disch:=first|omega|rfl|assumption)only[↓Yaa,Yab,Nae,Naa,rB,rC,rD,rE,reduceIte,unP,rF,g0,g1,g5,hlv,hld,hsz,hs])
     exact⟨ls.length - (i+1),by omega,i+1,rfl,(Nan hil).symm,rfl,by omega,hob⟩
  ·have h0:ls.drop i=[]:=List.drop_of_length_le Zaa;rw[h0,NbN]at hob
   iterate 6
    (try rw[Z0]);(try simp(maxSteps:=9^7)(disch:=first|omega|rfl|assumption)only[↓Yaa,Yab,Nae,Naa,rB,rC,rD,rE,reduceIte,unP,rF,g0,g1,g5,hlv])
   exact⟨nofun,_,rfl,by simp only[Nay,Yad,if_true];rw[←hob]⟩
 ·skip
  exact⟨0,rfl,Zac,Zac,Zac,Zad,(by rw[List.drop_zero];exact hR)⟩
theorem NnN(hf:cfg.fn 36=some m36){n:Int} :
 ∃ r st',NaC cfg (fuel+1) 36 [.i .i64 n] st=some (r,st')∧r=.i .i64 (mnI n 1000000000):=by
 refine NaA hf ?_;delta m36 Qa Qt Qk Qm Qi Qo;unfold mnI;obtain⟨sto0,c0⟩:=st;simp only[Nai];by_cases h:(1000000000:Int)<n
 ·rw[if_pos h]
  iterate 4
   (try rw[Z0]);(try simp(maxSteps:=9^7)(disch:=first|omega|rfl|assumption)only[↓Yaa,Yab,Nae,Naa,rB,rC,rD,rE,reduceIte,unP,rF,h])
  exact⟨nofun,_,rfl,by simp only[Nay,Yad,if_true];first|done|rfl⟩
 ·rw[if_neg h]
  iterate 4
   (try rw[Z0]);(try simp(maxSteps:=9^7)(disch:=first|omega|rfl|assumption)only[↓Yaa,Yab,Nae,Naa,rB,rC,rD,rE,reduceIte,unP,rF,h])
  exact⟨nofun,_,rfl,by simp only[Nay,Yad,if_true];first|done|rfl⟩
theorem Nmu(hf:cfg.fn 33=some m33){o:Nat}(h1:1≤o)(h2:o≤23) :
 ∃ r st',NaC cfg (fuel+1) 33 [.i .u8 (o:Int)] st=some (r,st')∧r=.i .u8 (ofN o:Int):=by
 refine NaA hf ?_;have h:o=1∨o=2∨o=3∨o=4∨o=5∨o=6∨o=7∨o=8∨o=9∨o=10∨o=11∨o=12∨o=13∨o=14∨o=15∨o=16∨o=17∨o=18∨o=19∨o=20∨o=21∨o=22∨o=23:=by omega
 delta m33 Ql Qt Qm Qi;rcases h with rfl|rfl|rfl|rfl|rfl|rfl|rfl|rfl|rfl|rfl|rfl|rfl|rfl|rfl|rfl|rfl|rfl|rfl|rfl|rfl|rfl|rfl|rfl
 all_goals
  simp(disch:=first|omega|rfl|assumption)only[Nai,↓Z0,↓Xp,↓Xt,Xq,Xc,Nae,Naa,rB,rC,rD,rE,reduceIte,Xm,rF,Xa,Xn,unP,Nab,Nac,Nad];refine⟨nofun,_,rfl,?_⟩;simp only[Nay,↓Z0,↓Xp,↓Xt,Xq,Xc,Nae,Naa,rB,rC,rD,rE,reduceIte]
  all_goals rfl
end
end Go.Pe
