/-
 Trees: an expression and an object by themselves. No condition. (Printed by gen_alone.py.)
-/
import Derived.Test.YtjnofhibldppoaaZChkQ
set_option linter.unusedVariables false
set_option linter.unusedSimpArgs false
set_option maxHeartbeats 16000000
open Nat renaming reduceAdd → rB,reduceMul → rC,reduceLT → rD,reduceEqDiff → rE,reduceLeDiff → rF
namespace Go.Pe
open Go Go.Am Go.RowKit
theorem Nlb{cfg:Cfg}(hc:CfgT cfg){fuel:Nat}(hfu:12≤fuel){k:Nat}{s:List UInt8}{n:Int}{c:Nat}{v:PV}(lv:Nd7 v=some (.i .i64 (c:Int)))(ov:v.one=true)(cv:v.cells=[v]){st:St} :
 ∃ r' st',Nay cfg (fuel+1) 87 [.agg [.i .u8 (k:Int),.s s,.i .i64 n,v]] st=some (r',st')∧r'=.b (Nbd k s n c):=by
 refine Nax (hc.fn _ _ (by kernel_rfl):cfg.fn 87=some m87) ?_;delta m87 Qr Qg Ql Qt Qn Qs Qk Qm Qh Qi Qu Qv;have gN:∀ x,Nak cfg (Nay cfg fuel) 46 [.s x]=some (.b (NaJ x)):=fun x=>Nex hc.toCfgC hc.x1 Zaa x;have kN:∀ x (st:St) (key:Nat),Nam (Nak cfg (Nay cfg fuel) 46) false st key [.s x]=some (.b (NaJ x),st):=fun x st key=>Nal rfl (gN x) rfl;have hdS:∀ (st:St) x,Nbk st [.s x]=some [.s x]:=fun _ _=>rfl;have hdI:∀ (st:St) k n,Nbk st [.i k n]=some [.i k n]:=fun _ _ _=>rfl;have cbB:∀ x,PV.closedB (.b x)=true:=fun _=>rfl;have cbI:∀ k n,PV.closedB (.i k n)=true:=fun _ _=>rfl;have rbB:∀ (st:St) (key:Nat) x,NaE st key (.b x)=some (.b x,st):=fun _ _ _=>rfl;have rbI:∀ (st:St) (key:Nat) k n,NaE st key (.i k n)=some (.i k n,st):=fun _ _ _ _=>rfl;have gH:∀ l:List (List UInt8),l.length≤5→Nak cfg (Nay cfg fuel) 69 [.fsl l.length (txC l),.s s]=some (.b (NnQ s l)):=fun l hl=>by
  obtain⟨q,rfl⟩:∃ q,fuel=q+1:=⟨fuel - 1,by omega⟩;exact Nar hc.x5 rfl (fun _=>rfl) (Npq (hc.fn _ _ (by kernel_rfl)) (hc.fn _ _ (by kernel_rfl)) hc.x6 Zaa Zaa)
 simp only[Naj]
 iterate 2
  (try rw[Z0]);(try simp(disch:=first|omega|rfl|assumption)only[↓Yaa,Yab,Nae,Naa,rB,rC,rD,rE,reduceIte,unP,rF,lv,ov,cv])
 refine NaL (fun x=>∃ K:Nat,x.env.get 1=.ptr K 0∧x.env.get 3=.i .i64 (c:Int)∧K<x.st.cnt∧x.st.get K=some (.cells [.i .u8 (k:Int),.s s,.i .i64 n,v] false)) ?_ ?_
 ·refine⟨st.cnt,?_⟩;simp(disch:=first|omega|rfl|assumption)only[Yad,rE,reduceIte,NaG,Njl,true_and];refine⟨by omega,?_⟩
  first|trivial|rfl
 rintro⟨env,⟨sto,ct⟩⟩ ⟨K,g1,g3,hK,kC⟩;simp only at g1 g3 hK;replace kC:∀ n',St.get ⟨sto,n'⟩ K=some (.cells [.i .u8 (k:Int),.s s,.i .i64 n,v] false):=fun _=>kC;unfold Nbd;by_cases k1:k=1
 ·rw[if_pos k1];by_cases q1:0≤n
  ·by_cases q2:s=[]
   ·subst q2;by_cases q3:c=0
    ·skip
     iterate 6
      (try rw[Z0]);(try simp(disch:=first|omega|rfl|assumption)only[↓Yaa,Yab,Nae,Naa,rB,rC,rD,rE,reduceIte,unP,rF,g1,g3,kC])
     refine⟨nofun,_,rfl,?_⟩;simp only[Nau,↓Z0,↓Xp,↓Xt,Xq,Xc,Nae,Naa,rB,rC,rD,rE,reduceIte]
     all_goals simp[q1,q3]
    ·skip
     iterate 6
      (try rw[Z0]);(try simp(disch:=first|omega|rfl|assumption)only[↓Yaa,Yab,Nae,Naa,rB,rC,rD,rE,reduceIte,unP,rF,g1,g3,kC])
     refine⟨nofun,_,rfl,?_⟩;simp only[Nau,↓Z0,↓Xp,↓Xt,Xq,Xc,Nae,Naa,rB,rC,rD,rE,reduceIte]
     all_goals simp[q1,q3]
   ·have q2b:(s==[])=false:=by simpa using q2
    iterate 6
     (try rw[Z0]);(try simp(disch:=first|omega|rfl|assumption)only[↓Yaa,Yab,Nae,Naa,rB,rC,rD,rE,reduceIte,unP,rF,g1,g3,kC,q2b])
    refine⟨nofun,_,rfl,?_⟩;simp only[Nau,↓Z0,↓Xp,↓Xt,Xq,Xc,Nae,Naa,rB,rC,rD,rE,reduceIte]
    all_goals simp[q1,q2b]
  ·skip
   iterate 6
    (try rw[Z0]);(try simp(disch:=first|omega|rfl|assumption)only[↓Yaa,Yab,Nae,Naa,rB,rC,rD,rE,reduceIte,unP,rF,g1,g3,kC])
   refine⟨nofun,_,rfl,?_⟩;simp only[Nau,↓Z0,↓Xp,↓Xt,Xq,Xc,Nae,Naa,rB,rC,rD,rE,reduceIte]
   all_goals simp[q1]
 rw[if_neg k1];by_cases k2:k=2
 ·rw[if_pos k2];by_cases q1:n=0
  ·by_cases q3:c=0
   ·skip
    iterate 7
     (try rw[Z0]);(try simp(disch:=first|omega|rfl|assumption)only[↓Yaa,Yab,Nae,Naa,rB,rC,rD,rE,reduceIte,unP,rF,g1,g3,kC,kN])
    refine⟨nofun,_,rfl,?_⟩;simp only[Nau,↓Z0,↓Xp,↓Xt,Xq,Xc,Nae,Naa,rB,rC,rD,rE,reduceIte]
    all_goals simp[q1,q3]
   ·skip
    iterate 7
     (try rw[Z0]);(try simp(disch:=first|omega|rfl|assumption)only[↓Yaa,Yab,Nae,Naa,rB,rC,rD,rE,reduceIte,unP,rF,g1,g3,kC])
    refine⟨nofun,_,rfl,?_⟩;simp only[Nau,↓Z0,↓Xp,↓Xt,Xq,Xc,Nae,Naa,rB,rC,rD,rE,reduceIte]
    all_goals simp[q1,q3]
  ·skip
   iterate 7
    (try rw[Z0]);(try simp(disch:=first|omega|rfl|assumption)only[↓Yaa,Yab,Nae,Naa,rB,rC,rD,rE,reduceIte,unP,rF,g1,g3,kC])
   refine⟨nofun,_,rfl,?_⟩;simp only[Nau,↓Z0,↓Xp,↓Xt,Xq,Xc,Nae,Naa,rB,rC,rD,rE,reduceIte]
   all_goals simp[q1]
 rw[if_neg k2];by_cases k3:k=3
 ·rw[if_pos k3];by_cases q1:n=0
  ·by_cases q2:c=1
   ·subst q2
    iterate 7
     (try rw[Z0]);(try simp(disch:=first|omega|rfl|assumption)only[↓Yaa,Yab,Nae,Naa,rB,rC,rD,rE,reduceIte,unP,rF,g1,g3,kC,Nat.sub_self])
    refine NbJ (NbY (NfU (cs:=txC Ng7) (by simp(disch:=omega)only[NaG,Njl,NaN];rfl) rfl rfl Zae) rfl) (gH Ng7 Zaj) rfl rfl ?_
    iterate 2
     (try rw[Z0]);(try simp(disch:=first|omega|rfl|assumption)only[↓Yaa,Yab,Nae,Naa,rB,rC,rD,rE,reduceIte,unP,rF])
    refine⟨nofun,_,rfl,?_⟩;simp only[Nau,↓Z0,↓Xp,↓Xt,Xq,Xc,Nae,Naa,rB,rC,rD,rE,reduceIte]
    all_goals simp[q1]
   ·by_cases q3:c=2
    ·subst q3
     iterate 7
      (try rw[Z0]);(try simp(disch:=first|omega|rfl|assumption)only[↓Yaa,Yab,Nae,Naa,rB,rC,rD,rE,reduceIte,unP,rF,g1,g3,kC,Nat.sub_self])
     refine NbJ (NbY (NfU (cs:=txC signs2) (by simp(disch:=omega)only[NaG,Njl,NaN];rfl) rfl rfl Zae) rfl) (gH signs2 Zaj) rfl rfl ?_
     iterate 2
      (try rw[Z0]);(try simp(disch:=first|omega|rfl|assumption)only[↓Yaa,Yab,Nae,Naa,rB,rC,rD,rE,reduceIte,unP,rF])
     refine⟨nofun,_,rfl,?_⟩;simp only[Nau,↓Z0,↓Xp,↓Xt,Xq,Xc,Nae,Naa,rB,rC,rD,rE,reduceIte]
     all_goals simp[q1]
    ·by_cases q4:c=0
     ·skip
      iterate 7
       (try rw[Z0]);(try simp(disch:=first|omega|rfl|assumption)only[↓Yaa,Yab,Nae,Naa,rB,rC,rD,rE,reduceIte,unP,rF,g1,g3,kC])
      refine⟨nofun,_,rfl,?_⟩;simp only[Nau,↓Z0,↓Xp,↓Xt,Xq,Xc,Nae,Naa,rB,rC,rD,rE,reduceIte]
      all_goals simp[q1,q4]
     ·skip
      iterate 7
       (try rw[Z0]);(try simp(disch:=first|omega|rfl|assumption)only[↓Yaa,Yab,Nae,Naa,rB,rC,rD,rE,reduceIte,unP,rF,g1,g3,kC])
      refine⟨nofun,_,rfl,?_⟩;simp only[Nau,↓Z0,↓Xp,↓Xt,Xq,Xc,Nae,Naa,rB,rC,rD,rE,reduceIte]
      all_goals first|done|(simp[q1]<;>omega)
  ·skip
   iterate 7
    (try rw[Z0]);(try simp(disch:=first|omega|rfl|assumption)only[↓Yaa,Yab,Nae,Naa,rB,rC,rD,rE,reduceIte,unP,rF,g1,g3,kC])
   refine⟨nofun,_,rfl,?_⟩;simp only[Nau,↓Z0,↓Xp,↓Xt,Xq,Xc,Nae,Naa,rB,rC,rD,rE,reduceIte]
   all_goals simp[q1]
 rw[if_neg k3]
 iterate 7
  (try rw[Z0]);(try simp(disch:=first|omega|rfl|assumption)only[↓Yaa,Yab,Nae,Naa,rB,rC,rD,rE,reduceIte,unP,rF,g1,g3,kC])
 refine⟨nofun,_,rfl,?_⟩;simp only[Nau,↓Z0,↓Xp,↓Xt,Xq,Xc,Nae,Naa,rB,rC,rD,rE,reduceIte]
def Ndd(k:Nat)(s:List UInt8)(n:Int):Bool:=if k<1 then true else if 9<k then true else if NaJ s=false then true else if n<0 then true else if 0<n then !Ndl k else false
def Ngn(k:Nat)(s:List UInt8)(n:Int)(o:List UInt8):Bool:=if Ndd k s n=true then false else if k=4 then NaJ o else o==[]
theorem Nkl{cfg:Cfg}(hc:CfgT cfg){fuel:Nat}(hfu:12≤fuel){k:Nat}{s:List UInt8}{n:Int}{o:List UInt8}{r:Int}{st:St} :
 ∃ r' st',Nay cfg (fuel+1) 45 [.agg [.i .u8 (k:Int),.s s,.i .i64 n,.s o,.i .i64 r]] st=some (r',st')∧r'=.b (Ngn k s n o):=by
 refine Nax (hc.fn _ _ (by kernel_rfl):cfg.fn 45=some m45) ?_;delta m45 Qr Qg Ql Qt Qs Qk Qm Qh Qi Qu Qv;have gN:∀ x,Nak cfg (Nay cfg fuel) 46 [.s x]=some (.b (NaJ x)):=fun x=>Nex hc.toCfgC hc.x1 Zaa x;have kN:∀ x (st:St) (key:Nat),Nam (Nak cfg (Nay cfg fuel) 46) false st key [.s x]=some (.b (NaJ x),st):=fun x st key=>Nal rfl (gN x) rfl;have hdS:∀ (st:St) x,Nbk st [.s x]=some [.s x]:=fun _ _=>rfl;have hdI:∀ (st:St) k n,Nbk st [.i k n]=some [.i k n]:=fun _ _ _=>rfl;have cbB:∀ x,PV.closedB (.b x)=true:=fun _=>rfl;have cbI:∀ k n,PV.closedB (.i k n)=true:=fun _ _=>rfl;have rbB:∀ (st:St) (key:Nat) x,NaE st key (.b x)=some (.b x,st):=fun _ _ _=>rfl;have rbI:∀ (st:St) (key:Nat) k n,NaE st key (.i k n)=some (.i k n,st):=fun _ _ _ _=>rfl;have kG:∀ (st:St) (key:Nat),Nam (Nak cfg (Nay cfg fuel) 63) false st key [.i .u8 (k:Int)]=some (.b (Ndl k),st):=fun st key=>by
  obtain⟨q,rfl⟩:∃ q,fuel=q+1:=⟨fuel - 1,by omega⟩;exact Nal rfl (Nar hc.x4 rfl (fun _=>rfl) (Nlo (hc.fn _ _ (by kernel_rfl)))) rfl
 simp only[Naj];(try rw[Z0]);(try simp(disch:=first|omega|rfl|assumption)only[↓Yaa,Yab,Nae,Naa,rB,rC,rD,rE,reduceIte,unP,rF]);refine NaL (fun x=>∃ K:Nat,x.env.get 1=.ptr K 0∧x.st.get K=some (.cells [.i .u8 (k:Int),.s s,.i .i64 n,.s o,.i .i64 r] false)) ?_ ?_
 ·refine⟨st.cnt,?_⟩;simp(disch:=first|omega|rfl|assumption)only[Yad,rE,reduceIte,NaG,Njl,true_and]
  all_goals first|trivial|rfl
 rintro⟨env,⟨sto,ct⟩⟩ ⟨K,g1,kC⟩;simp only at g1;replace kC:∀ n',St.get ⟨sto,n'⟩ K=some (.cells [.i .u8 (k:Int),.s s,.i .i64 n,.s o,.i .i64 r] false):=fun _=>kC;unfold Ngn;rw[Z0];refine Za (fun x=>x.env.get 32=.b (Ndd k s n)∧x.env.get 1=.ptr K 0∧x.st.get K=some (.cells [.i .u8 (k:Int),.s s,.i .i64 n,.s o,.i .i64 r] false)) ?_ ?_
 ·by_cases h1:k<1
  ·rw[show Ndd k s n=true by unfold Ndd;rw[if_pos h1]];simp(maxSteps:=300000) (disch:=first|omega|rfl|assumption)only[↓Yaa,Yac,Nae,Naa,rB,rC,rD,rE,reduceIte,unP,Xm,rF,g1,kC,kN,kG,Bool.not_true,Bool.not_false]
   all_goals (first|done|exact kC _|(refine⟨?_,?_⟩<;>first|rfl|exact kC _))
  by_cases h2:9<k
  ·rw[show Ndd k s n=true by unfold Ndd;rw[if_neg h1,if_pos h2]];simp(maxSteps:=300000) (disch:=first|omega|rfl|assumption)only[↓Yaa,Yac,Nae,Naa,rB,rC,rD,rE,reduceIte,unP,Xm,rF,g1,kC,kN,kG,Bool.not_true,Bool.not_false]
   all_goals (first|done|exact kC _|(refine⟨?_,?_⟩<;>first|rfl|exact kC _))
  by_cases h3:NaJ s=false
  ·rw[show Ndd k s n=true by unfold Ndd;rw[if_neg h1,if_neg h2,if_pos h3]];simp(maxSteps:=300000) (disch:=first|omega|rfl|assumption)only[↓Yaa,Yac,Nae,Naa,rB,rC,rD,rE,reduceIte,unP,Xm,rF,g1,kC,kN,kG,Bool.not_true,Bool.not_false,h3]
   all_goals (first|done|exact kC _|(refine⟨?_,?_⟩<;>first|rfl|exact kC _))
  have h3':NaJ s=true:=by simpa using h3
  by_cases h4:n<0
  ·rw[show Ndd k s n=true by unfold Ndd;rw[if_neg h1,if_neg h2,if_neg h3,if_pos h4]];simp(maxSteps:=300000) (disch:=first|omega|rfl|assumption)only[↓Yaa,Yac,Nae,Naa,rB,rC,rD,rE,reduceIte,unP,Xm,rF,g1,kC,kN,kG,Bool.not_true,Bool.not_false,h3']
   all_goals (first|done|exact kC _|(refine⟨?_,?_⟩<;>first|rfl|exact kC _))
  by_cases h5:0<n
  ·cases h6:Ndl k with
   |true =>
     rw[show Ndd k s n=false by unfold Ndd;rw[if_neg h1,if_neg h2,if_neg h3,if_neg h4,if_pos h5,h6];rfl];simp(maxSteps:=300000) (disch:=first|omega|rfl|assumption)only[↓Yaa,Yac,Nae,Naa,rB,rC,rD,rE,reduceIte,unP,Xm,rF,g1,kC,kN,kG,Bool.not_true,Bool.not_false,h3',h6]
     all_goals (first|done|exact kC _|(refine⟨?_,?_⟩<;>first|rfl|exact kC _))
   |false =>
     rw[show Ndd k s n=true by unfold Ndd;rw[if_neg h1,if_neg h2,if_neg h3,if_neg h4,if_pos h5,h6];rfl];simp(maxSteps:=300000) (disch:=first|omega|rfl|assumption)only[↓Yaa,Yac,Nae,Naa,rB,rC,rD,rE,reduceIte,unP,Xm,rF,g1,kC,kN,kG,Bool.not_true,Bool.not_false,h3',h6]
     all_goals (first|done|exact kC _|(refine⟨?_,?_⟩<;>first|rfl|exact kC _))
  ·rw[show Ndd k s n=false by unfold Ndd;rw[if_neg h1,if_neg h2,if_neg h3,if_neg h4,if_neg h5]];simp(maxSteps:=300000) (disch:=first|omega|rfl|assumption)only[↓Yaa,Yac,Nae,Naa,rB,rC,rD,rE,reduceIte,unP,Xm,rF,g1,kC,kN,kG,Bool.not_true,Bool.not_false,h3']
   all_goals (first|done|exact kC _|(refine⟨?_,?_⟩<;>first|rfl|exact kC _))
 clear g1 kC;rintro⟨env,⟨sto,ct⟩⟩ ⟨g32,g1,kC⟩;simp only at g32 g1;replace kC:∀ n',St.get ⟨sto,n'⟩ K=some (.cells [.i .u8 (k:Int),.s s,.i .i64 n,.s o,.i .i64 r] false):=fun _=>kC;cases hT:Ndd k s n with
 |true =>
   rw[hT]at g32
   iterate 2
    (try rw[Z0]);(try simp(disch:=first|omega|rfl|assumption)only[↓Yaa,Yab,Nae,Naa,rB,rC,rD,rE,reduceIte,unP,rF,g32])
   refine⟨nofun,_,rfl,?_⟩;simp only[Nau,↓Z0,↓Xp,↓Xt,Xq,Xc,Nae,Naa,rB,rC,rD,rE,reduceIte]
   all_goals rfl
 |false =>
   rw[hT]at g32;rw[if_neg Zaf];by_cases k4:k=4
   ·skip
    iterate 5
     (try rw[Z0]);(try simp(disch:=first|omega|rfl|assumption)only[↓Yaa,Yab,Nae,Naa,rB,rC,rD,rE,reduceIte,unP,rF,g32,g1,kC,kN])
    refine⟨nofun,_,rfl,?_⟩;simp only[Nau,↓Z0,↓Xp,↓Xt,Xq,Xc,Nae,Naa,rB,rC,rD,rE,reduceIte]
    all_goals simp[k4]
   ·by_cases q:o=[]
    ·subst q
     iterate 5
      (try rw[Z0]);(try simp(disch:=first|omega|rfl|assumption)only[↓Yaa,Yab,Nae,Naa,rB,rC,rD,rE,reduceIte,unP,rF,g32,g1,kC])
     refine⟨nofun,_,rfl,?_⟩;simp only[Nau,↓Z0,↓Xp,↓Xt,Xq,Xc,Nae,Naa,rB,rC,rD,rE,reduceIte]
     all_goals simp[k4]
    ·have q2:(o==[])=false:=by simpa using q
     iterate 5
      (try rw[Z0]);(try simp(disch:=first|omega|rfl|assumption)only[↓Yaa,Yab,Nae,Naa,rB,rC,rD,rE,reduceIte,unP,rF,g32,g1,kC,q2])
     refine⟨nofun,_,rfl,?_⟩;simp only[Nau,↓Z0,↓Xp,↓Xt,Xq,Xc,Nae,Naa,rB,rC,rD,rE,reduceIte]
     all_goals simp[k4,q2]
end Go.Pe
