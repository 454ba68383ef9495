/-
 Check: are all names of an expression told? No condition.
-/
import Derived.Test.YtjnofhibldppoaaZChkMb
set_option linter.unusedVariables false
set_option linter.unusedSimpArgs false
set_option maxHeartbeats 8000000
open Nat renaming reduceAdd → rA,reduceMul → rB,reduceLT → rC,reduceEqDiff → rD,reduceLeDiff → rE
namespace Go.Pe
open Go Go.Am Go.RowKit
def lsV(ls:List (List UInt8)):List (PV×PV):=ls.map fun s=>(.s s,.i .i64 (Int.ofNat 1))
def Nbv(s:List UInt8):List (List UInt8)→Bool
 |[]=>false
 |t::r=>if s==t then true else Nbv s r
def NdV(s:List UInt8):List (List UInt8)→List (List UInt8)
 |[]=>[s]
 |t::r=>if s==t then s::r else t::NdV s r
theorem Nci(s:List UInt8):∀ ls,Nbi 2 (.s s) (lsV ls)=some (if Nbv s ls=true then some (.i .i64 (Int.ofNat 1))else none)
 |[]=>rfl
 |t::r=>by
   have ih:=Nci s r;unfold lsV at ih ⊢;rw[List.map_cons,Nbi,Nbv];cases h:s==t with
   |true=>simp[eq1,h]
   |false =>
     have ih':Nbi 2 (PV.s s) (List.map (fun s=>(PV.s s,PV.i IntKind.i64 1)) r)=some (if Nbv s r=true then some (PV.i IntKind.i64 1)else none):=ih;simp[eq1,h,ih']
theorem NbX(s:List UInt8):∀ ls,Na6 2 (.s s) (.i .i64 (Int.ofNat 1)) (lsV ls)=some (lsV (NdV s ls))
 |[]=>rfl
 |t::r=>by
   have ih:=NbX s r;unfold lsV at ih ⊢;rw[List.map_cons,Na6,NdV];cases h:s==t with
   |true=>simp[eq1,h]
   |false =>
     have ih':Na6 2 (PV.s s) (PV.i IntKind.i64 1) (List.map (fun s=>(PV.s s,PV.i IntKind.i64 1)) r)=some (List.map (fun s=>(PV.s s,PV.i IntKind.i64 1)) (NdV s r)):=ih;simp[eq1,h,ih']
mutual
def Ex.told(g:List UInt8→Bool):Ex→Bool
 |.mk k s n z l=>if k.toNat=2∧g s=false then false else Exs.told g l
def Exs.told(g:List UInt8→Bool):List Ex→Bool
 |[]=>true
 |e::r=>e.told g&&Exs.told g r
end
theorem Ex.told_eq(g:List UInt8→Bool)(e:Ex):e.told g=if e.K.toNat=2∧g e.S=false then false else Exs.told g e.L:=by
 cases e;rw[Ex.told];rfl
theorem Nlj{cfg:Cfg}(hc:CfgV cfg)(hx:cfg.ext 49=none){ls:List (List UInt8)}{kp M:Nat}{v:PV} :
 ∀ (fuel:Nat) (l:List Ex) (z:Bool) (st:St),Exs.size l+2≤fuel→Exs.size l<1000000000000000→kp<st.cnt→M<st.cnt→st.get kp=some (.cells [v,.mp M] false)→st.get M=some (.map (lsV ls)) →
 ∃ r st',NaI cfg (fuel+1) 49 [.ptr kp 0,slV z l.length (Exs.cs l)] st=some (r,st')∧(r=.b (Exs.told (Nbv · ls) l)∧(∀ j,j<st.cnt→st'.get j=st.get j)∧st.cnt≤st'.cnt):=by
 intro fuel
 induction fuel with
 |zero=>intro l z st h;omega
 |succ q ih =>
   intro l z st hfu hn hlt hlm hk hM;refine Naz (hc.fn _ _ (by kernel_rfl):cfg.fn 49=some m49) ?_;delta m49 Qr Qg Ql Qt Qn Qs Qk Qm Qh Qi Qu Qv Qo;have hll:=Exs.len_le l;have hlv:=NaM z l.length (Exs.cs l);simp only[Naj]
   iterate 3
    (try rw[Z0]);(try simp(disch:=first|omega|rfl|assumption)only[↓Yaa,Yab,Nae,Naa,rA,rB,rC,rD,reduceIte,unP,rE,hlv])
   refine Z9 (k:=l.length - 0) (fun m x=>∃ (i:Nat),m=l.length - i∧i≤l.length∧Exs.told (Nbv · ls) (l.drop i)=Exs.told (Nbv · ls) l∧x.env.get 0=.ptr kp 0∧x.env.get 7=slV z l.length (Exs.cs l)∧x.env.get 8=.i .i64 (l.length:Int)∧x.env.get 9=.i .i64 (i:Int)∧st.cnt≤x.st.cnt∧(∀ j,j<st.cnt→x.st.get j=st.get j)) ?_ ?_ Zaa
   ·rintro m ⟨env,⟨sto,c⟩⟩ ⟨i,rfl,hi,hob,g0,g7,g8,g9,hcc,ko⟩;simp only at g0 g7 g8 g9 hcc;have kk:∀ n',St.get ⟨sto,n'⟩ kp=some (.cells [v,.mp M] false):=fun _=>(ko kp hlt).trans hk;have kM:∀ n',St.get ⟨sto,n'⟩ M=some (.map (lsV ls)):=fun _=>(ko M hlm).trans hM;by_cases hil:i<l.length
    ·rw[Nan hil]at g7;have hdr:=List.drop_eq_getElem_cons hil;obtain⟨e,he⟩:∃ e,l[i]=e:=⟨_,rfl⟩;have hld:=fun st=>NfQ (st:=st) hil;simp only[he]at hld;rw[he]at hdr;rw[hdr,Exs.told,Ex.told_eq]at hob;have hsz:=Exs.len l;have hel:e.size≤Exs.size l:=Exs.size_mem (he▸List.getElem_mem hil);have hes:=Ex.size_eq e;obtain⟨k,hkk⟩:∃ k,e.K.toNat=k:=⟨_,rfl⟩;rw[hkk]at hob;simp only[hkk]at hld;have hkc:kp<c:=(by omega);have hmc:M<c:=(by omega);have htd:e.told (Nbv · ls)=if k=2∧Nbv e.S ls=false then false else Exs.told (Nbv · ls) e.L:=(by rw[Ex.told_eq,hkk]);replace hob:(e.told (Nbv · ls)&&Exs.told (Nbv · ls) (l.drop (i+1)))=Exs.told (Nbv · ls) l:=by rw[htd];exact hob
     iterate 4
      (try rw[Z0]);(try simp(disch:=first|omega|rfl|assumption)only[↓Yaa,Yab,Nae,Naa,rA,rB,rC,rD,reduceIte,unP,rE,g0,g7,g8,g9,hld,hsz,Naf,Nai])
     refine Za (fun x=>x.env.get 0=.ptr kp 0∧x.env.get 7=.fsl l.length (Exs.cs l)∧x.env.get 8=.i .i64 (l.length:Int)∧x.env.get 9=.i .i64 (i:Int)∧x.env.get 32=.b (!(e.told (Nbv · ls)))∧st.cnt≤x.st.cnt∧(∀ j,j<st.cnt→x.st.get j=st.get j)) ?_ ?_
     ·have kL:∀ n' x y j,j<st.cnt→St.get ⟨((St.put ⟨sto,c+40⟩ (c+24) x).put (c+24) y).sto,n'⟩ j=st.get j:=fun n' x y j hj=>by simp(disch:=omega)only[NaB,NaJ];exact ko j hj
      rw[htd];by_cases h2:k=2
      ·have b2:((k:Int)==Int.ofNat 2)=true:=(by subst h2;rfl);have hm:=Nci e.S ls;by_cases h0:Nbv e.S ls=false
       ·have b0:(Int.ofNat 0==Int.ofNat 0)=true:=rfl;rw[if_pos ⟨h2,h0⟩];rw[h0,if_neg Zaf]at hm;(try rw[Z0]);(try simp(disch:=first|omega|rfl|assumption)only[↓Yaa,Yab,Nae,Naa,rA,rB,rC,rD,reduceIte,unP,rE,g0,g7,g8,g9,kk,kM,hm,Option.map_some,Option.getD_some,Option.getD_none,b2,b0]);exact fun j hj=>by simp(disch:=omega)only[NaB,NaJ];exact ko j hj
       ·have b0:(Int.ofNat 1==Int.ofNat 0)=false:=rfl;rw[if_neg (fun h=>h0 h.2)];rw[if_pos (by simpa using h0)]at hm;(try rw[Z0]);(try simp(disch:=first|omega|rfl|assumption)only[↓Yaa,Yab,Nae,Naa,rA,rB,rC,rD,reduceIte,unP,rE,g0,g7,g8,g9,kk,kM,hm,Option.map_some,Option.getD_some,Option.getD_none,b2,b0,hx]);refine Ncc (ih e.L e.z _ Zaa Zaa Zad Zad ((kL _ _ _ kp hlt).trans hk) ((kL _ _ _ M hlm).trans hM)) ?_;rintro r4 ⟨sto6,c6⟩ ⟨rfl,kp6,hc6⟩;simp only at hc6;(try rw[Z0]);(try simp(disch:=first|omega|rfl|assumption)only[↓Yaa,Yab,Nae,Naa,rA,rB,rC,rD,reduceIte,unP,rE,g0,g7,g8,g9]);exact fun j hj=>(kp6 j Zad).trans (kL _ _ _ j hj)
      ·have b2:((k:Int)==Int.ofNat 2)=false:=(by simp;omega);rw[if_neg (fun h=>h2 h.1)];(try rw[Z0]);(try simp(disch:=first|omega|rfl|assumption)only[↓Yaa,Yab,Nae,Naa,rA,rB,rC,rD,reduceIte,unP,rE,g0,g7,g8,g9,kk,kM,b2,hx]);refine Ncc (ih e.L e.z _ Zaa Zaa Zad Zad ((kL _ _ _ kp hlt).trans hk) ((kL _ _ _ M hlm).trans hM)) ?_;rintro r4 ⟨sto6,c6⟩ ⟨rfl,kp6,hc6⟩;simp only at hc6;(try rw[Z0]);(try simp(disch:=first|omega|rfl|assumption)only[↓Yaa,Yab,Nae,Naa,rA,rB,rC,rD,reduceIte,unP,rE,g0,g7,g8,g9]);exact fun j hj=>(kp6 j Zad).trans (kL _ _ _ j hj)
     clear g0 g7 g8 g9 ko kk kM;rintro⟨env,⟨sto,c3⟩⟩ ⟨g0,g7,g8,g9,g32,hc3,ko⟩;simp only at g0 g7 g8 g9 g32 hc3;cases ht:e.told (Nbv · ls)with
     |true =>
       rw[ht]at hob g32
       iterate 3
        (try rw[Z0]);(try simp(disch:=first|omega|rfl|assumption)only[↓Yaa,Yab,Nae,Naa,rA,rB,rC,rD,reduceIte,unP,rE,g0,g7,g8,g9,g32,Bool.not_true])
       exact⟨l.length - (i+1),by omega,i+1,rfl,by omega,by rw[←hob,Bool.true_and],(Nan hil).symm,rfl,ko⟩
     |false =>
       rw[ht]at hob g32
       iterate 3
        (try rw[Z0]);(try simp(disch:=first|omega|rfl|assumption)only[↓Yaa,Yab,Nae,Naa,rA,rB,rC,rD,reduceIte,unP,rE,g0,g7,g8,g9,g32,Bool.not_false])
       exact⟨nofun,_,rfl,by simp only[Yad,if_true,NaF];rw[←hob,Bool.false_and],ko⟩
    ·have h0:l.drop i=[]:=List.drop_of_length_le Zaa;rw[h0,Exs.told]at hob
     iterate 4
      (try rw[Z0]);(try simp(disch:=first|omega|rfl|assumption)only[↓Yaa,Yab,Nae,Naa,rA,rB,rC,rD,reduceIte,unP,rE,g0,g7,g8,g9])
     exact⟨nofun,_,rfl,by simp only[Yad,if_true,NaF];rw[←hob],fun j hj=>ko j hj⟩
   ·exact⟨0,rfl,by omega,by rw[List.drop_zero],by simp[Yad],by simp[Yad],by simp[Yad],by simp[Yad],by simp only;omega,fun j hj=>rfl⟩
end Go.Pe
