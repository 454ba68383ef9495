/-
 CheckTells: the kit's SameStmts of a copy: walked. No condition.
-/
import Derived.Test.YtjnofhibldppoaaGreatZTelB
import Derived.Test.YtjnofhibldppoaaGreatZCpyC
set_option linter.unusedVariables false
set_option linter.unusedSimpArgs false
set_option maxHeartbeats 8000000
open Nat renaming reduceAdd → rB,reduceMul → rC,reduceLT → rD,reduceEqDiff → rE,reduceLeDiff → rF
namespace Go.Pe
open Go Go.Am Go.RowKit
theorem Niv{st:St}{l:List Ex}{i:Nat}(h:i<l.length) :
 NaY st 1 (.fptr ((Exs.cs l).drop (i * 4)))=some [.i .u8 (l[i].K.toNat:Int)]∧NaY st 1 (.fptr (((Exs.cs l).drop (i * 4)).drop 1))=some [.s l[i].S]∧NaY st 1 (.fptr (((Exs.cs l).drop (i * 4)).drop 2))=some [.i .i64 l[i].N]∧NaY st 1 (.fptr (((Exs.cs l).drop (i * 4)).drop 3))=some [slV l[i].z l[i].L.length (Exs.cs l[i].L)]:=by
 have hd:(Exs.cs l).drop (i * 4)=l[i].cs++(Exs.cs l).drop ((i+1) * 4):=by rw[Exs.flat];exact Nbj Ex.cs_len h
 rw[hd,Ex.cs_eq];exact⟨rfl,rfl,rfl,rfl⟩
theorem Exs.cp_get:∀ (l:List Ex) (i:Nat) (h:i<l.length),(Exs.cp l)[i]'(by rw[Exs.cp_len];exact h)=l[i].cp
 |e::r,0,_=>by simp only[Exs.cp];rfl
 |e::r,i+1,h=>by
   simp only[Exs.cp,List.getElem_cons_succ];exact Exs.cp_get r i (by simpa using h)
theorem Sms.cp_get:∀ (l:List Sm) (i:Nat) (h:i<l.length),(Sms.cp l)[i]'(by rw[Sms.cp_len];exact h)=l[i].cp
 |e::r,0,_=>by simp only[Sms.cp];rfl
 |e::r,i+1,h=>by
   simp only[Sms.cp,List.getElem_cons_succ];exact Sms.cp_get r i (by simpa using h)
theorem Ex.cp_K(e:Ex):e.cp.K=e.K:=by cases e;rw[Ex.cp];rfl
theorem Ex.cp_S(e:Ex):e.cp.S=e.S:=by cases e;rw[Ex.cp];rfl
theorem Ex.cp_N(e:Ex):e.cp.N=e.N:=by cases e;rw[Ex.cp];rfl
theorem Ex.cp_z(e:Ex):e.cp.z=true:=by cases e;rw[Ex.cp];rfl
theorem Ex.cp_L(e:Ex):e.cp.L=Exs.cp e.L:=by cases e;rw[Ex.cp];rfl
theorem NiG{z1 z2:Bool}{m1 m2:Nat}{c1 c2:List PV}:NaH [slV z1 m1 c1,slV z2 m2 c2]=([slV z1 m1 c1,slV z2 m2 c2],{ sto:=.leaf,cnt:=1 }):=by
 unfold slV;split<;>split<;>rfl
set_option pp.deepTerms false
set_option pp.deepTerms.threshold 7
theorem NmQ{cfg:Cfg}(hf:cfg.fn 37=some m37)(hx:cfg.ext 37=none):∀ (fuel:Nat) (l:List Ex) (za zb:Bool) (st:St),Exs.size l+2≤fuel→Exs.size l<1000000000000000 →
 ∃ r st',NaC cfg (fuel+1) 37 [slV za (Exs.cp l).length (Exs.cs (Exs.cp l)),slV zb l.length (Exs.cs l)] st=some (r,st')∧r=.b true:=by
 intro fuel
 induction fuel with
 |zero=>intro l za zb st h;omega
 |succ q ih =>
   intro l za zb st hfu hn;refine NaA hf ?_;delta m37 Qa Qr Qf Ql Qt Qs Qk Qm Qh Qi Qv Qo;have hlc:=Exs.cp_len l;rw[hlc];have hla:=NaD za l.length (Exs.cs (Exs.cp l));have hlb:=NaD zb l.length (Exs.cs l);have hza:=Exs.len (Exs.cp l);rw[hlc]at hza;have hzb:=Exs.len l;have hlle:=Exs.len_le l;have bn:((l.length:Int) != (l.length:Int))=false:=(by simp);obtain⟨sto0,c0⟩:=st;simp only[Nai]
   iterate 5
    (try rw[Z0]);(try simp(maxSteps:=9^7)(disch:=first|omega|rfl|assumption)only[↓Yaa,Yab,Nae,Naa,rB,rC,rD,rE,reduceIte,unP,rF,hla,hlb,bn])
   refine Z9 (k:=l.length - 0) (fun m x=>∃ (i:Nat),m=l.length - i∧x.env.get 0=slV za l.length (Exs.cs (Exs.cp l))∧x.env.get 1=slV zb l.length (Exs.cs l)∧x.env.get 5=.i .i64 (i:Int)∧(i≤l.length)) ?_ ?_ Zaa
   ·skip
    rintro m ⟨env,⟨sto,c⟩⟩ ⟨i,rfl,g0,g1,g5,hi⟩;try simp only at g0 g1 g5
    by_cases hil:i<l.length
    ·rw[Nan hil]at g0 g1;have hla':NdI (.fsl l.length (Exs.cs (Exs.cp l)))=some (.i .i64 (l.length:Int)):=rfl;obtain⟨e,he⟩:∃ e,l[i]=e:=⟨_,rfl⟩;have hA:=fun st=>Niv (st:=st) (l:=Exs.cp l) (i:=i) (by rw[hlc];exact hil);simp only[Exs.cp_get l i hil,he,Ex.cp_K,Ex.cp_S,Ex.cp_N,Ex.cp_z,Ex.cp_L]at hA;have hB:=fun st=>Niv (st:=st) hil;simp only[he]at hB;have a0:=fun st=>(hA st).1;have a1:=fun st=>(hA st).2.1;have a2:=fun st=>(hA st).2.2.1;have a3:=fun st=>(hA st).2.2.2;have b0:=fun st=>(hB st).1;have b1:=fun st=>(hB st).2.1;have b2:=fun st=>(hB st).2.2.1;have b3:=fun st=>(hB st).2.2.2;have n0:((e.K.toNat:Int) != (e.K.toNat:Int))=false:=(by simp);have n1:(e.S != e.S)=false:=(by simp);have n2:(e.N != e.N)=false:=(by simp);have hel:e.size≤Exs.size l:=Exs.size_mem (he▸List.getElem_mem hil);have hes:=Ex.size_eq e;have gE:Naj cfg (NaC cfg (q+1)) 37 [slV true (Exs.cp e.L).length (Exs.cs (Exs.cp e.L)),slV e.z e.L.length (Exs.cs e.L)]=some (.b true) :=
      Naq hx NiG (fun _=>rfl) (ih e.L true e.z { sto:=.leaf,cnt:=1 } Zaa Zaa)
     iterate 2
      (try rw[Z0]);(try simp(maxSteps:=9^7)(disch:=first|omega|rfl|assumption)only[↓Yaa,Yab,Nae,Naa,rB,rC,rD,rE,reduceIte,unP,rF,g0,g1,g5,hla'])
     refine Nbn fun K9 hK9=>?_;(try rw[Z0]);(try simp(maxSteps:=9^7)(disch:=first|omega|rfl|assumption)only[↓Yaa,Yab,Nae,Naa,rB,rC,rD,rE,reduceIte,unP,rF,g0,g1,g5]);rw[Z0,Z1];obtain⟨c1,hc1⟩:∃ c1,c+32=c1:=⟨_,rfl⟩;rw[hc1];refine Ncr 12 (fun d=>d.env.get 0=.fsl l.length (Exs.cs (Exs.cp l))∧d.env.get 1=.fsl l.length (Exs.cs l)∧d.env.get 5=.i .i64 (i:Int)∧d.loc.get 28=.b false) Zaf ?_ ?_
     ·intro K hK;simp(disch:=first|omega|rfl|assumption)only[↓Yaa,Yac,Nae,Naa,rB,rC,rD,rE,reduceIte,unP,Xm,rF,List.take_succ_cons,List.take_zero,g0,g1,g5,hza,hzb,a0,b0,bne_self_eq_false];exact hK _ ⟨by simp[Yad,g0],by simp[Yad,g1],by simp[Yad,g5],by simp[Yad]⟩
     clear g0 g1 g5 hc1;rintro⟨env,loc,⟨sto,c⟩⟩ ⟨g0,g1,g5,q28⟩;simp only at g0 g1 g5 q28;refine Ncr 13 (fun d=>d.env.get 0=.fsl l.length (Exs.cs (Exs.cp l))∧d.env.get 1=.fsl l.length (Exs.cs l)∧d.env.get 5=.i .i64 (i:Int)∧d.loc.get 41=.b false) Zaf ?_ ?_
     ·intro K hK;simp(disch:=first|omega|rfl|assumption)only[↓Yaa,Yac,Nae,Naa,rB,rC,rD,rE,reduceIte,unP,Xm,rF,List.drop_succ_cons,List.drop_zero,List.take_succ_cons,List.take_zero,g0,g1,g5,q28,hza,hzb,a1,b1,bne_self_eq_false];exact hK _ ⟨by simp[Yad,g0],by simp[Yad,g1],by simp[Yad,g5],by simp[Yad]⟩
     clear g0 g1 g5 q28;rintro⟨env,loc,⟨sto,c⟩⟩ ⟨g0,g1,g5,q41⟩;simp only at g0 g1 g5 q41;refine Ncr 13 (fun d=>d.env.get 0=.fsl l.length (Exs.cs (Exs.cp l))∧d.env.get 1=.fsl l.length (Exs.cs l)∧d.env.get 5=.i .i64 (i:Int)∧d.loc.get 54=.b false) Zaf ?_ ?_
     ·intro K hK;simp(disch:=first|omega|rfl|assumption)only[↓Yaa,Yac,Nae,Naa,rB,rC,rD,rE,reduceIte,unP,Xm,rF,List.drop_succ_cons,List.drop_zero,List.take_succ_cons,List.take_zero,g0,g1,g5,q41,hza,hzb,a2,b2,bne_self_eq_false];exact hK _ ⟨by simp[Yad,g0],by simp[Yad,g1],by simp[Yad,g5],by simp[Yad]⟩
     clear g0 g1 g5 q41;rintro⟨env,loc,⟨sto,c⟩⟩ ⟨g0,g1,g5,q54⟩;simp only at g0 g1 g5 q54;simp(disch:=first|omega|rfl|assumption)only[↓Yaa,Yac,Nae,Naa,rB,rC,rD,rE,reduceIte,unP,Xm,rF,List.drop_succ_cons,List.drop_zero,g0,g1,g5,q54,hza,hzb,a3,b3];refine NaS (Na8 Zam) gE rfl rfl ?_;simp(disch:=first|omega|rfl|assumption)only[↓Yaa,Yac,Nae,Naa,rB,rC,rD,rE,reduceIte,unP,Xm,rF,Bool.not_true,g0,g1,g5];refine hK9 _ ?_
     iterate 2
      (try rw[Z0]);(try simp(maxSteps:=9^7)(disch:=first|omega|rfl|assumption)only[↓Yaa,Yab,Nae,Naa,rB,rC,rD,rE,reduceIte,unP,rF,g0,g1,g5])
     exact⟨l.length - (i+1),by omega,i+1,rfl,(Nan hil).symm,(Nan hil).symm,rfl,by omega⟩
    ·skip
     iterate 6
      (try rw[Z0]);(try simp(maxSteps:=9^7)(disch:=first|omega|rfl|assumption)only[↓Yaa,Yab,Nae,Naa,rB,rC,rD,rE,reduceIte,unP,rF,g0,g1,g5,hla])
     exact⟨nofun,_,rfl,by simp only[Nay,Yad,if_true]⟩
   ·skip
    exact⟨0,rfl,Zac,Zac,Zac,Zad⟩
end Go.Pe
set_option maxHeartbeats 8000000
namespace Go.Pe
open Go Go.Am Go.RowKit
theorem Sm.cp_K(e:Sm):e.cp.K=e.K:=by cases e;rw[Sm.cp];rfl
theorem Sm.cp_O(e:Sm):e.cp.O=e.O:=by cases e;rw[Sm.cp];rfl
theorem Sm.cp_J(e:Sm):e.cp.J=e.J:=by cases e;rw[Sm.cp];rfl
theorem Sm.cp_I(e:Sm):e.cp.I=e.I:=by cases e;rw[Sm.cp];rfl
theorem Sm.cp_N(e:Sm):e.cp.N=e.N:=by cases e;rw[Sm.cp];rfl
theorem Sm.cp_A(e:Sm):e.cp.A=Exs.cp e.A:=by cases e;rw[Sm.cp];rfl
theorem Sm.cp_B(e:Sm):e.cp.B=Sms.cp e.B:=by cases e;rw[Sm.cp];rfl
theorem Sm.cp_E(e:Sm):e.cp.E=Sms.cp e.E:=by cases e;rw[Sm.cp];rfl
theorem Sm.cp_R(e:Sm):e.cp.R=e.R:=by cases e;rw[Sm.cp];rfl
theorem Sm.cp_za(e:Sm):e.cp.za=true:=by cases e;rw[Sm.cp];rfl
theorem Sm.cp_zb(e:Sm):e.cp.zb=true:=by cases e;rw[Sm.cp];rfl
theorem Sm.cp_ze(e:Sm):e.cp.ze=true:=by cases e;rw[Sm.cp];rfl
theorem NmT{n:Nat}{v:PV}(h:v.flat=true):PV.same (n+1) v v=true:=by
 by_cases hf:∃ m cs,v=.fsl m cs
 ·obtain⟨m,cs,rfl⟩:=hf;show(m==m&&PV.smL cs cs)=true;simp[PV.smL_rfl]
 ·exact PV.same_flat h (fun m cs e=>hf ⟨m,cs,e⟩)
theorem Ngp{n:Nat}:∀ {cs:List PV},cs.all PV.flat=true→((cs.zip cs).all fun p=>PV.same (n+1) p.1 p.2)=true
 |[],_=>rfl
 |a::r,h=>by
   rw[List.all_cons,Bool.and_eq_true]at h;simp only[List.zip_cons_cons,List.all_cons,NmT h.1,Ngp h.2,Bool.and_self]
theorem NhW{cs:List PV}(h:cs.all PV.flat=true):PV.same Nb4 (.fptr cs) (.fptr cs)=true:=by
 show(cs.length==cs.length&&_)=true;rw[Ngp (n:=38) h];simp
theorem NhV{cs:List PV}(h:cs.all PV.flat=true):PV.same Nb4 (.agg cs) (.agg cs)=true:=by
 show(cs.length==cs.length&&_)=true;rw[Ngp (n:=38) h];simp
theorem NeP{cs:List PV}(k:Nat)(h:cs.all PV.flat=true):(cs.drop k).all PV.flat=true:=by
 rw[List.all_eq_true]at h ⊢;exact fun p hp=>h p (List.mem_of_mem_drop hp)
theorem Nfc{z1 z2 b:Bool}{m1 m2:Nat}{c1 c2:List PV}:NaH [slV z1 m1 c1,slV z2 m2 c2,.b b]=([slV z1 m1 c1,slV z2 m2 c2,.b b],{ sto:=.leaf,cnt:=1 }):=by
 unfold slV;split<;>split<;>rfl
theorem NdR:Top { sto:=.leaf,cnt:=1 }:=fun k _=>rfl
set_option pp.deepTerms false
set_option pp.deepTerms.threshold 6
theorem NmS{P:Program}{Gl:Gmap}{cfg:Cfg}(hok:CfgOK P Gl cfg)(hf:cfg.fn 22=some m22)(hfe:cfg.fn 37=some m37)(hx:cfg.ext 22=none)(hxe:cfg.ext 37=none):∀ (fuel:Nat) (l:List Sm) (za zb:Bool) (st:St),Sms.size l+3≤fuel→Sms.size l<1000000000000000→Top st →
 ∃ r st',NaC cfg (fuel+1) 22 [slV za (Sms.cp l).length (Sms.cs (Sms.cp l)),slV zb l.length (Sms.cs l),.b true] st=some (r,st')∧r=.b true:=by
 intro fuel
 induction fuel with
 |zero=>intro l za zb st h;omega
 |succ q ih =>
   intro l za zb st hfu hn ht;refine NaA hf ?_;delta m22 Qa Qr Qg Ql Qt Qn Qs Qk Qm Qh Qi Qu Qv Qo;have hlc:=Sms.cp_len l;rw[hlc];have hla:=NaD za l.length (Sms.cs (Sms.cp l));have hlb:=NaD zb l.length (Sms.cs l);have hza:=Sms.len (Sms.cp l);rw[hlc]at hza;have hzb:=Sms.len l;have hlle:=Sms.len_le l;obtain⟨sto0,c0⟩:=st;simp only[Nai]
   iterate 5
    (try rw[Z0]);(try simp(maxSteps:=9^7)(disch:=first|omega|rfl|assumption)only[↓Yaa,Yab,Nae,Naa,rB,rC,rD,rE,reduceIte,unP,rF,hla,hlb,bne_self_eq_false])
   refine Z9 (k:=l.length - 0) (fun m x=>∃ (i:Nat),m=l.length - i∧x.env.get 0=slV za l.length (Sms.cs (Sms.cp l))∧x.env.get 1=slV zb l.length (Sms.cs l)∧x.env.get 2=.b true∧x.env.get 7=.i .i64 (i:Int)∧(i≤l.length)∧(Top x.st)) ?_ ?_ Zaa
   ·skip
    rintro m ⟨env,⟨sto,c⟩⟩ ⟨i,rfl,g0,g1,g2,g7,hi,ht⟩;try simp only at g0 g1 g2 g7 ht
    by_cases hil:i<l.length
    ·rw[Nan hil]at g0 g1;have hla':NdI (.fsl l.length (Sms.cs (Sms.cp l)))=some (.i .i64 (l.length:Int)):=rfl;obtain⟨e,he⟩:∃ e,l[i]=e:=⟨_,rfl⟩;have hA:=fun st=>NcL (st:=st) (l:=Sms.cp l) (i:=i) (by rw[hlc];exact hil);simp only[Sms.cp_get l i hil,he,Sm.cp_K,Sm.cp_O,Sm.cp_J,Sm.cp_I,Sm.cp_N,Sm.cp_A,Sm.cp_B,Sm.cp_E,Sm.cp_R,Sm.cp_za,Sm.cp_zb,Sm.cp_ze]at hA;have hB:=fun st=>NcL (st:=st) hil;simp only[he]at hB;have hel:e.size≤Sms.size l:=Sms.size_mem (he▸List.getElem_mem hil);have hes:=Sm.size_eq e;have gA:Naj cfg (NaC cfg (q+1)) 37 [slV true (Exs.cp e.A).length (Exs.cs (Exs.cp e.A)),slV e.za e.A.length (Exs.cs e.A)]=some (.b true) :=
      Naq hxe NiG (fun _=>rfl) (NmQ hfe hxe q e.A true e.za { sto:=.leaf,cnt:=1 } Zaa Zaa)
     have gB:Naj cfg (NaC cfg (q+1)) 22 [slV true (Sms.cp e.B).length (Sms.cs (Sms.cp e.B)),slV e.zb e.B.length (Sms.cs e.B),.b true]=some (.b true) :=
      Naq hx Nfc (fun _=>rfl) (ih e.B true e.zb { sto:=.leaf,cnt:=1 } Zaa Zaa NdR)
     have gE:Naj cfg (NaC cfg (q+1)) 22 [slV true (Sms.cp e.E).length (Sms.cs (Sms.cp e.E)),slV e.ze e.E.length (Sms.cs e.E),.b true]=some (.b true) :=
      Naq hx Nfc (fun _=>rfl) (ih e.E true e.ze { sto:=.leaf,cnt:=1 } Zaa Zaa NdR)
     iterate 2
      (try rw[Z0]);(try simp(maxSteps:=9^7)(disch:=first|omega|rfl|assumption)only[↓Yaa,Yab,Nae,Naa,rB,rC,rD,rE,reduceIte,unP,rF,g0,g1,g2,g7,hla'])
     refine Nbn fun K9 hK9=>?_;(try rw[Z0]);(try simp(maxSteps:=9^7)(disch:=first|omega|rfl|assumption)only[↓Yaa,Yab,Nae,Naa,rB,rC,rD,rE,reduceIte,unP,rF,g0,g1,g2,g7]);have ht':Top ⟨sto,c+32⟩:=ht.le Zaa;refine Ngy hok ht' ?_;refine Nbn fun K8 hK8=>?_;obtain⟨c1,hc1⟩:∃ c1,c+32=c1:=⟨_,rfl⟩;rw[hc1]at ht' ⊢;refine NdC (Nb8 hok _) (NcH hok _).2 [c1+64,c1+72] Zao (ns:=[false,false,false,false,true,true,true,true,false,false,false,false]) Zao ht' ?_;have kn:∀ d,d≠64→d≠72→c1+d∉[c1+64,c1+72]:=fun d a b h=>by
      simp only[List.mem_cons,List.not_mem_nil,or_false]at h;omega
     have hnn:∀ d n',St.get ⟨sto,n'⟩ (c1+d)=none:=fun d _=>ht' (c1+d) Zae;(first|rw[Nav]|rw[Nao]);(try simp(maxSteps:=9^7)(disch:=first|omega|rfl|assumption)only[↓Yaa,Yac,Nae,Naa,rB,rC,rD,rE,reduceIte,unP,Xl,rF,NaK,NaF,NaE,Nar,Nap,Nas,Nau,g0,g1,g7,hza,hzb,hA,hB]);(first|rw[Nav]|rw[Nao]);(try simp(maxSteps:=9^7)(disch:=first|omega|rfl|assumption)only[↓Yaa,Yac,Nae,Naa,rB,rC,rD,rE,reduceIte,unP,Xl,rF,NaK,NaF,NaE,Nar,Nap,Nas,Nau,g0,g1,g7,hza,hzb,hA,hB]);(first|rw[Nav]|rw[Nao]);(try simp(maxSteps:=9^7)(disch:=first|omega|rfl|assumption)only[↓Yaa,Yac,Nae,Naa,rB,rC,rD,rE,reduceIte,unP,Xl,rF,NaK,NaF,NaE,Nar,Nap,Nas,Nau,g0,g1,g7,hza,hzb,hA,hB]);(first|rw[Nav]|rw[Nao]);(try simp(maxSteps:=9^7)(disch:=first|omega|rfl|assumption)only[↓Yaa,Yac,Nae,Naa,rB,rC,rD,rE,reduceIte,unP,Xl,rF,NaK,NaF,NaE,Nar,Nap,Nas,Nau,g0,g1,g7,hza,hzb,hA,hB]);(first|rw[Nav]|rw[Nao]);(try simp(maxSteps:=9^7)(disch:=first|omega|rfl|assumption)only[↓Yaa,Yac,Nae,Naa,rB,rC,rD,rE,reduceIte,unP,Xl,rF,NaK,NaF,NaE,Nar,Nap,Nas,Nau,g0,g1,g7,hza,hzb,hA,hB]);(first|rw[Nav]|rw[Nao]);(try simp(maxSteps:=9^7)(disch:=first|omega|rfl|assumption)only[↓Yaa,Yac,Nae,Naa,rB,rC,rD,rE,reduceIte,unP,Xl,rF,NaK,NaF,NaE,Nar,Nap,Nas,Nau,g0,g1,g7,hza,hzb,hA,hB]);(first|rw[Nav]|rw[Nao]);(try simp(maxSteps:=9^7)(disch:=first|omega|rfl|assumption)only[↓Yaa,Yac,Nae,Naa,rB,rC,rD,rE,reduceIte,unP,Xl,rF,NaK,NaF,NaE,Nar,Nap,Nas,Nau,g0,g1,g7,hza,hzb,hA,hB]);(first|rw[Nav]|rw[Nao]);(try simp(maxSteps:=9^7)(disch:=first|omega|rfl|assumption)only[↓Yaa,Yac,Nae,Naa,rB,rC,rD,rE,reduceIte,unP,Xl,rF,NaK,NaF,NaE,Nar,Nap,Nas,Nau,g0,g1,g7,hza,hzb,hA,hB]);refine⟨Nb3 (kn 0 Zaa Zaa),NaN rfl,Nb3 (kn 8 Zaa Zaa),NaN rfl,Nb3 (kn 16 Zaa Zaa),NaN rfl,⟨kn 24 Zaa Zaa,nofun⟩,NaN rfl,by rw[NaE _ _ _ _ _ _ _ rfl rfl];exact kn 32 Zaa Zaa,Nbo rfl (NeF _ _) (hnn 32 _),by rw[NaE _ _ _ _ _ _ _ rfl rfl];exact kn 40 Zaa Zaa,Nbo rfl (NhX _ _) (hnn 40 _),by rw[NaE _ _ _ _ _ _ _ rfl rfl];exact kn 48 Zaa Zaa,Nbo rfl (NhW (NeP _ (Nk5 l))) (hnn 48 _),⟨kn 56 Zaa Zaa,fun _ k o h=>by cases h⟩,Nbo rfl (NhV (by simp only[List.all_cons,List.all_nil,Nbd,Bool.and_true,Bool.true_and];rfl)) (hnn 56 _),?_⟩;(first|rw[Nav]|rw[Nao]);(try simp(maxSteps:=9^7)(disch:=first|omega|rfl|assumption)only[↓Yaa,Yac,Nae,Naa,rB,rC,rD,rE,reduceIte,unP,Xl,rF,NaK,NaF,NaE,Nar,Nap,Nas,Nau]);(first|rw[Nav]|rw[Nao]);(try simp(maxSteps:=9^7)(disch:=first|omega|rfl|assumption)only[↓Yaa,Yac,Nae,Naa,rB,rC,rD,rE,reduceIte,unP,Xl,rF,NaK,NaF,NaE,Nar,Nap,Nas,Nau]);refine⟨fun _=>⟨fun h=>by simp[Ncz,Nem]at h,nofun⟩,NaN rfl,fun _=>⟨fun h=>by simp[Ncz,Nem]at h,nofun⟩,NaN rfl,?_⟩;(first|rw[Nav]|rw[Nao]);(try simp(maxSteps:=9^7)(disch:=first|omega|rfl|assumption)only[↓Yaa,Yac,Nae,Naa,rB,rC,rD,rE,reduceIte,unP,Xl,rF,NaK,NaF,NaE,Nar,Nap,Nas,Nau,Nag,Naf,NaP,NaV,Yaf]);(first|rw[Nav]|rw[Nao]);(try simp(maxSteps:=9^7)(disch:=first|omega|rfl|assumption)only[↓Yaa,Yac,Nae,Naa,rB,rC,rD,rE,reduceIte,unP,Xl,rF,NaK,NaF,NaE,Nar,Nap,Nas,Nau,Nag,Naf,NaP,NaV,Yaf]);refine⟨by rw[NaF _ _ _ _ _ _ _ rfl];trivial,by rw[Nap _ _ _ _ _ _ _ rfl];exact fun q a b=>Yae (fun e=>b (by rw[←e];simp)),by rw[NaF _ _ _ _ _ _ _ rfl];trivial,by rw[Nap _ _ _ _ _ _ _ rfl];exact fun q a b=>Yae (fun e=>b (by rw[←e];simp)),?_⟩;rw[NfS];refine hK8 _ ?_;refine NaL (fun x=>∃ (B1:Nat) (B2:Nat),B1<x.st.cnt∧(B1<B2)∧B2<x.st.cnt∧x.env.get 0=.fsl l.length (Sms.cs (Sms.cp l))∧x.env.get 1=.fsl l.length (Sms.cs l)∧x.env.get 2=.b true∧x.env.get 7=.i .i64 (i:Int)∧x.env.get 8=.ptr B1 0∧x.env.get 9=.ptr B2 0∧x.st.get B1=some (.cells [.i .u8 (e.K.toNat:Int),.i .u8 (e.O.toNat:Int),.s e.J,.s e.I,.i .i64 e.N,slV true (Exs.cp e.A).length (Exs.cs (Exs.cp e.A)),slV true (Sms.cp e.B).length (Sms.cs (Sms.cp e.B)),slV true (Sms.cp e.E).length (Sms.cs (Sms.cp e.E)),.i .i64 e.R] false)∧x.st.get B2=some (.cells [.i .u8 (e.K.toNat:Int),.i .u8 (e.O.toNat:Int),.s e.J,.s e.I,.i .i64 e.N,slV e.za e.A.length (Exs.cs e.A),slV e.zb e.B.length (Sms.cs e.B),slV e.ze e.E.length (Sms.cs e.E),.i .i64 e.R] false)) ?_ ?_
     ·refine⟨c1+64,c1+72,Zab,Zad,Zab,?_,?_,?_,?_,?_,?_,(by show St.get (St.put _ _ _) _=_;rw[Yae (by omega)];exact Yaf _ _ _),(by exact Yaf _ _ _)⟩<;>first|with_reducible rfl|with_reducible assumption|(simp[Yad,g0,g1,g2,g7]<;>omega)
     clear g0 g1 g2 g7 ht;rintro⟨env,⟨sto,c⟩⟩ ⟨B1,B2,bB1,oB2,bB2,g0,g1,g2,g7,g8,g9,kB1,kB2⟩;try simp only at bB1 bB2 g0 g1 g2 g7 g8 g9
     replace kB1:∀ n',St.get ⟨sto,n'⟩ B1=some (.cells [.i .u8 (e.K.toNat:Int),.i .u8 (e.O.toNat:Int),.s e.J,.s e.I,.i .i64 e.N,slV true (Exs.cp e.A).length (Exs.cs (Exs.cp e.A)),slV true (Sms.cp e.B).length (Sms.cs (Sms.cp e.B)),slV true (Sms.cp e.E).length (Sms.cs (Sms.cp e.E)),.i .i64 e.R] false):=fun _=>kB1;replace kB2:∀ n',St.get ⟨sto,n'⟩ B2=some (.cells [.i .u8 (e.K.toNat:Int),.i .u8 (e.O.toNat:Int),.s e.J,.s e.I,.i .i64 e.N,slV e.za e.A.length (Exs.cs e.A),slV e.zb e.B.length (Sms.cs e.B),slV e.ze e.E.length (Sms.cs e.E),.i .i64 e.R] false):=fun _=>kB2;have gA':=fun st key=>Nal (st:=st) (key:=key) Zam gA rfl;have gB':=fun st key=>Nal (st:=st) (key:=key) (by simp only[List.all_cons,List.all_nil,Nbd,Bool.and_true,Bool.true_and];rfl) gB rfl;have gE':=fun st key=>Nal (st:=st) (key:=key) (by simp only[List.all_cons,List.all_nil,Nbd,Bool.and_true,Bool.true_and];rfl) gE rfl;rw[Z0,Z1];refine Ncr 13 (fun d=>d.env.get 0=.fsl l.length (Sms.cs (Sms.cp l))∧d.env.get 1=.fsl l.length (Sms.cs l)∧d.env.get 2=.b true∧d.env.get 7=.i .i64 (i:Int)∧d.env.get 8=.ptr B1 0∧d.env.get 9=.ptr B2 0∧d.st.get B1=some (.cells [.i .u8 (e.K.toNat:Int),.i .u8 (e.O.toNat:Int),.s e.J,.s e.I,.i .i64 e.N,slV true (Exs.cp e.A).length (Exs.cs (Exs.cp e.A)),slV true (Sms.cp e.B).length (Sms.cs (Sms.cp e.B)),slV true (Sms.cp e.E).length (Sms.cs (Sms.cp e.E)),.i .i64 e.R] false)∧d.st.get B2=some (.cells [.i .u8 (e.K.toNat:Int),.i .u8 (e.O.toNat:Int),.s e.J,.s e.I,.i .i64 e.N,slV e.za e.A.length (Exs.cs e.A),slV e.zb e.B.length (Sms.cs e.B),slV e.ze e.E.length (Sms.cs e.E),.i .i64 e.R] false)∧d.loc.get 41=.b false) Zaf ?_ ?_
     ·intro K hK;simp(disch:=first|omega|rfl|assumption)only[↓Yaa,Yac,Nae,Naa,rB,rC,rD,rE,reduceIte,unP,Xm,rF,List.take_succ_cons,List.take_zero,g0,g1,g2,g7,g8,g9,kB1,kB2,bne_self_eq_false,gA',gB',gE',Bool.not_true];exact hK _ ⟨by simp[Yad,g0],by simp[Yad,g1],by simp[Yad,g2],by simp[Yad,g7],by simp[Yad,g8],by simp[Yad,g9],kB1 _,kB2 _,by simp[Yad]⟩
     clear g0 g1 g2 g7 g8 g9 bB1 bB2 kB1 kB2;rintro⟨env,loc,⟨sto,c⟩⟩ ⟨g0,g1,g2,g7,g8,g9,kB1,kB2,q41⟩;simp only at g0 g1 g2 g7 g8 g9 q41;replace kB1:∀ n',St.get ⟨sto,n'⟩ B1=_:=fun _=>kB1;replace kB2:∀ n',St.get ⟨sto,n'⟩ B2=_:=fun _=>kB2;refine Ncr 7 (fun d=>d.env.get 0=.fsl l.length (Sms.cs (Sms.cp l))∧d.env.get 1=.fsl l.length (Sms.cs l)∧d.env.get 2=.b true∧d.env.get 7=.i .i64 (i:Int)∧d.env.get 8=.ptr B1 0∧d.env.get 9=.ptr B2 0∧d.st.get B1=some (.cells [.i .u8 (e.K.toNat:Int),.i .u8 (e.O.toNat:Int),.s e.J,.s e.I,.i .i64 e.N,slV true (Exs.cp e.A).length (Exs.cs (Exs.cp e.A)),slV true (Sms.cp e.B).length (Sms.cs (Sms.cp e.B)),slV true (Sms.cp e.E).length (Sms.cs (Sms.cp e.E)),.i .i64 e.R] false)∧d.st.get B2=some (.cells [.i .u8 (e.K.toNat:Int),.i .u8 (e.O.toNat:Int),.s e.J,.s e.I,.i .i64 e.N,slV e.za e.A.length (Exs.cs e.A),slV e.zb e.B.length (Sms.cs e.B),slV e.ze e.E.length (Sms.cs e.E),.i .i64 e.R] false)∧d.loc.get 48=.b false) Zaf ?_ ?_
     ·intro K hK;simp(disch:=first|omega|rfl|assumption)only[↓Yaa,Yac,Nae,Naa,rB,rC,rD,rE,reduceIte,unP,Xm,rF,List.drop_succ_cons,List.drop_zero,List.take_succ_cons,List.take_zero,g0,g1,g2,g7,g8,g9,q41,kB1,kB2,bne_self_eq_false,gA',gB',gE',Bool.not_true];exact hK _ ⟨by simp[Yad,g0],by simp[Yad,g1],by simp[Yad,g2],by simp[Yad,g7],by simp[Yad,g8],by simp[Yad,g9],kB1 _,kB2 _,by simp[Yad]⟩
     clear g0 g1 g2 g7 g8 g9 kB1 kB2 q41;rintro⟨env,loc,⟨sto,c⟩⟩ ⟨g0,g1,g2,g7,g8,g9,kB1,kB2,q48⟩;simp only at g0 g1 g2 g7 g8 g9 q48;replace kB1:∀ n',St.get ⟨sto,n'⟩ B1=_:=fun _=>kB1;replace kB2:∀ n',St.get ⟨sto,n'⟩ B2=_:=fun _=>kB2;refine Ncr 7 (fun d=>d.env.get 0=.fsl l.length (Sms.cs (Sms.cp l))∧d.env.get 1=.fsl l.length (Sms.cs l)∧d.env.get 2=.b true∧d.env.get 7=.i .i64 (i:Int)∧d.env.get 8=.ptr B1 0∧d.env.get 9=.ptr B2 0∧d.st.get B1=some (.cells [.i .u8 (e.K.toNat:Int),.i .u8 (e.O.toNat:Int),.s e.J,.s e.I,.i .i64 e.N,slV true (Exs.cp e.A).length (Exs.cs (Exs.cp e.A)),slV true (Sms.cp e.B).length (Sms.cs (Sms.cp e.B)),slV true (Sms.cp e.E).length (Sms.cs (Sms.cp e.E)),.i .i64 e.R] false)∧d.st.get B2=some (.cells [.i .u8 (e.K.toNat:Int),.i .u8 (e.O.toNat:Int),.s e.J,.s e.I,.i .i64 e.N,slV e.za e.A.length (Exs.cs e.A),slV e.zb e.B.length (Sms.cs e.B),slV e.ze e.E.length (Sms.cs e.E),.i .i64 e.R] false)∧d.loc.get 55=.b false) Zaf ?_ ?_
     ·intro K hK;simp(disch:=first|omega|rfl|assumption)only[↓Yaa,Yac,Nae,Naa,rB,rC,rD,rE,reduceIte,unP,Xm,rF,List.drop_succ_cons,List.drop_zero,List.take_succ_cons,List.take_zero,g0,g1,g2,g7,g8,g9,q48,kB1,kB2,bne_self_eq_false,gA',gB',gE',Bool.not_true];exact hK _ ⟨by simp[Yad,g0],by simp[Yad,g1],by simp[Yad,g2],by simp[Yad,g7],by simp[Yad,g8],by simp[Yad,g9],kB1 _,kB2 _,by simp[Yad]⟩
     clear g0 g1 g2 g7 g8 g9 kB1 kB2 q48;rintro⟨env,loc,⟨sto,c⟩⟩ ⟨g0,g1,g2,g7,g8,g9,kB1,kB2,q55⟩;simp only at g0 g1 g2 g7 g8 g9 q55;replace kB1:∀ n',St.get ⟨sto,n'⟩ B1=_:=fun _=>kB1;replace kB2:∀ n',St.get ⟨sto,n'⟩ B2=_:=fun _=>kB2;refine Ncr 7 (fun d=>d.env.get 0=.fsl l.length (Sms.cs (Sms.cp l))∧d.env.get 1=.fsl l.length (Sms.cs l)∧d.env.get 2=.b true∧d.env.get 7=.i .i64 (i:Int)∧d.env.get 8=.ptr B1 0∧d.env.get 9=.ptr B2 0∧d.st.get B1=some (.cells [.i .u8 (e.K.toNat:Int),.i .u8 (e.O.toNat:Int),.s e.J,.s e.I,.i .i64 e.N,slV true (Exs.cp e.A).length (Exs.cs (Exs.cp e.A)),slV true (Sms.cp e.B).length (Sms.cs (Sms.cp e.B)),slV true (Sms.cp e.E).length (Sms.cs (Sms.cp e.E)),.i .i64 e.R] false)∧d.st.get B2=some (.cells [.i .u8 (e.K.toNat:Int),.i .u8 (e.O.toNat:Int),.s e.J,.s e.I,.i .i64 e.N,slV e.za e.A.length (Exs.cs e.A),slV e.zb e.B.length (Sms.cs e.B),slV e.ze e.E.length (Sms.cs e.E),.i .i64 e.R] false)∧d.loc.get 62=.b false) Zaf ?_ ?_
     ·intro K hK;simp(disch:=first|omega|rfl|assumption)only[↓Yaa,Yac,Nae,Naa,rB,rC,rD,rE,reduceIte,unP,Xm,rF,List.drop_succ_cons,List.drop_zero,List.take_succ_cons,List.take_zero,g0,g1,g2,g7,g8,g9,q55,kB1,kB2,bne_self_eq_false,gA',gB',gE',Bool.not_true];exact hK _ ⟨by simp[Yad,g0],by simp[Yad,g1],by simp[Yad,g2],by simp[Yad,g7],by simp[Yad,g8],by simp[Yad,g9],kB1 _,kB2 _,by simp[Yad]⟩
     clear g0 g1 g2 g7 g8 g9 kB1 kB2 q55;rintro⟨env,loc,⟨sto,c⟩⟩ ⟨g0,g1,g2,g7,g8,g9,kB1,kB2,q62⟩;simp only at g0 g1 g2 g7 g8 g9 q62;replace kB1:∀ n',St.get ⟨sto,n'⟩ B1=_:=fun _=>kB1;replace kB2:∀ n',St.get ⟨sto,n'⟩ B2=_:=fun _=>kB2;refine Ncr 10 (fun d=>d.env.get 0=.fsl l.length (Sms.cs (Sms.cp l))∧d.env.get 1=.fsl l.length (Sms.cs l)∧d.env.get 2=.b true∧d.env.get 7=.i .i64 (i:Int)∧d.env.get 8=.ptr B1 0∧d.env.get 9=.ptr B2 0∧d.st.get B1=some (.cells [.i .u8 (e.K.toNat:Int),.i .u8 (e.O.toNat:Int),.s e.J,.s e.I,.i .i64 e.N,slV true (Exs.cp e.A).length (Exs.cs (Exs.cp e.A)),slV true (Sms.cp e.B).length (Sms.cs (Sms.cp e.B)),slV true (Sms.cp e.E).length (Sms.cs (Sms.cp e.E)),.i .i64 e.R] false)∧d.st.get B2=some (.cells [.i .u8 (e.K.toNat:Int),.i .u8 (e.O.toNat:Int),.s e.J,.s e.I,.i .i64 e.N,slV e.za e.A.length (Exs.cs e.A),slV e.zb e.B.length (Sms.cs e.B),slV e.ze e.E.length (Sms.cs e.E),.i .i64 e.R] false)∧d.loc.get 72=.b false) Zaf ?_ ?_
     ·intro K hK;simp(disch:=first|omega|rfl|assumption)only[↓Yaa,Yac,Nae,Naa,rB,rC,rD,rE,reduceIte,unP,Xm,rF,List.drop_succ_cons,List.drop_zero,List.take_succ_cons,List.take_zero,g0,g1,g2,g7,g8,g9,q62,kB1,kB2,bne_self_eq_false,gA',gB',gE',Bool.not_true];exact hK _ ⟨by simp[Yad,g0],by simp[Yad,g1],by simp[Yad,g2],by simp[Yad,g7],by simp[Yad,g8],by simp[Yad,g9],kB1 _,kB2 _,by simp[Yad]⟩
     clear g0 g1 g2 g7 g8 g9 kB1 kB2 q62;rintro⟨env,loc,⟨sto,c⟩⟩ ⟨g0,g1,g2,g7,g8,g9,kB1,kB2,q72⟩;simp only at g0 g1 g2 g7 g8 g9 q72;replace kB1:∀ n',St.get ⟨sto,n'⟩ B1=_:=fun _=>kB1;replace kB2:∀ n',St.get ⟨sto,n'⟩ B2=_:=fun _=>kB2;refine Ncr 8 (fun d=>d.env.get 0=.fsl l.length (Sms.cs (Sms.cp l))∧d.env.get 1=.fsl l.length (Sms.cs l)∧d.env.get 2=.b true∧d.env.get 7=.i .i64 (i:Int)∧d.env.get 8=.ptr B1 0∧d.env.get 9=.ptr B2 0∧d.st.get B1=some (.cells [.i .u8 (e.K.toNat:Int),.i .u8 (e.O.toNat:Int),.s e.J,.s e.I,.i .i64 e.N,slV true (Exs.cp e.A).length (Exs.cs (Exs.cp e.A)),slV true (Sms.cp e.B).length (Sms.cs (Sms.cp e.B)),slV true (Sms.cp e.E).length (Sms.cs (Sms.cp e.E)),.i .i64 e.R] false)∧d.st.get B2=some (.cells [.i .u8 (e.K.toNat:Int),.i .u8 (e.O.toNat:Int),.s e.J,.s e.I,.i .i64 e.N,slV e.za e.A.length (Exs.cs e.A),slV e.zb e.B.length (Sms.cs e.B),slV e.ze e.E.length (Sms.cs e.E),.i .i64 e.R] false)∧d.loc.get 80=.b false) Zaf ?_ ?_
     ·intro K hK;simp(disch:=first|omega|rfl|assumption)only[↓Yaa,Yac,Nae,Naa,rB,rC,rD,rE,reduceIte,unP,Xm,rF,List.drop_succ_cons,List.drop_zero,List.take_succ_cons,List.take_zero,g0,g1,g2,g7,g8,g9,q72,kB1,kB2,bne_self_eq_false,gA',gB',gE',Bool.not_true];exact hK _ ⟨by simp[Yad,g0],by simp[Yad,g1],by simp[Yad,g2],by simp[Yad,g7],by simp[Yad,g8],by simp[Yad,g9],kB1 _,kB2 _,by simp[Yad]⟩
     clear g0 g1 g2 g7 g8 g9 kB1 kB2 q72;rintro⟨env,loc,⟨sto,c⟩⟩ ⟨g0,g1,g2,g7,g8,g9,kB1,kB2,q80⟩;simp only at g0 g1 g2 g7 g8 g9 q80;replace kB1:∀ n',St.get ⟨sto,n'⟩ B1=_:=fun _=>kB1;replace kB2:∀ n',St.get ⟨sto,n'⟩ B2=_:=fun _=>kB2;refine Ncr 9 (fun d=>d.env.get 0=.fsl l.length (Sms.cs (Sms.cp l))∧d.env.get 1=.fsl l.length (Sms.cs l)∧d.env.get 2=.b true∧d.env.get 7=.i .i64 (i:Int)∧d.env.get 8=.ptr B1 0∧d.env.get 9=.ptr B2 0∧d.st.get B1=some (.cells [.i .u8 (e.K.toNat:Int),.i .u8 (e.O.toNat:Int),.s e.J,.s e.I,.i .i64 e.N,slV true (Exs.cp e.A).length (Exs.cs (Exs.cp e.A)),slV true (Sms.cp e.B).length (Sms.cs (Sms.cp e.B)),slV true (Sms.cp e.E).length (Sms.cs (Sms.cp e.E)),.i .i64 e.R] false)∧d.st.get B2=some (.cells [.i .u8 (e.K.toNat:Int),.i .u8 (e.O.toNat:Int),.s e.J,.s e.I,.i .i64 e.N,slV e.za e.A.length (Exs.cs e.A),slV e.zb e.B.length (Sms.cs e.B),slV e.ze e.E.length (Sms.cs e.E),.i .i64 e.R] false)∧d.loc.get 89=.b false) Zaf ?_ ?_
     ·intro K hK;simp(disch:=first|omega|rfl|assumption)only[↓Yaa,Yac,Nae,Naa,rB,rC,rD,rE,reduceIte,unP,Xm,rF,List.drop_succ_cons,List.drop_zero,List.take_succ_cons,List.take_zero,g0,g1,g2,g7,g8,g9,q80,kB1,kB2,bne_self_eq_false,gA',gB',gE',Bool.not_true];exact hK _ ⟨by simp[Yad,g0],by simp[Yad,g1],by simp[Yad,g2],by simp[Yad,g7],by simp[Yad,g8],by simp[Yad,g9],kB1 _,kB2 _,by simp[Yad]⟩
     clear g0 g1 g2 g7 g8 g9 kB1 kB2 q80;rintro⟨env,loc,⟨sto,c⟩⟩ ⟨g0,g1,g2,g7,g8,g9,kB1,kB2,q89⟩;simp only at g0 g1 g2 g7 g8 g9 q89;replace kB1:∀ n',St.get ⟨sto,n'⟩ B1=_:=fun _=>kB1;replace kB2:∀ n',St.get ⟨sto,n'⟩ B2=_:=fun _=>kB2;simp(disch:=first|omega|rfl|assumption)only[↓Yaa,Yac,Nae,Naa,rB,rC,rD,rE,reduceIte,unP,Xm,rF,List.drop_succ_cons,List.drop_zero,g0,g1,g2,g7,g8,g9,q89,kB1,kB2,gE',Bool.not_true];intro ht2;refine hK9 _ ?_
     iterate 2
      (try rw[Z0]);(try simp(maxSteps:=9^7)(disch:=first|omega|rfl|assumption)only[↓Yaa,Yab,Nae,Naa,rB,rC,rD,rE,reduceIte,unP,rF,g0,g1,g2,g7,g8,g9,kB1,kB2])
     exact⟨l.length - (i+1),by omega,i+1,rfl,(Nan hil).symm,(Nan hil).symm,rfl,by omega,ht2.le Zaa⟩
    ·skip
     iterate 6
      (try rw[Z0]);(try simp(maxSteps:=9^7)(disch:=first|omega|rfl|assumption)only[↓Yaa,Yab,Nae,Naa,rB,rC,rD,rE,reduceIte,unP,rF,g0,g1,g2,g7,hla])
     exact⟨nofun,_,rfl,by simp only[Nay,Yad,if_true]⟩
   ·skip
    exact⟨0,rfl,Zac,Zac,Zac,Zac,Zad,(ht.le Zag)⟩
end Go.Pe
