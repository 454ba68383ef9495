/-
 Check: what is wrong with a statement, but for what is within it? No condition.
-/
import Derived.Test.YtjnofhibldppoaaZChkMb
set_option linter.unusedVariables false
set_option linter.unusedSimpArgs false
set_option maxHeartbeats 8000000
open Nat renaming reduceAdd → rB,reduceMul → rC,reduceLT → rD,reduceEqDiff → rE,reduceLeDiff → rF
namespace Go.Pe
open Go Go.Am Go.RowKit
def lsV(ls:List (List UInt8)):List (PV×PV):=ls.map fun s=>(.s s,.i .i64 (Int.ofNat 1))
def Nfk(s:List UInt8):List (List UInt8)→Bool
 |[]=>false
 |t::r=>if s==t then true else Nfk s r
def Nk6(s:List UInt8):List (List UInt8)→List (List UInt8)
 |[]=>[s]
 |t::r=>if s==t then s::r else t::Nk6 s r
theorem Ne2(s:List UInt8):∀ ls,Nbz 2 (.s s) (lsV ls)=some (if Nfk s ls=true then some (.i .i64 (Int.ofNat 1))else none)
 |[]=>rfl
 |t::r=>by
   have ih:=Ne2 s r;unfold lsV at ih ⊢;rw[List.map_cons,Nbz,Nfk];cases h:s==t with
   |true=>simp[eq1,h]
   |false =>
     have ih':Nbz 2 (PV.s s) (List.map (fun s=>(PV.s s,PV.i IntKind.i64 1)) r)=some (if Nfk s r=true then some (PV.i IntKind.i64 1)else none):=ih;simp[eq1,h,ih']
theorem Ne3(s:List UInt8):∀ ls,Nbu 2 (.s s) (.i .i64 (Int.ofNat 1)) (lsV ls)=some (lsV (Nk6 s ls))
 |[]=>rfl
 |t::r=>by
   have ih:=Ne3 s r;unfold lsV at ih ⊢;rw[List.map_cons,Nbu,Nk6];cases h:s==t with
   |true=>simp[eq1,h]
   |false =>
     have ih':Nbu 2 (PV.s s) (PV.i IntKind.i64 1) (List.map (fun s=>(PV.s s,PV.i IntKind.i64 1)) r)=some (List.map (fun s=>(PV.s s,PV.i IntKind.i64 1)) (Nk6 s r)):=ih;simp[eq1,h,ih']
mutual
def Ex.told(g:List UInt8→Bool):Ex→Bool
 |.mk k s n z l=>if k.toNat=2∧g s=false then false else Exs.told g l
def Exs.told(g:List UInt8→Bool):List Ex→Bool
 |[]=>true
 |e::r=>e.told g&&Exs.told g r
end
theorem Ex.told_eq(g:List UInt8→Bool)(e:Ex):e.told g=if e.K.toNat=2∧g e.S=false then false else Exs.told g e.L:=by
 cases e;rw[Ex.told];rfl
theorem NoB{cfg:Cfg}(hc:CfgV cfg)(hx:cfg.ext 49=none){ls:List (List UInt8)}{kp M:Nat}{v:PV} :
 ∀ (fuel:Nat) (l:List Ex) (z:Bool) (st:St),Exs.size l+2≤fuel→Exs.size l<1000000000000000→kp<st.cnt→M<st.cnt→st.get kp=some (.cells [v,.mp M] false)→st.get M=some (.map (lsV ls)) →
 ∃ r st',Nay cfg (fuel+1) 49 [.ptr kp 0,slV z l.length (Exs.cs l)] st=some (r,st')∧(r=.b (Exs.told (Nfk · ls) l)∧(∀ j,j<st.cnt→st'.get j=st.get j)∧st.cnt≤st'.cnt):=by
 intro fuel
 induction fuel with
 |zero=>intro l z st h;omega
 |succ q ih =>
   intro l z st hfu hn hlt hlm hk hM;refine Nax (hc.fn _ _ (by kernel_rfl):cfg.fn 49=some m49) ?_;delta m49 Qr Qg Ql Qt Qn Qs Qk Qm Qh Qi Qu Qv Qo;have hll:=Exs.len_le l;have hlv:=NaF z l.length (Exs.cs l);simp only[Naj]
   iterate 3
    (try rw[Z0]);(try simp(disch:=first|omega|rfl|assumption)only[↓Yaa,Yab,Nae,Naa,rB,rC,rD,rE,reduceIte,unP,rF,hlv])
   refine Z9 (k:=l.length - 0) (fun m x=>∃ (i:Nat),m=l.length - i∧i≤l.length∧Exs.told (Nfk · ls) (l.drop i)=Exs.told (Nfk · ls) l∧x.env.get 0=.ptr kp 0∧x.env.get 7=slV z l.length (Exs.cs l)∧x.env.get 8=.i .i64 (l.length:Int)∧x.env.get 9=.i .i64 (i:Int)∧st.cnt≤x.st.cnt∧(∀ j,j<st.cnt→x.st.get j=st.get j)) ?_ ?_ Zaa
   ·rintro m ⟨env,⟨sto,c⟩⟩ ⟨i,rfl,hi,hob,g0,g7,g8,g9,hcc,ko⟩;simp only at g0 g7 g8 g9 hcc;have kk:∀ n',St.get ⟨sto,n'⟩ kp=some (.cells [v,.mp M] false):=fun _=>(ko kp hlt).trans hk;have kM:∀ n',St.get ⟨sto,n'⟩ M=some (.map (lsV ls)):=fun _=>(ko M hlm).trans hM;by_cases hil:i<l.length
    ·rw[Nas hil]at g7;have hdr:=List.drop_eq_getElem_cons hil;obtain⟨e,he⟩:∃ e,l[i]=e:=⟨_,rfl⟩;have hld:=fun st=>NeY (st:=st) hil;simp only[he]at hld;rw[he]at hdr;rw[hdr,Exs.told,Ex.told_eq]at hob;have hsz:=Exs.len l;have hel:e.size≤Exs.size l:=Exs.size_mem (he▸List.getElem_mem hil);have hes:=Ex.size_eq e;obtain⟨k,hkk⟩:∃ k,e.K.toNat=k:=⟨_,rfl⟩;rw[hkk]at hob;simp only[hkk]at hld;have hkc:kp<c:=(by omega);have hmc:M<c:=(by omega);have htd:e.told (Nfk · ls)=if k=2∧Nfk e.S ls=false then false else Exs.told (Nfk · ls) e.L:=(by rw[Ex.told_eq,hkk]);replace hob:(e.told (Nfk · ls)&&Exs.told (Nfk · ls) (l.drop (i+1)))=Exs.told (Nfk · ls) l:=by rw[htd];exact hob
     iterate 4
      (try rw[Z0]);(try simp(disch:=first|omega|rfl|assumption)only[↓Yaa,Yab,Nae,Naa,rB,rC,rD,rE,reduceIte,unP,rF,g0,g7,g8,g9,hld,hsz,Naf,Nag])
     refine Za (fun x=>x.env.get 0=.ptr kp 0∧x.env.get 7=.fsl l.length (Exs.cs l)∧x.env.get 8=.i .i64 (l.length:Int)∧x.env.get 9=.i .i64 (i:Int)∧x.env.get 32=.b (!(e.told (Nfk · ls)))∧st.cnt≤x.st.cnt∧(∀ j,j<st.cnt→x.st.get j=st.get j)) ?_ ?_
     ·have kL:∀ n' x y j,j<st.cnt→St.get ⟨((St.put ⟨sto,c+40⟩ (c+24) x).put (c+24) y).sto,n'⟩ j=st.get j:=fun n' x y j hj=>by simp(disch:=omega)only[NaG,NaN];exact ko j hj
      rw[htd];by_cases h2:k=2
      ·have b2:((k:Int)==Int.ofNat 2)=true:=(by subst h2;rfl);have hm:=Ne2 e.S ls;by_cases h0:Nfk e.S ls=false
       ·have b0:(Int.ofNat 0==Int.ofNat 0)=true:=rfl;rw[if_pos ⟨h2,h0⟩];rw[h0,if_neg Zaf]at hm;(try rw[Z0]);(try simp(disch:=first|omega|rfl|assumption)only[↓Yaa,Yab,Nae,Naa,rB,rC,rD,rE,reduceIte,unP,rF,g0,g7,g8,g9,kk,kM,hm,Option.map_some,Option.getD_some,Option.getD_none,b2,b0]);exact fun j hj=>by simp(disch:=omega)only[NaG,NaN];exact ko j hj
       ·have b0:(Int.ofNat 1==Int.ofNat 0)=false:=rfl;rw[if_neg (fun h=>h0 h.2)];rw[if_pos (by simpa using h0)]at hm;(try rw[Z0]);(try simp(disch:=first|omega|rfl|assumption)only[↓Yaa,Yab,Nae,Naa,rB,rC,rD,rE,reduceIte,unP,rF,g0,g7,g8,g9,kk,kM,hm,Option.map_some,Option.getD_some,Option.getD_none,b2,b0,hx]);refine Nd0 (ih e.L e.z _ Zaa Zaa Zae Zae ((kL _ _ _ kp hlt).trans hk) ((kL _ _ _ M hlm).trans hM)) ?_;rintro r4 ⟨sto6,c6⟩ ⟨rfl,kp6,hc6⟩;simp only at hc6;(try rw[Z0]);(try simp(disch:=first|omega|rfl|assumption)only[↓Yaa,Yab,Nae,Naa,rB,rC,rD,rE,reduceIte,unP,rF,g0,g7,g8,g9]);exact fun j hj=>(kp6 j Zae).trans (kL _ _ _ j hj)
      ·have b2:((k:Int)==Int.ofNat 2)=false:=(by simp;omega);rw[if_neg (fun h=>h2 h.1)];(try rw[Z0]);(try simp(disch:=first|omega|rfl|assumption)only[↓Yaa,Yab,Nae,Naa,rB,rC,rD,rE,reduceIte,unP,rF,g0,g7,g8,g9,kk,kM,b2,hx]);refine Nd0 (ih e.L e.z _ Zaa Zaa Zae Zae ((kL _ _ _ kp hlt).trans hk) ((kL _ _ _ M hlm).trans hM)) ?_;rintro r4 ⟨sto6,c6⟩ ⟨rfl,kp6,hc6⟩;simp only at hc6;(try rw[Z0]);(try simp(disch:=first|omega|rfl|assumption)only[↓Yaa,Yab,Nae,Naa,rB,rC,rD,rE,reduceIte,unP,rF,g0,g7,g8,g9]);exact fun j hj=>(kp6 j Zae).trans (kL _ _ _ j hj)
     clear g0 g7 g8 g9 ko kk kM;rintro⟨env,⟨sto,c3⟩⟩ ⟨g0,g7,g8,g9,g32,hc3,ko⟩;simp only at g0 g7 g8 g9 g32 hc3;cases ht:e.told (Nfk · ls)with
     |true =>
       rw[ht]at hob g32
       iterate 3
        (try rw[Z0]);(try simp(disch:=first|omega|rfl|assumption)only[↓Yaa,Yab,Nae,Naa,rB,rC,rD,rE,reduceIte,unP,rF,g0,g7,g8,g9,g32,Bool.not_true])
       exact⟨l.length - (i+1),by omega,i+1,rfl,by omega,by rw[←hob,Bool.true_and],(Nas hil).symm,rfl,ko⟩
     |false =>
       rw[ht]at hob g32
       iterate 3
        (try rw[Z0]);(try simp(disch:=first|omega|rfl|assumption)only[↓Yaa,Yab,Nae,Naa,rB,rC,rD,rE,reduceIte,unP,rF,g0,g7,g8,g9,g32,Bool.not_false])
       exact⟨nofun,_,rfl,by simp only[Yad,if_true,Nau];rw[←hob,Bool.false_and],ko⟩
    ·have h0:l.drop i=[]:=List.drop_of_length_le Zaa;rw[h0,Exs.told]at hob
     iterate 4
      (try rw[Z0]);(try simp(disch:=first|omega|rfl|assumption)only[↓Yaa,Yab,Nae,Naa,rB,rC,rD,rE,reduceIte,unP,rF,g0,g7,g8,g9])
     exact⟨nofun,_,rfl,by simp only[Yad,if_true,Nau];rw[←hob],fun j hj=>ko j hj⟩
   ·exact⟨0,rfl,by omega,by rw[List.drop_zero],by simp[Yad],by simp[Yad],by simp[Yad],by simp[Yad],by simp only;omega,fun j hj=>rfl⟩
end Go.Pe
set_option maxHeartbeats 8000000
namespace Go.Pe
open Go Go.Am Go.RowKit
theorem NaT{cfg:Cfg}{callE:CallE}{n:Nat}{a b:MCode}{x:Now}{Q:MExit→Now→Prop}(R:Now→Prop)(h:∀ K:Now→Prop,(∀ x',R x'→K x')→WC cfg callE n a x (NhN Q K))(k:∀ x',R x'→WC cfg callE n b x' Q):WC cfg callE n (.seq a b) x Q:=by
 rw[Z0];exact h _ k
structure CfgM(cfg:Cfg):Prop extends CfgV cfg where
 z1:cfg.ext 37=none
 z2:cfg.ext 49=none
 z3:cfg.ext 38=none
 z4:cfg.ext 24=none
 z5:cfg.ext 23=none
 z6:cfg.ext 48=none
 z7:cfg.ext 25=none
 z8:cfg.ext 22=none
def NoG(es:List (List UInt8×Nat))(s:Sm):Int:=if s.K.toNat=1 then NcS s.J (ofN s.O.toNat) es else 0
def lsP(i:List UInt8)(ls:List (List UInt8)):List (List UInt8):=if i=[]then ls else Nk6 i ls
def NqK(s:Sm)(ls:List (List UInt8)):Int:=if 20<ls.length then 102 else if s.K.toNat=3∧1000<s.N then 113 else 0
def NcI(es:List (List UInt8×Nat))(ls:List (List UInt8))(s:Sm):Int×List (List UInt8) :=
 if NoG es s=0 then(if Exs.told (Nfk · ls) s.A=true then(NqK s (lsP s.I ls),lsP s.I ls)else(110,ls))else(NoG es s,ls)
theorem Nn5(ls:List (List UInt8)):(lsV ls).length=ls.length:=List.length_map _
theorem Noz{cfg:Cfg}(hc:CfgM cfg){es:List (List UInt8×Nat)}{ls:List (List UInt8)}{kp Mk Ml q:Nat}{s:Sm}{st:St}(hfu:Exs.size s.A+2≤q)(hn:Exs.size s.A<1000000000000000)(hlt:kp<st.cnt)(hlk:Mk<st.cnt)(hll:Ml<st.cnt)(hkl:Ml≠Mk)(hpl:Ml≠kp)
 (hk:st.get kp=some (.cells [.mp Mk,.mp Ml] false)) (hMk:st.get Mk=some (.map (esV es))) (hMl:st.get Ml=some (.map (lsV ls))) :
 ∃ r st',Nay cfg (q+2) 38 [.ptr kp 0,.agg s.cs] st=some (r,st')∧(r=.i .i64 (NcI es ls s).1∧st'.get Ml=some (.map (lsV (NcI es ls s).2))∧(∀ j,j<st.cnt→j≠Ml→st'.get j=st.get j)∧st.cnt≤st'.cnt):=by
 refine Nax (hc.fn _ _ (by kernel_rfl):cfg.fn 38=some m38) ?_;delta m38 Qa Qr Qf Qg Qc Ql Qt Qn Qs Qk Qm Qh Qi Qu Qv Qo;rw[Sm.cs_eq];obtain⟨k,hkk⟩:∃ k,s.K.toNat=k:=⟨_,rfl⟩;obtain⟨o,ho⟩:∃ o,s.O.toNat=o:=⟨_,rfl⟩;obtain⟨R,hR⟩:∃ R,NcI es ls s=R:=⟨_,rfl⟩;rw[hR];unfold NcI NoG NqK at hR;rw[hkk,ho]at hR;rw[hkk,ho];have gOf:Nak cfg (Nay cfg (q+1)) 48 [.i .u8 (o:Int)]=some (.i .u8 (ofN o:Int)):=Nar hc.z6 rfl (fun _=>rfl) (Nrw (hc.fn _ _ (by kernel_rfl)));simp only[Naj];(try rw[Z0]);(try simp(disch:=first|omega|rfl|assumption)only[↓Yaa,Yab,Nae,Naa,rB,rC,rD,rE,reduceIte,unP,rF,Nag,Naf]);refine NaL (fun x=>∃ B:Nat,x.env.get 0=.ptr kp 0∧x.env.get 3=.ptr B 0∧x.st.get B=some (.cells [.i .u8 (k:Int),.i .u8 (o:Int),.s s.J,.s s.I,.i .i64 s.N,slV s.za s.A.length (Exs.cs s.A),slV s.zb s.B.length (Sms.cs s.B),slV s.ze s.E.length (Sms.cs s.E),.i .i64 s.R] false)∧st.cnt≤B∧B<x.st.cnt∧(∀ j,j<st.cnt→x.st.get j=st.get j)) ?_ ?_
 ·exact⟨st.cnt,rfl,rfl,by rw[Yaf],by omega,by simp only[Naz];omega,fun j hj=>by simp(disch:=omega)only[NaG,NaN]⟩
 rintro⟨env,⟨sto,c⟩⟩ ⟨B,g0,g3,kB,hB,hBc,ko⟩;simp only at g0 g3 hBc;replace kB:∀ n',St.get ⟨sto,n'⟩ B=_:=fun _=>kB;have kk:∀ n',St.get ⟨sto,n'⟩ kp=some (.cells [.mp Mk,.mp Ml] false):=fun _=>(ko kp hlt).trans hk;have kM:∀ n',St.get ⟨sto,n'⟩ Mk=some (.map (esV es)):=fun _=>(ko Mk hlk).trans hMk;have kL:∀ n',St.get ⟨sto,n'⟩ Ml=some (.map (lsV ls)):=fun _=>(ko Ml hll).trans hMl;obtain⟨p,hp⟩:∃ p,(if k=1 then NcS s.J (ofN o) es else 0)=p:=⟨_,rfl⟩;rw[hp]at hR;refine NaT (fun x=>p=0∧x.env.get 0=.ptr kp 0∧x.env.get 3=.ptr B 0∧B<x.st.cnt∧x.st.get B=some (.cells [.i .u8 (k:Int),.i .u8 (o:Int),.s s.J,.s s.I,.i .i64 s.N,slV s.za s.A.length (Exs.cs s.A),slV s.zb s.B.length (Sms.cs s.B),slV s.ze s.E.length (Sms.cs s.E),.i .i64 s.R] false)∧(∀ j,j<st.cnt→x.st.get j=st.get j)) ?_ ?_
 ·intro K hK;by_cases h1:k=1
  ·have b1:((k:Int)==Int.ofNat 1)=true:=(by subst h1;rfl);rw[if_pos h1]at hp
   iterate 2
    (try rw[Z0]);(try simp(disch:=first|omega|rfl|assumption)only[↓Yaa,Yab,Nae,Naa,rB,rC,rD,rE,reduceIte,unP,rF,g0,g3,kB,b1])
   refine NbJ (st:=⟨sto,c+88⟩) (key:=c+64) (ps:=[.i .u8 (o:Int)]) (ps':=[.i .u8 (o:Int)]) rfl gOf rfl rfl ?_;(try rw[Z0]);(try simp(disch:=first|omega|rfl|assumption)only[↓Yaa,Yab,Nae,Naa,rB,rC,rD,rE,reduceIte,unP,rF,hc.z1]);refine Nd0 (Nim hc.toCfgV (d:=ofN o) (kk _) (kM _)) ?_;rintro r1 ⟨sto1,c1⟩ ⟨rfl,kj,hc1⟩;simp only at hc1;have kB1:∀ n',St.get ⟨sto1,n'⟩ B=_:=fun n'=>(kj B).trans (kB _);by_cases h0:NcS s.J (ofN o) es=0
   ·have b0:(NcS s.J (ofN o) es != Int.ofNat 0)=false:=by rw[h0];rfl
    iterate 3
     (try rw[Z0]);(try simp(disch:=first|omega|rfl|assumption)only[↓Yaa,Yab,Nae,Naa,rB,rC,rD,rE,reduceIte,unP,rF,b0])
    refine hK _ ⟨by rw[←hp,h0],?_,?_,by simp only;omega,kB1 _,fun j hj=>(kj j).trans (ko j hj)⟩
    ·simp only[Yad,rE,if_false,g0]
    ·simp only[Yad,rE,if_false,g3]
   ·have b0:(NcS s.J (ofN o) es != Int.ofNat 0)=true:=(by simpa using h0);rw[hp]at h0;rw[if_neg h0]at hR
    iterate 3
     (try rw[Z0]);(try simp(disch:=first|omega|rfl|assumption)only[↓Yaa,Yab,Nae,Naa,rB,rC,rD,rE,reduceIte,unP,rF,b0])
    subst hR;exact⟨nofun,_,rfl,by simp only[Yad,if_true,Nau,rE,if_false]<;>(rw[hp]),(kj Ml).trans (kL _),fun j hj _=>(kj j).trans (ko j hj)⟩
  ·have b1:((k:Int)==Int.ofNat 1)=false:=(by simp;omega);rw[if_neg h1]at hp
   iterate 2
    (try rw[Z0]);(try simp(disch:=first|omega|rfl|assumption)only[↓Yaa,Yab,Nae,Naa,rB,rC,rD,rE,reduceIte,unP,rF,g0,g3,kB,b1])
   refine hK _ ⟨by rw[←hp],?_,?_,by simp only;omega,kB _,ko⟩
   ·simp only[Yad,rE,if_false,g0]
   ·simp only[Yad,rE,if_false,g3]
 clear g0 g3 kB kk kM kL ko hBc;rintro⟨env,⟨sto,c2⟩⟩ ⟨hp0,g0,g3,hc2,kB,ko⟩;simp only at g0 g3 hc2;rw[if_pos hp0]at hR;replace kB:∀ n',St.get ⟨sto,n'⟩ B=_:=fun _=>kB;have kk:∀ n',St.get ⟨sto,n'⟩ kp=some (.cells [.mp Mk,.mp Ml] false):=fun _=>(ko kp hlt).trans hk;have kL:∀ n',St.get ⟨sto,n'⟩ Ml=some (.map (lsV ls)):=fun _=>(ko Ml hll).trans hMl;refine NaT (fun x=>Exs.told (Nfk · ls) s.A=true∧x.env.get 0=.ptr kp 0∧x.env.get 3=.ptr B 0∧B<x.st.cnt∧x.st.get B=some (.cells [.i .u8 (k:Int),.i .u8 (o:Int),.s s.J,.s s.I,.i .i64 s.N,slV s.za s.A.length (Exs.cs s.A),slV s.zb s.B.length (Sms.cs s.B),slV s.ze s.E.length (Sms.cs s.E),.i .i64 s.R] false)∧(∀ j,j<st.cnt→x.st.get j=st.get j)) ?_ ?_
 ·intro K hK
  iterate 2
   (try rw[Z0]);(try simp(disch:=first|omega|rfl|assumption)only[↓Yaa,Yab,Nae,Naa,rB,rC,rD,rE,reduceIte,unP,rF,g0,g3,kB,hc.z2])
  refine Nd0 (NoB hc.toCfgV hc.z2 q s.A s.za _ hfu hn Zae Zae (kk _) (kL _)) ?_;rintro r1 ⟨sto1,c1⟩ ⟨rfl,kj,hc1⟩;simp only at hc1 kj;cases ht:Exs.told (Nfk · ls) s.A with
  |true =>
    iterate 2
     (try rw[Z0]);(try simp(disch:=first|omega|rfl|assumption)only[↓Yaa,Yab,Nae,Naa,rB,rC,rD,rE,reduceIte,unP,rF,g0,g3,Bool.not_true])
    refine hK _ ⟨ht,?_,?_,by simp only;omega,(kj B Zaa).trans (kB _),fun j hj=>(kj j Zaa).trans (ko j hj)⟩
    ·simp only[Yad,rE,if_false,g0]
    ·simp only[Yad,rE,if_false,g3]
  |false =>
    rw[if_neg (by rw[ht];simp)]at hR
    iterate 2
     (try rw[Z0]);(try simp(disch:=first|omega|rfl|assumption)only[↓Yaa,Yab,Nae,Naa,rB,rC,rD,rE,reduceIte,unP,rF,g0,g3,Bool.not_false])
    subst hR;exact⟨nofun,_,rfl,by simp only[Yad,if_true,Nau]<;>rfl,(kj Ml Zaa).trans (kL _),fun j hj _=>(kj j Zaa).trans (ko j hj)⟩
 clear g0 g3 kB kk kL ko hc2;rintro⟨env,⟨sto,c3⟩⟩ ⟨ht,g0,g3,hc3,kB,ko⟩;simp only at g0 g3 hc3;rw[if_pos ht]at hR;replace kB:∀ n',St.get ⟨sto,n'⟩ B=_:=fun _=>kB;have kk:∀ n',St.get ⟨sto,n'⟩ kp=some (.cells [.mp Mk,.mp Ml] false):=fun _=>(ko kp hlt).trans hk;have kL:∀ n',St.get ⟨sto,n'⟩ Ml=some (.map (lsV ls)):=fun _=>(ko Ml hll).trans hMl;have hmp:=Ne3 s.I ls;have hmp2:Nbu 2 (.s s.I) (.i .i64 ((1:Nat):Int)) (lsV ls)=some (lsV (Nk6 s.I ls)):=hmp;obtain⟨l2,hl2⟩:∃ l2,lsP s.I ls=l2:=⟨_,rfl⟩;rw[hl2]at hR;refine NaT (fun x=>x.env.get 0=.ptr kp 0∧x.env.get 3=.ptr B 0∧B<x.st.cnt∧x.st.get B=some (.cells [.i .u8 (k:Int),.i .u8 (o:Int),.s s.J,.s s.I,.i .i64 s.N,slV s.za s.A.length (Exs.cs s.A),slV s.zb s.B.length (Sms.cs s.B),slV s.ze s.E.length (Sms.cs s.E),.i .i64 s.R] false)∧x.st.get kp=some (.cells [.mp Mk,.mp Ml] false)∧x.st.get Ml=some (.map (lsV l2))∧(∀ j,j<st.cnt→j≠Ml→x.st.get j=st.get j)) ?_ ?_
 ·intro K hK;unfold lsP at hl2;by_cases hi:s.I=[]
  ·have bi:(s.I==([]:List UInt8))=true:=(by rw[hi];rfl);rw[if_pos hi]at hl2
   iterate 2
    (try rw[Z0]);(try simp(disch:=first|omega|rfl|assumption)only[↓Yaa,Yab,Nae,Naa,rB,rC,rD,rE,reduceIte,unP,rF,g0,g3,kB,bi,Bool.not_true])
   refine hK _ ⟨?_,?_,by simp only;omega,kB _,kk _,hl2▸kL _,fun j hj _=>ko j hj⟩
   ·simp only[Yad,rE,if_false,g0]
   ·simp only[Yad,rE,if_false,g3]
  ·have bi:(s.I==([]:List UInt8))=false:=(by simpa using hi);rw[if_neg hi]at hl2
   iterate 2
    (try rw[Z0]);(try simp(disch:=first|omega|rfl|assumption)only[↓Yaa,Yab,Nae,Naa,rB,rC,rD,rE,reduceIte,unP,rF,g0,g3,kB,kk,kL,bi,Bool.not_false,hmp,hmp2,Option.map_some])
   refine hK _ ⟨?_,?_,by simp only[Naz];omega,?_,?_,by rw[Yaf,hl2],fun j hj hm=>?_⟩
   ·simp only[Yad,rE,if_false,g0]
   ·simp only[Yad,rE,if_false,g3]
   ·rw[Yae Zaa];exact kB _
   ·rw[Yae Zaa];exact kk _
   ·rw[Yae Zaa];exact ko j hj
 clear g0 g3 kB kk kL ko hc3 hmp hmp2;rintro⟨env,⟨sto,c4⟩⟩ ⟨g0,g3,hc4,kB,kk,kL,ko⟩;simp only at g0 g3 hc4;replace kB:∀ n',St.get ⟨sto,n'⟩ B=_:=fun _=>kB;replace kk:∀ n',St.get ⟨sto,n'⟩ kp=some (.cells [.mp Mk,.mp Ml] false):=fun _=>kk;replace kL:∀ n',St.get ⟨sto,n'⟩ Ml=some (.map (lsV l2)):=fun _=>kL;have hln:=Nn5 l2;by_cases h20:20<l2.length
 ·rw[if_pos h20]at hR
  iterate 4
   (try rw[Z0]);(try simp(disch:=first|omega|rfl|assumption)only[↓Yaa,Yab,Nae,Naa,rB,rC,rD,rE,reduceIte,unP,rF,g0,g3,kB,kk,kL,hln])
  subst hR;exact⟨nofun,_,rfl,by simp only[Yad,if_true,Nau]<;>rfl,rfl,ko⟩
 ·rw[if_neg h20]at hR;by_cases h3:k=3
  ·have b3:((k:Int)==Int.ofNat 3)=true:=(by subst h3;rfl);by_cases hN:1000<s.N
   ·rw[if_pos ⟨h3,hN⟩]at hR
    iterate 6
     (try rw[Z0]);(try simp(disch:=first|omega|rfl|assumption)only[↓Yaa,Yab,Nae,Naa,rB,rC,rD,rE,reduceIte,unP,rF,g0,g3,kB,kk,kL,hln,b3])
    subst hR;exact⟨nofun,_,rfl,by simp only[Yad,if_true,Nau]<;>rfl,rfl,ko⟩
   ·rw[if_neg (fun h=>hN h.2)]at hR
    iterate 6
     (try rw[Z0]);(try simp(disch:=first|omega|rfl|assumption)only[↓Yaa,Yab,Nae,Naa,rB,rC,rD,rE,reduceIte,unP,rF,g0,g3,kB,kk,kL,hln,b3])
    subst hR;exact⟨nofun,_,rfl,by simp only[Yad,if_true,Nau]<;>rfl,rfl,ko⟩
  ·have b3:((k:Int)==Int.ofNat 3)=false:=(by simp;omega);rw[if_neg (fun h=>h3 h.1)]at hR
   iterate 6
    (try rw[Z0]);(try simp(disch:=first|omega|rfl|assumption)only[↓Yaa,Yab,Nae,Naa,rB,rC,rD,rE,reduceIte,unP,rF,g0,g3,kB,kk,kL,hln,b3])
   subst hR;exact⟨nofun,_,rfl,by simp only[Yad,if_true,Nau]<;>rfl,rfl,ko⟩
end Go.Pe
