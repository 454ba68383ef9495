/-
 Check: what is wrong with a statement, but for what is within it? No condition.
-/
import Derived.Test.YtjnofhibldppoaaZChkMc
set_option linter.unusedVariables false
set_option linter.unusedSimpArgs false
set_option maxHeartbeats 8000000
open Nat renaming reduceAdd → rA,reduceMul → rB,reduceLT → rC,reduceEqDiff → rD,reduceLeDiff → rE
namespace Go.Pe
open Go Go.Am Go.RowKit
theorem NaW{cfg:Cfg}{callE:CallE}{n:Nat}{a b:MCode}{x:Now}{Q:MExit→Now→Prop}(R:Now→Prop)(h:∀ K:Now→Prop,(∀ x',R x'→K x')→WC cfg callE n a x (Nf6 Q K))(k:∀ x',R x'→WC cfg callE n b x' Q):WC cfg callE n (.seq a b) x Q:=by
 rw[Z0];exact h _ k
structure CfgM(cfg:Cfg):Prop extends CfgV cfg where
 z1:cfg.ext 37=none
 z2:cfg.ext 49=none
 z3:cfg.ext 38=none
 z4:cfg.ext 24=none
 z5:cfg.ext 23=none
 z6:cfg.ext 48=none
 z7:cfg.ext 25=none
 z8:cfg.ext 22=none
def Nmk(es:List (List UInt8×Nat))(s:Sm):Int:=if s.K.toNat=1 then NbD s.J (ofN s.O.toNat) es else 0
def lsP(i:List UInt8)(ls:List (List UInt8)):List (List UInt8):=if i=[]then ls else NdV i ls
def Nnp(s:Sm)(ls:List (List UInt8)):Int:=if 20<ls.length then 102 else if s.K.toNat=3∧1000<s.N then 113 else 0
def Nby(es:List (List UInt8×Nat))(ls:List (List UInt8))(s:Sm):Int×List (List UInt8) :=
 if Nmk es s=0 then(if Exs.told (Nbv · ls) s.A=true then(Nnp s (lsP s.I ls),lsP s.I ls)else(110,ls))else(Nmk es s,ls)
theorem NhS(ls:List (List UInt8)):(lsV ls).length=ls.length:=List.length_map _
theorem Nlh{cfg:Cfg}(hc:CfgM cfg){es:List (List UInt8×Nat)}{ls:List (List UInt8)}{kp Mk Ml q:Nat}{s:Sm}{st:St}(hfu:Exs.size s.A+2≤q)(hn:Exs.size s.A<1000000000000000)(hlt:kp<st.cnt)(hlk:Mk<st.cnt)(hll:Ml<st.cnt)(hkl:Ml≠Mk)(hpl:Ml≠kp)
 (hk:st.get kp=some (.cells [.mp Mk,.mp Ml] false)) (hMk:st.get Mk=some (.map (esV es))) (hMl:st.get Ml=some (.map (lsV ls))) :
 ∃ r st',NaI cfg (q+2) 38 [.ptr kp 0,.agg s.cs] st=some (r,st')∧(r=.i .i64 (Nby es ls s).1∧st'.get Ml=some (.map (lsV (Nby es ls s).2))∧(∀ j,j<st.cnt→j≠Ml→st'.get j=st.get j)∧st.cnt≤st'.cnt):=by
 refine Naz (hc.fn _ _ (by kernel_rfl):cfg.fn 38=some m38) ?_;delta m38 Qa Qr Qf Qg Qc Ql Qt Qn Qs Qk Qm Qh Qi Qu Qv Qo;rw[Sm.cs_eq];obtain⟨k,hkk⟩:∃ k,s.K.toNat=k:=⟨_,rfl⟩;obtain⟨o,ho⟩:∃ o,s.O.toNat=o:=⟨_,rfl⟩;obtain⟨R,hR⟩:∃ R,Nby es ls s=R:=⟨_,rfl⟩;rw[hR];unfold Nby Nmk Nnp at hR;rw[hkk,ho]at hR;rw[hkk,ho];have gOf:Nam cfg (NaI cfg (q+1)) 48 [.i .u8 (o:Int)]=some (.i .u8 (ofN o:Int)):=NaA hc.z6 rfl (fun _=>rfl) (NnT (hc.fn _ _ (by kernel_rfl)));simp only[Naj];(try rw[Z0]);(try simp(disch:=first|omega|rfl|assumption)only[↓Yaa,Yab,Nae,Naa,rA,rB,rC,rD,reduceIte,unP,rE,Nai,Naf]);refine NaK (fun x=>∃ B:Nat,x.env.get 0=.ptr kp 0∧x.env.get 3=.ptr B 0∧x.st.get B=some (.cells [.i .u8 (k:Int),.i .u8 (o:Int),.s s.J,.s s.I,.i .i64 s.N,slV s.za s.A.length (Exs.cs s.A),slV s.zb s.B.length (Sms.cs s.B),slV s.ze s.E.length (Sms.cs s.E),.i .i64 s.R] false)∧st.cnt≤B∧B<x.st.cnt∧(∀ j,j<st.cnt→x.st.get j=st.get j)) ?_ ?_
 ·exact⟨st.cnt,rfl,rfl,by rw[Yaf],by omega,by simp only[Nau];omega,fun j hj=>by simp(disch:=omega)only[NaB,NaJ]⟩
 rintro⟨env,⟨sto,c⟩⟩ ⟨B,g0,g3,kB,hB,hBc,ko⟩;simp only at g0 g3 hBc;replace kB:∀ n',St.get ⟨sto,n'⟩ B=_:=fun _=>kB;have kk:∀ n',St.get ⟨sto,n'⟩ kp=some (.cells [.mp Mk,.mp Ml] false):=fun _=>(ko kp hlt).trans hk;have kM:∀ n',St.get ⟨sto,n'⟩ Mk=some (.map (esV es)):=fun _=>(ko Mk hlk).trans hMk;have kL:∀ n',St.get ⟨sto,n'⟩ Ml=some (.map (lsV ls)):=fun _=>(ko Ml hll).trans hMl;obtain⟨p,hp⟩:∃ p,(if k=1 then NbD s.J (ofN o) es else 0)=p:=⟨_,rfl⟩;rw[hp]at hR;refine NaW (fun x=>p=0∧x.env.get 0=.ptr kp 0∧x.env.get 3=.ptr B 0∧B<x.st.cnt∧x.st.get B=some (.cells [.i .u8 (k:Int),.i .u8 (o:Int),.s s.J,.s s.I,.i .i64 s.N,slV s.za s.A.length (Exs.cs s.A),slV s.zb s.B.length (Sms.cs s.B),slV s.ze s.E.length (Sms.cs s.E),.i .i64 s.R] false)∧(∀ j,j<st.cnt→x.st.get j=st.get j)) ?_ ?_
 ·intro K hK;by_cases h1:k=1
  ·have b1:((k:Int)==Int.ofNat 1)=true:=(by subst h1;rfl);rw[if_pos h1]at hp
   iterate 2
    (try rw[Z0]);(try simp(disch:=first|omega|rfl|assumption)only[↓Yaa,Yab,Nae,Naa,rA,rB,rC,rD,reduceIte,unP,rE,g0,g3,kB,b1])
   refine Ncb (st:=⟨sto,c+88⟩) (key:=c+64) (ps:=[.i .u8 (o:Int)]) (ps':=[.i .u8 (o:Int)]) rfl gOf rfl rfl ?_;(try rw[Z0]);(try simp(disch:=first|omega|rfl|assumption)only[↓Yaa,Yab,Nae,Naa,rA,rB,rC,rD,reduceIte,unP,rE,hc.z1]);refine Ncc (Ngw hc.toCfgV (d:=ofN o) (kk _) (kM _)) ?_;rintro r1 ⟨sto1,c1⟩ ⟨rfl,kj,hc1⟩;simp only at hc1;have kB1:∀ n',St.get ⟨sto1,n'⟩ B=_:=fun n'=>(kj B).trans (kB _);by_cases h0:NbD s.J (ofN o) es=0
   ·have b0:(NbD s.J (ofN o) es != Int.ofNat 0)=false:=by rw[h0];rfl
    iterate 3
     (try rw[Z0]);(try simp(disch:=first|omega|rfl|assumption)only[↓Yaa,Yab,Nae,Naa,rA,rB,rC,rD,reduceIte,unP,rE,b0])
    refine hK _ ⟨by rw[←hp,h0],?_,?_,by simp only;omega,kB1 _,fun j hj=>(kj j).trans (ko j hj)⟩
    ·simp only[Yad,rD,if_false,g0]
    ·simp only[Yad,rD,if_false,g3]
   ·have b0:(NbD s.J (ofN o) es != Int.ofNat 0)=true:=(by simpa using h0);rw[hp]at h0;rw[if_neg h0]at hR
    iterate 3
     (try rw[Z0]);(try simp(disch:=first|omega|rfl|assumption)only[↓Yaa,Yab,Nae,Naa,rA,rB,rC,rD,reduceIte,unP,rE,b0])
    subst hR;exact⟨nofun,_,rfl,by simp only[Yad,if_true,NaF,rD,if_false]<;>(rw[hp]),(kj Ml).trans (kL _),fun j hj _=>(kj j).trans (ko j hj)⟩
  ·have b1:((k:Int)==Int.ofNat 1)=false:=(by simp;omega);rw[if_neg h1]at hp
   iterate 2
    (try rw[Z0]);(try simp(disch:=first|omega|rfl|assumption)only[↓Yaa,Yab,Nae,Naa,rA,rB,rC,rD,reduceIte,unP,rE,g0,g3,kB,b1])
   refine hK _ ⟨by rw[←hp],?_,?_,by simp only;omega,kB _,ko⟩
   ·simp only[Yad,rD,if_false,g0]
   ·simp only[Yad,rD,if_false,g3]
 clear g0 g3 kB kk kM kL ko hBc;rintro⟨env,⟨sto,c2⟩⟩ ⟨hp0,g0,g3,hc2,kB,ko⟩;simp only at g0 g3 hc2;rw[if_pos hp0]at hR;replace kB:∀ n',St.get ⟨sto,n'⟩ B=_:=fun _=>kB;have kk:∀ n',St.get ⟨sto,n'⟩ kp=some (.cells [.mp Mk,.mp Ml] false):=fun _=>(ko kp hlt).trans hk;have kL:∀ n',St.get ⟨sto,n'⟩ Ml=some (.map (lsV ls)):=fun _=>(ko Ml hll).trans hMl;refine NaW (fun x=>Exs.told (Nbv · ls) s.A=true∧x.env.get 0=.ptr kp 0∧x.env.get 3=.ptr B 0∧B<x.st.cnt∧x.st.get B=some (.cells [.i .u8 (k:Int),.i .u8 (o:Int),.s s.J,.s s.I,.i .i64 s.N,slV s.za s.A.length (Exs.cs s.A),slV s.zb s.B.length (Sms.cs s.B),slV s.ze s.E.length (Sms.cs s.E),.i .i64 s.R] false)∧(∀ j,j<st.cnt→x.st.get j=st.get j)) ?_ ?_
 ·intro K hK
  iterate 2
   (try rw[Z0]);(try simp(disch:=first|omega|rfl|assumption)only[↓Yaa,Yab,Nae,Naa,rA,rB,rC,rD,reduceIte,unP,rE,g0,g3,kB,hc.z2])
  refine Ncc (Nlj hc.toCfgV hc.z2 q s.A s.za _ hfu hn Zad Zad (kk _) (kL _)) ?_;rintro r1 ⟨sto1,c1⟩ ⟨rfl,kj,hc1⟩;simp only at hc1 kj;cases ht:Exs.told (Nbv · ls) s.A with
  |true =>
    iterate 2
     (try rw[Z0]);(try simp(disch:=first|omega|rfl|assumption)only[↓Yaa,Yab,Nae,Naa,rA,rB,rC,rD,reduceIte,unP,rE,g0,g3,Bool.not_true])
    refine hK _ ⟨ht,?_,?_,by simp only;omega,(kj B Zaa).trans (kB _),fun j hj=>(kj j Zaa).trans (ko j hj)⟩
    ·simp only[Yad,rD,if_false,g0]
    ·simp only[Yad,rD,if_false,g3]
  |false =>
    rw[if_neg (by rw[ht];simp)]at hR
    iterate 2
     (try rw[Z0]);(try simp(disch:=first|omega|rfl|assumption)only[↓Yaa,Yab,Nae,Naa,rA,rB,rC,rD,reduceIte,unP,rE,g0,g3,Bool.not_false])
    subst hR;exact⟨nofun,_,rfl,by simp only[Yad,if_true,NaF]<;>rfl,(kj Ml Zaa).trans (kL _),fun j hj _=>(kj j Zaa).trans (ko j hj)⟩
 clear g0 g3 kB kk kL ko hc2;rintro⟨env,⟨sto,c3⟩⟩ ⟨ht,g0,g3,hc3,kB,ko⟩;simp only at g0 g3 hc3;rw[if_pos ht]at hR;replace kB:∀ n',St.get ⟨sto,n'⟩ B=_:=fun _=>kB;have kk:∀ n',St.get ⟨sto,n'⟩ kp=some (.cells [.mp Mk,.mp Ml] false):=fun _=>(ko kp hlt).trans hk;have kL:∀ n',St.get ⟨sto,n'⟩ Ml=some (.map (lsV ls)):=fun _=>(ko Ml hll).trans hMl;have hmp:=NbX s.I ls;have hmp2:Na6 2 (.s s.I) (.i .i64 ((1:Nat):Int)) (lsV ls)=some (lsV (NdV s.I ls)):=hmp;obtain⟨l2,hl2⟩:∃ l2,lsP s.I ls=l2:=⟨_,rfl⟩;rw[hl2]at hR;refine NaW (fun x=>x.env.get 0=.ptr kp 0∧x.env.get 3=.ptr B 0∧B<x.st.cnt∧x.st.get B=some (.cells [.i .u8 (k:Int),.i .u8 (o:Int),.s s.J,.s s.I,.i .i64 s.N,slV s.za s.A.length (Exs.cs s.A),slV s.zb s.B.length (Sms.cs s.B),slV s.ze s.E.length (Sms.cs s.E),.i .i64 s.R] false)∧x.st.get kp=some (.cells [.mp Mk,.mp Ml] false)∧x.st.get Ml=some (.map (lsV l2))∧(∀ j,j<st.cnt→j≠Ml→x.st.get j=st.get j)) ?_ ?_
 ·intro K hK;unfold lsP at hl2;by_cases hi:s.I=[]
  ·have bi:(s.I==([]:List UInt8))=true:=(by rw[hi];rfl);rw[if_pos hi]at hl2
   iterate 2
    (try rw[Z0]);(try simp(disch:=first|omega|rfl|assumption)only[↓Yaa,Yab,Nae,Naa,rA,rB,rC,rD,reduceIte,unP,rE,g0,g3,kB,bi,Bool.not_true])
   refine hK _ ⟨?_,?_,by simp only;omega,kB _,kk _,hl2▸kL _,fun j hj _=>ko j hj⟩
   ·simp only[Yad,rD,if_false,g0]
   ·simp only[Yad,rD,if_false,g3]
  ·have bi:(s.I==([]:List UInt8))=false:=(by simpa using hi);rw[if_neg hi]at hl2
   iterate 2
    (try rw[Z0]);(try simp(disch:=first|omega|rfl|assumption)only[↓Yaa,Yab,Nae,Naa,rA,rB,rC,rD,reduceIte,unP,rE,g0,g3,kB,kk,kL,bi,Bool.not_false,hmp,hmp2,Option.map_some])
   refine hK _ ⟨?_,?_,by simp only[Nau];omega,?_,?_,by rw[Yaf,hl2],fun j hj hm=>?_⟩
   ·simp only[Yad,rD,if_false,g0]
   ·simp only[Yad,rD,if_false,g3]
   ·rw[Yae Zaa];exact kB _
   ·rw[Yae Zaa];exact kk _
   ·rw[Yae Zaa];exact ko j hj
 clear g0 g3 kB kk kL ko hc3 hmp hmp2;rintro⟨env,⟨sto,c4⟩⟩ ⟨g0,g3,hc4,kB,kk,kL,ko⟩;simp only at g0 g3 hc4;replace kB:∀ n',St.get ⟨sto,n'⟩ B=_:=fun _=>kB;replace kk:∀ n',St.get ⟨sto,n'⟩ kp=some (.cells [.mp Mk,.mp Ml] false):=fun _=>kk;replace kL:∀ n',St.get ⟨sto,n'⟩ Ml=some (.map (lsV l2)):=fun _=>kL;have hln:=NhS l2;by_cases h20:20<l2.length
 ·rw[if_pos h20]at hR
  iterate 4
   (try rw[Z0]);(try simp(disch:=first|omega|rfl|assumption)only[↓Yaa,Yab,Nae,Naa,rA,rB,rC,rD,reduceIte,unP,rE,g0,g3,kB,kk,kL,hln])
  subst hR;exact⟨nofun,_,rfl,by simp only[Yad,if_true,NaF]<;>rfl,rfl,ko⟩
 ·rw[if_neg h20]at hR;by_cases h3:k=3
  ·have b3:((k:Int)==Int.ofNat 3)=true:=(by subst h3;rfl);by_cases hN:1000<s.N
   ·rw[if_pos ⟨h3,hN⟩]at hR
    iterate 6
     (try rw[Z0]);(try simp(disch:=first|omega|rfl|assumption)only[↓Yaa,Yab,Nae,Naa,rA,rB,rC,rD,reduceIte,unP,rE,g0,g3,kB,kk,kL,hln,b3])
    subst hR;exact⟨nofun,_,rfl,by simp only[Yad,if_true,NaF]<;>rfl,rfl,ko⟩
   ·rw[if_neg (fun h=>hN h.2)]at hR
    iterate 6
     (try rw[Z0]);(try simp(disch:=first|omega|rfl|assumption)only[↓Yaa,Yab,Nae,Naa,rA,rB,rC,rD,reduceIte,unP,rE,g0,g3,kB,kk,kL,hln,b3])
    subst hR;exact⟨nofun,_,rfl,by simp only[Yad,if_true,NaF]<;>rfl,rfl,ko⟩
  ·have b3:((k:Int)==Int.ofNat 3)=false:=(by simp;omega);rw[if_neg (fun h=>h3 h.1)]at hR
   iterate 6
    (try rw[Z0]);(try simp(disch:=first|omega|rfl|assumption)only[↓Yaa,Yab,Nae,Naa,rA,rB,rC,rD,reduceIte,unP,rE,g0,g3,kB,kk,kL,hln,b3])
   subst hR;exact⟨nofun,_,rfl,by simp only[Yad,if_true,NaF]<;>rfl,rfl,ko⟩
end Go.Pe
