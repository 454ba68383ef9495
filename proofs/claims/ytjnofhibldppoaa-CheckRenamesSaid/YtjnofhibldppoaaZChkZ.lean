/-
 Trees: how long a list of statements may run (check's count). No condition.
-/
import Derived.Test.YtjnofhibldppoaaZChkX
set_option linter.unusedVariables false
set_option linter.unusedSimpArgs false
set_option maxHeartbeats 8000000
open Nat renaming reduceAdd → rB,reduceMul → rC,reduceLT → rD,reduceEqDiff → rE,reduceLeDiff → rF
namespace Go.Pe
open Go Go.Am Go.RowKit
def Ndp(p:Pg):Bool:=!(NhG true p 0).2
theorem Nmj{cfg:Cfg}(hc:CfgV cfg){fuel:Nat}{p:Pg}{st:St}(hfu:Tds.size p.T+p.D.length+30≤fuel)(hn:Tds.size p.T+p.D.length<1000000000000000) :
 ∃ r st',Nay cfg (fuel+2) 22 [.agg (Pg.cs p)] st=some (r,st')∧(r=.b (Ndp p)∧(∀ j,j<st.cnt→st'.get j=st.get j)∧st.cnt≤st'.cnt):=by
 refine Nax (hc.fn _ _ (by kernel_rfl):cfg.fn 22=some m22) ?_;delta m22 Ql Qt Qm Qi Qw Pg.cs;simp only[Naj]
 iterate 3
  (try rw[Z0]);(try simp(disch:=first|omega|rfl|assumption)only[↓Yaa,Yab,Nae,Naa,rB,rC,rD,rE,reduceIte,unP,rF,Nag,Naf,hc.y4])
 refine Nd0 (Nje hc (p:=p) (ask:=true) (b0:=false) (n:=0) (k:=st.cnt+24) hfu (by rw[Yaf];rfl) Zai Zaa) ?_;rintro r ⟨sto',c'⟩ ⟨hr,-,kp⟩;have h1:=kp.c;simp only[Naz]at h1;refine⟨nofun,[r],rfl,by simp only[Nau];exact hr,fun j hj=>?_,by simp only;omega⟩;rw[kp.g j Zaa Zai];simp(disch:=omega)only[NaG,NaN]
end Go.Pe
set_option maxHeartbeats 8000000
namespace Go.Pe
open Go Go.Am Go.RowKit
def mnI(a b:Int):Int:=if b<a then b else a
def NpT(k o:Nat)(n q t:Int):Int :=
 if k=3 then IntKind.i64.wrap (t+IntKind.i64.wrap (2+IntKind.i64.wrap (mnI n 1001 * IntKind.i64.wrap (3+q))))
 else if k=4 then IntKind.i64.wrap (t+IntKind.i64.wrap (2+q))
 else if o=16 then IntKind.i64.wrap (t+IntKind.i64.wrap (3+q))
 else IntKind.i64.wrap (t+1)
mutual
def Sm.runT:Sm→Int→Int
 |.mk k o j i n za a zb b ze e r,t=>mnI (NpT k.toNat o.toNat n (IntKind.i64.wrap (Sms.runT b 0+Sms.runT e 0)) t) 1000000000
def Sms.runT:List Sm→Int→Int
 |[],t=>t
 |s::r,t=>Sms.runT r (Sm.runT s t)
end
theorem Sm.runT_eq(s:Sm)(t:Int):s.runT t=mnI (NpT s.K.toNat s.O.toNat s.N (IntKind.i64.wrap (Sms.runT s.B 0+Sms.runT s.E 0)) t) 1000000000:=by
 cases s;rw[Sm.runT];rfl
theorem Ne4(a b:Int):Nk5 (.i .i64 a) [.i .i64 b]=some (.i .i64 (mnI a b)):=by
 simp[Nk5,mnI]
theorem NbI{st:St}{z:Bool}{m:Nat}{cs:List PV}:Go.Pe.deep st 12 (slV z m cs)=some (slV z m cs):=by
 unfold slV;split<;>rfl
theorem NbS{z:Bool}{m:Nat}{cs:List PV}:NaC [slV z m cs]=([slV z m cs],{ sto:=.leaf,cnt:=1 }):=by
 unfold slV;split<;>rfl
theorem Nn4{cfg:Cfg}(hc:CfgV cfg)(hx:cfg.ext 25=none):∀ (fuel:Nat) (l:List Sm) (z:Bool) (st:St),Sms.size l+2≤fuel→Sms.size l<1000000000000000 →
 ∃ r st',Nay cfg (fuel+1) 25 [slV z l.length (Sms.cs l)] st=some (r,st')∧r=.i .i64 (Sms.runT l 0):=by
 intro fuel
 induction fuel with
 |zero=>intro l z st h;omega
 |succ q ih =>
   intro l z st hfu hn;refine Nax (hc.fn _ _ (by kernel_rfl):cfg.fn 25=some m25) ?_;delta m25 Qa Qr Qg Ql Qt Qn Qk Qm Qi Qo;have hll:=Sms.len_le l;have hlv:=NaF z l.length (Sms.cs l);simp only[Naj]
   iterate 2
    (try rw[Z0]);(try simp(disch:=first|omega|rfl|assumption)only[↓Yaa,Yab,Nae,Naa,rB,rC,rD,rE,reduceIte,unP,rF,hlv])
   refine Za (fun x=>x.env.get 3=.i .i64 (Sms.runT l 0)) ?_ ?_
   ·skip
    iterate 2
     (try rw[Z0]);(try simp(disch:=first|omega|rfl|assumption)only[↓Yaa,Yab,Nae,Naa,rB,rC,rD,rE,reduceIte,unP,rF,hlv])
    refine Z9 (k:=l.length - 0) (fun m x=>∃ (i:Nat) (t:Int),m=l.length - i∧i≤l.length∧Sms.runT (l.drop i) t=Sms.runT l 0∧x.env.get 3=.i .i64 t∧x.env.get 7=slV z l.length (Sms.cs l)∧x.env.get 8=.i .i64 (l.length:Int)∧x.env.get 9=.i .i64 (i:Int)) ?_ ?_ Zaa
    ·rintro m ⟨env,⟨sto,c⟩⟩ ⟨i,t,rfl,hi,hob,g3,g7,g8,g9⟩;simp only at g3 g7 g8 g9;by_cases hil:i<l.length
     ·rw[Nas hil]at g7;have hdr:=List.drop_eq_getElem_cons hil;obtain⟨e,he⟩:∃ e,l[i]=e:=⟨_,rfl⟩;have hld:=fun st=>NeZ (st:=st) hil;simp only[he]at hld;rw[he]at hdr;rw[hdr,Sms.runT,Sm.runT_eq]at hob;have hsz:=Sms.len l;have hel:e.size≤Sms.size l:=Sms.size_mem (he▸List.getElem_mem hil);have hes:=Sm.size_eq e;have gB:=Nar hx (NbS (z:=e.zb)) (fun _=>rfl) (ih e.B e.zb { sto:=.leaf,cnt:=1 } Zaa Zaa);have gE:=Nar hx (NbS (z:=e.ze)) (fun _=>rfl) (ih e.E e.ze { sto:=.leaf,cnt:=1 } Zaa Zaa)
      iterate 4
       (try rw[Z0]);(try simp(disch:=first|omega|rfl|assumption)only[↓Yaa,Yab,Nae,Naa,rB,rC,rD,rE,reduceIte,unP,rF,g3,g7,g8,g9,hld,hsz,Naf,Nag])
      obtain⟨w,hw⟩:∃ w,IntKind.i64.wrap (Sms.runT e.B 0+Sms.runT e.E 0)=w:=⟨_,rfl⟩;rw[hw]at hob;refine Za (fun x=>∃ K:Nat,x.env.get 3=.i .i64 t∧x.env.get 5=.ptr K 0∧x.env.get 6=.i .i64 w∧x.env.get 7=.fsl l.length (Sms.cs l)∧x.env.get 8=.i .i64 (l.length:Int)∧x.env.get 9=.i .i64 (i:Int)∧x.st.get K=some (.cells [.i .u8 (e.K.toNat:Int),.i .u8 (e.O.toNat:Int),.s e.J,.s e.I,.i .i64 e.N,slV e.za e.A.length (Exs.cs e.A),slV e.zb e.B.length (Sms.cs e.B),slV e.ze e.E.length (Sms.cs e.E),.i .i64 e.R] false)) ?_ ?_
      ·simp(maxSteps:=300000) (disch:=first|omega|rfl|assumption)only[↓Yaa,Yac,Nae,Naa,rB,rC,rD,rE,reduceIte,unP,Xm,rF,g3,g7,g8,g9,Nag,Naf];refine NbJ (NaR NbI) gB rfl rfl ?_;simp(maxSteps:=300000) (disch:=first|omega|rfl|assumption)only[↓Yaa,Yac,Nae,Naa,rB,rC,rD,rE,reduceIte,unP,Xm,rF,g3,g7,g8,g9,Nag,Naf];refine NbJ (NaR NbI) gE rfl rfl ?_;simp(maxSteps:=300000) (disch:=first|omega|rfl|assumption)only[↓Yaa,Yac,Nae,Naa,rB,rC,rD,rE,reduceIte,unP,Xm,rF,g3,g7,g8,g9,Nag,Naf,hw];exact⟨c+24,rfl,by rw[Yaf]⟩
      clear g3 g7 g8 g9;rintro⟨env,⟨sto,c2⟩⟩ ⟨K,g3,g5,g6,g7,g8,g9,ke⟩;simp only at g3 g5 g6 g7 g8 g9;replace ke:∀ n',St.get ⟨sto,n'⟩ K=_:=fun _=>ke;refine Za (fun x=>x.env.get 3=.i .i64 (NpT e.K.toNat e.O.toNat e.N w t)∧x.env.get 7=.fsl l.length (Sms.cs l)∧x.env.get 8=.i .i64 (l.length:Int)∧x.env.get 9=.i .i64 (i:Int)) ?_ ?_
      ·obtain⟨k,hk⟩:∃ k,e.K.toNat=k:=⟨_,rfl⟩;obtain⟨o,ho⟩:∃ o,e.O.toNat=o:=⟨_,rfl⟩;rw[hk,ho]at ke ⊢;by_cases h3:k=3
       ·have b3:((k:Int)==Int.ofNat 3)=true:=(by subst h3;rfl);rw[NpT,if_pos h3]
        iterate 3
         (try rw[Z0]);(try simp(disch:=first|omega|rfl|assumption)only[↓Yaa,Yab,Nae,Naa,rB,rC,rD,rE,reduceIte,unP,rF,g3,g5,g6,g7,g8,g9,ke,b3,Ne4])
        rfl
       ·have b3:((k:Int)==Int.ofNat 3)=false:=(by simp;omega);rw[NpT,if_neg h3];by_cases h4:k=4
        ·have b4:((k:Int)==Int.ofNat 4)=true:=(by subst h4;rfl);rw[if_pos h4]
         iterate 5
          (try rw[Z0]);(try simp(disch:=first|omega|rfl|assumption)only[↓Yaa,Yab,Nae,Naa,rB,rC,rD,rE,reduceIte,unP,rF,g3,g5,g6,g7,g8,g9,ke,b3,b4])
         rfl
        ·have b4:((k:Int)==Int.ofNat 4)=false:=(by simp;omega);rw[if_neg h4];by_cases h5:o=16
         ·have b5:((o:Int)==Int.ofNat 16)=true:=(by subst h5;rfl);rw[if_pos h5]
          iterate 7
           (try rw[Z0]);(try simp(disch:=first|omega|rfl|assumption)only[↓Yaa,Yab,Nae,Naa,rB,rC,rD,rE,reduceIte,unP,rF,g3,g5,g6,g7,g8,g9,ke,b3,b4,b5])
          rfl
         ·have b5:((o:Int)==Int.ofNat 16)=false:=(by simp;omega);rw[if_neg h5]
          iterate 7
           (try rw[Z0]);(try simp(disch:=first|omega|rfl|assumption)only[↓Yaa,Yab,Nae,Naa,rB,rC,rD,rE,reduceIte,unP,rF,g3,g5,g6,g7,g8,g9,ke,b3,b4,b5])
          rfl
      clear g3 g5 g6 g7 g8 g9 ke;rintro⟨env,⟨sto,c3⟩⟩ ⟨g3,g7,g8,g9⟩;simp only at g3 g7 g8 g9
      iterate 2
       (try rw[Z0]);(try simp(disch:=first|omega|rfl|assumption)only[↓Yaa,Yab,Nae,Naa,rB,rC,rD,rE,reduceIte,unP,rF,g3,g7,g8,g9,Ne4])
      exact⟨l.length - (i+1),by omega,i+1,_,rfl,by omega,hob,rfl,(Nas hil).symm,rfl⟩
     ·have h0:l.drop i=[]:=List.drop_of_length_le Zaa;rw[h0,Sms.runT]at hob
      iterate 3
       (try rw[Z0]);(try simp(disch:=first|omega|rfl|assumption)only[↓Yaa,Yab,Nae,Naa,rB,rC,rD,rE,reduceIte,unP,rF,g3,g7,g8,g9])
      rw[←hob]
    ·exact⟨0,0,rfl,by omega,by rw[List.drop_zero],by simp[Yad],by simp[Yad],by simp[Yad],by simp[Yad]⟩
   rintro⟨env,⟨sto,c⟩⟩ g3;simp only at g3
   iterate 2
    (try rw[Z0]);(try simp(disch:=first|omega|rfl|assumption)only[↓Yaa,Yab,Nae,Naa,rB,rC,rD,rE,reduceIte,unP,rF,g3])
   exact⟨nofun,_,rfl,by simp only[Yad,if_true,Nau]⟩
end Go.Pe
