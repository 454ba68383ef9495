/-
 The document's tree: are statements right: walked. No condition.
-/
import Derived.Test.YtjnofhibldppoaaZRigD
import Derived.Test.YtjnofhibldppoaaZRigE
set_option linter.unusedVariables false
set_option linter.unusedSimpArgs false
set_option maxHeartbeats 8000000
open Nat renaming reduceAdd → rB,reduceMul → rC,reduceLT → rD,reduceEqDiff → rE,reduceLeDiff → rF
namespace Go.Pe
open Go Go.Am Go.RowKit
mutual
def Sm.rt:Sm→Bool
 |.mk k o j i n za a zb b ze e r=>(Na0 k.toNat o.toNat j i n a.length b.length e.length&&(Sms.rt b&&Sms.rt e))&&Exs.rt a
def Sms.rt:List Sm→Bool
 |[]=>true
 |s::r=>s.rt&&Sms.rt r
end
theorem Sm.rt_eq(s:Sm):s.rt=((s.sh&&(Sms.rt s.B&&Sms.rt s.E))&&Exs.rt s.A):=by
 cases s;rw[Sm.rt];rfl
theorem NjH{st:St}{k o n r:Int}{j i:List UInt8}{z1 z2 z3:Bool}{n1 n2 n3:Nat}{c1 c2 c3:List PV}{ik io l m:IntKind}:Go.Pe.deep st 12 (.agg [.i ik k,.i io o,.s j,.s i,.i l n,slV z1 n1 c1,slV z2 n2 c2,slV z3 n3 c3,.i m r])=some (.agg [.i ik k,.i io o,.s j,.s i,.i l n,slV z1 n1 c1,slV z2 n2 c2,slV z3 n3 c3,.i m r]):=by
 have q1:∀ k n,Go.Pe.deep st 11 (.i k n)=some (.i k n):=fun _ _=>rfl;have q2:∀ s,Go.Pe.deep st 11 (.s s)=some (.s s):=fun _=>rfl;have q3:∀ z n cs,Go.Pe.deep st 11 (slV z n cs)=some (slV z n cs):=fun z n cs=>NiB st 10 z n cs;show(mapO (Go.Pe.deep st 11) _).map PV.agg=_;simp only[mapO,q1,q2,q3,Option.map_some]
theorem Nkw{k o n r:Int}{j i:List UInt8}{z1 z2 z3:Bool}{n1 n2 n3:Nat}{c1 c2 c3:List PV}{ik io l m:IntKind}:NaC [.agg [.i ik k,.i io o,.s j,.s i,.i l n,slV z1 n1 c1,slV z2 n2 c2,slV z3 n3 c3,.i m r]]=([.agg [.i ik k,.i io o,.s j,.s i,.i l n,slV z1 n1 c1,slV z2 n2 c2,slV z3 n3 c3,.i m r]],{ sto:=.leaf,cnt:=1 }):=rfl
theorem NkT{cfg:Cfg}(hc:CfgR cfg):∀ (fuel:Nat) (l:List Sm) (z:Bool) (st:St),Sms.size l+30≤fuel→Sms.size l<1000000000000000 →
 ∃ r st',Nay cfg (fuel+1) 33 [slV z l.length (Sms.cs l)] st=some (r,st')∧r=.b (Sms.rt l):=by
 intro fuel
 induction fuel with
 |zero=>intro l z st h;omega
 |succ q ih =>
   intro l z st hfu hn;refine Nax (hc.fn _ _ (by kernel_rfl):cfg.fn 33=some m33) ?_;delta m33 Qa Qr Qf Ql Qt Qs Qk Qm Qh Qi Qv Qo;have hlv:=NaF z l.length (Sms.cs l);have hsz:=Sms.len l;have hlle:=Sms.len_le l;obtain⟨R,hR⟩:∃ R,Sms.rt l=R:=⟨_,rfl⟩;rw[hR];obtain⟨sto0,c0⟩:=st;simp only[Naj]
   iterate 3
    (try rw[Z0]);(try simp(maxSteps:=9^7)(disch:=first|omega|rfl|assumption)only[↓Yaa,Yab,Nae,Naa,rB,rC,rD,rE,reduceIte,unP,rF])
   refine Z9 (k:=l.length - 0) (fun m x=>∃ (i:Nat),m=l.length - i∧x.env.get 0=slV z l.length (Sms.cs l)∧x.env.get 3=.i .i64 (i:Int)∧(i≤l.length)∧(Sms.rt (l.drop i)=R)) ?_ ?_ Zaa
   ·skip
    rintro m ⟨env,⟨sto,c⟩⟩ ⟨i,rfl,g0,g3,hi,hob⟩;try simp only at g0 g3
    by_cases hil:i<l.length
    ·rw[Nas hil]at g0 hlv;obtain⟨s,he⟩:∃ s,l[i]=s:=⟨_,rfl⟩;have hld:=fun st=>NeZ (st:=st) hil;have hF:=fun st=>Nf3 (st:=st) hil;simp only[he]at hld hF;have f5:=fun st=>(hF st).2.2.1;have f6:=fun st=>(hF st).2.2.2.1;have f7:=fun st=>(hF st).2.2.2.2;rw[List.drop_eq_getElem_cons hil,he,Sms.rt,Sm.rt_eq]at hob;have hel:s.size≤Sms.size l:=Sms.size_mem (he▸List.getElem_mem hil);have hes:=Sm.size_eq s;have hlA:=Exs.len_le s.A;have hlB:=Sms.len_le s.B;have hlE:=Sms.len_le s.E;obtain⟨x1,h1⟩:∃ x,s.sh=x:=⟨_,rfl⟩;obtain⟨x2,h2⟩:∃ x,Sms.rt s.B=x:=⟨_,rfl⟩;obtain⟨x3,h3⟩:∃ x,Sms.rt s.E=x:=⟨_,rfl⟩;have gM:∀ (st:St) (key:Nat),Nam (Nak cfg (Nay cfg (q+1)) 42) false st key [.agg [.i .u8 (s.K.toNat:Int),.i .u8 (s.O.toNat:Int),.s s.J,.s s.I,.i .i64 s.N,slV s.za s.A.length (Exs.cs s.A),slV s.zb s.B.length (Sms.cs s.B),slV s.ze s.E.length (Sms.cs s.E),.i .i64 s.R]]=some (.b x1,st):=fun st key =>
      NaH (NaR NjH) (Nar hc.r6 Nkw (fun _=>rfl) (by
       have:=Nmo hc (fuel:=q) Zaa (k:=s.K.toNat) (o:=s.O.toNat) (j:=s.J) (i:=s.I) (n:=s.N) (r:=s.R) (NaF s.za s.A.length (Exs.cs s.A)) (NaF s.zb s.B.length (Sms.cs s.B)) (NaF s.ze s.E.length (Sms.cs s.E)) (Nag _ _ _) (Nag _ _ _) (Nag _ _ _) (Naf _ _ _) (Naf _ _ _) (Naf _ _ _) Zaa (st:={ sto:=.leaf,cnt:=1 });rw[show Na0 s.K.toNat s.O.toNat s.J s.I s.N s.A.length s.B.length s.E.length=s.sh from rfl,h1]at this;exact this)) rfl rfl
     have gB:∀ (st:St) (key:Nat),Nam (Nak cfg (Nay cfg (q+1)) 33) false st key [slV s.zb s.B.length (Sms.cs s.B)]=some (.b x2,st):=fun st key =>
      NaH (NaR NbI) (Nar hc.r8 NbS (fun _=>rfl) (by
       have:=ih s.B s.zb { sto:=.leaf,cnt:=1 } Zaa Zaa;rw[h2]at this;exact this)) rfl rfl
     have gE:∀ (st:St) (key:Nat),Nam (Nak cfg (Nay cfg (q+1)) 33) false st key [slV s.ze s.E.length (Sms.cs s.E)]=some (.b x3,st):=fun st key =>
      NaH (NaR NbI) (Nar hc.r8 NbS (fun _=>rfl) (by
       have:=ih s.E s.ze { sto:=.leaf,cnt:=1 } Zaa Zaa;rw[h3]at this;exact this)) rfl rfl
     rw[h1,h2,h3]at hob;cases x1 with
     |false =>
       simp only[Bool.false_and]at hob
       iterate 7
        (try rw[Z0]);(try simp(maxSteps:=9^7)(disch:=first|omega|rfl|assumption)only[↓Yaa,Yab,Nae,Naa,rB,rC,rD,rE,reduceIte,unP,rF,g0,g3,hlv,hld,hsz,gM,Bool.not_false])
       exact⟨nofun,_,rfl,by simp only[Nau,Yad,if_true];rw[←hob]⟩
     |true =>
     cases x2 with
     |false =>
       simp only[Bool.false_and,Bool.true_and]at hob
       iterate 7
        (try rw[Z0]);(try simp(maxSteps:=9^7)(disch:=first|omega|rfl|assumption)only[↓Yaa,Yab,Nae,Naa,rB,rC,rD,rE,reduceIte,unP,rF,g0,g3,hlv,hld,hsz,f6,gM,gB,Bool.not_false,Bool.not_true])
       exact⟨nofun,_,rfl,by simp only[Nau,Yad,if_true];rw[←hob]⟩
     |true =>
     cases x3 with
     |false =>
       simp only[Bool.false_and,Bool.true_and]at hob
       iterate 7
        (try rw[Z0]);(try simp(maxSteps:=9^7)(disch:=first|omega|rfl|assumption)only[↓Yaa,Yab,Nae,Naa,rB,rC,rD,rE,reduceIte,unP,rF,g0,g3,hlv,hld,hsz,f6,f7,gM,gB,gE,Bool.not_false,Bool.not_true])
       exact⟨nofun,_,rfl,by simp only[Nau,Yad,if_true];rw[←hob]⟩
     |true =>
     simp only[Bool.true_and]at hob
     iterate 5
      (try rw[Z0]);(try simp(maxSteps:=9^7)(disch:=first|omega|rfl|assumption)only[↓Yaa,Yab,Nae,Naa,rB,rC,rD,rE,reduceIte,unP,rF,g0,g3,hlv,hld,hsz,f6,f7,gM,gB,gE,Bool.not_true])
     refine NaL (fun x=>x.env.get 0=.fsl l.length (Sms.cs l)∧x.env.get 3=.i .i64 (i:Int)) ?_ ?_
     ·refine⟨?_,?_⟩<;>first|with_reducible rfl|with_reducible assumption|(simp[Yad,g0,g3]<;>omega)
     clear g0 g3;rintro⟨env,⟨sto,c⟩⟩ ⟨g0,g3⟩;try simp only at g0 g3
     iterate 2
      (try rw[Z0]);(try simp(maxSteps:=9^7)(disch:=first|omega|rfl|assumption)only[↓Yaa,Yab,Nae,Naa,rB,rC,rD,rE,reduceIte,unP,rF,g0,g3])
     obtain⟨rA,hrA⟩:∃ x,Exs.rt s.A=x:=⟨_,rfl⟩;rw[hrA]at hob;refine Z9 (k:=s.A.length - 0) (fun m x=>∃ (j:Nat),m=s.A.length - j∧x.env.get 0=.fsl l.length (Sms.cs l)∧x.env.get 3=.i .i64 (i:Int)∧x.env.get 4=.i .i64 (j:Int)∧(j≤s.A.length)∧(Exs.rt (s.A.drop j)=rA)) ?_ ?_ Zaa
     ·clear g0 g3;rintro m ⟨env,⟨sto,c⟩⟩ ⟨j,rfl,g0,g3,g4,hj,hoc⟩;try simp only at g0 g3 g4
      have hlA2:=NaF s.za s.A.length (Exs.cs s.A);by_cases hjl:j<s.A.length
      ·obtain⟨a,ha⟩:∃ a,s.A[j]=a:=⟨_,rfl⟩;have hle:=fun st=>NeY (st:=st) hjl;simp only[ha]at hle;have hsp:=fun z cs=>Nas (z:=z) (cs:=cs) hjl;have hszA:=Exs.len s.A;have lv2:Nd7 (.fsl s.A.length (Exs.cs s.A))=some (.i .i64 (s.A.length:Int)):=rfl;rw[List.drop_eq_getElem_cons hjl,ha,Exs.rt]at hoc;have hea:a.size≤Exs.size s.A:=Exs.size_mem (ha▸List.getElem_mem hjl);obtain⟨ra,hra⟩:∃ ra,a.rt=ra:=⟨_,rfl⟩;rw[hra]at hoc;have gX:∀ (st:St) (key:Nat),Nam (Nak cfg (Nay cfg (q+1)) 43) false st key [.agg [.i .u8 (a.K.toNat:Int),.s a.S,.i .i64 a.N,slV a.z a.L.length (Exs.cs a.L)]]=some (.b ra,st):=fun st key =>
        NaH (NaR (NgC rfl rfl rfl)) (Nar hc.r7 NgZ (fun _=>rfl) (by
         have:=Nlu hc q a { sto:=.leaf,cnt:=1 } Zaa Zaa;rw[hra]at this;exact this)) rfl rfl
       cases ra with
       |false =>
         rw[Bool.false_and]at hoc;rw[←hoc,Bool.false_and]at hob
         iterate 8
          (try rw[Z0]);(try simp(maxSteps:=9^7)(disch:=first|omega|rfl|assumption)only[↓Yaa,Yab,Nae,Naa,rB,rC,rD,rE,reduceIte,unP,rF,g0,g3,g4,hlv,f5,hsz,hsp,hlA2,lv2,hle,hszA,gX,Bool.not_false])
         exact⟨nofun,_,rfl,by simp only[Nau,Yad,if_true];rw[←hob]⟩
       |true =>
         rw[Bool.true_and]at hoc
         iterate 8
          (try rw[Z0]);(try simp(maxSteps:=9^7)(disch:=first|omega|rfl|assumption)only[↓Yaa,Yab,Nae,Naa,rB,rC,rD,rE,reduceIte,unP,rF,g0,g3,g4,hlv,f5,hsz,hsp,hlA2,lv2,hle,hszA,gX,Bool.not_true])
         exact⟨s.A.length - (j+1),by omega,j+1,rfl,rfl,by omega,hoc⟩
      ·have h0:s.A.drop j=[]:=List.drop_of_length_le Zaa;rw[h0,Exs.rt]at hoc;rw[←hoc,Bool.true_and]at hob
       iterate 8
        (try rw[Z0]);(try simp(maxSteps:=9^7)(disch:=first|omega|rfl|assumption)only[↓Yaa,Yab,Nae,Naa,rB,rC,rD,rE,reduceIte,unP,rF,g0,g3,g4,hlv,f5,hsz,hlA2])
       exact⟨l.length - (i+1),by omega,i+1,rfl,(Nas hil).symm,rfl,by omega,hob⟩
     ·skip
      refine⟨0,rfl,?_,?_,?_,Zac,(by rw[List.drop_zero];exact hrA)⟩<;>first|with_reducible rfl|with_reducible assumption|(simp[Yad,g0,g3]<;>omega)
    ·have h0:l.drop i=[]:=List.drop_of_length_le Zaa;rw[h0,Sms.rt]at hob
     iterate 6
      (try rw[Z0]);(try simp(maxSteps:=9^7)(disch:=first|omega|rfl|assumption)only[↓Yaa,Yab,Nae,Naa,rB,rC,rD,rE,reduceIte,unP,rF,g0,g3,hlv])
     exact⟨nofun,_,rfl,by simp only[Nau,Yad,if_true];rw[←hob]⟩
   ·skip
    exact⟨0,rfl,Zad,Zad,Zac,(by rw[List.drop_zero];exact hR)⟩
end Go.Pe
