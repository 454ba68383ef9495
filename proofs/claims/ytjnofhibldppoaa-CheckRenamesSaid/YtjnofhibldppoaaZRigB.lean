/-
 The document's tree: how many statements, how deep: walked. No condition.
-/
import Derived.Test.YtjnofhibldppoaaZRigA
set_option linter.unusedVariables false
set_option linter.unusedSimpArgs false
set_option maxHeartbeats 8000000
open Nat renaming reduceAdd → rB,reduceMul → rC,reduceLT → rD,reduceEqDiff → rE,reduceLeDiff → rF
namespace Go.Pe
open Go Go.Am Go.RowKit
theorem Niz{cfg:Cfg}(hc:CfgM cfg)(hxe:cfg.ext 58=none)(hx:cfg.ext 40=none):∀ (v fuel:Nat) (l:List Sm) (z:Bool) (st:St),Sms.size l+v+2≤fuel→Sms.size l<1000000000000000→v≤100 →
 ∃ r st',Nay cfg (fuel+1) 40 [slV z l.length (Sms.cs l),.i .i64 (v:Int)] st=some (r,st')∧r=prN (Sms.sz v l)
 |v,fuel,l,z,st,hfu,hn,hv=>by
   refine Nax (hc.fn _ _ (by kernel_rfl):cfg.fn 40=some m40) ?_;delta m40 Qa Qr Qf Ql Qt Qs Qk Qm Qh Qi Qo;have hlv:=NaF z l.length (Sms.cs l);have hsz:=Sms.len l;have hlle:=Sms.len_le l;obtain⟨R,hR⟩:∃ R,Sms.sz v l=R:=⟨_,rfl⟩;rw[hR];obtain⟨sto0,c0⟩:=st;simp only[Naj];by_cases h0:l.length=0
   ·have b0:((l.length:Int)==Int.ofNat 0)=true:=(by rw[h0];rfl);have hR0:R=(0,0):=by
     rw[←hR];cases v with
     |zero=>rw[Sms.sz]
     |succ v=>rw[Sms.sz,if_pos h0]
    subst hR0
    iterate 4
     (try rw[Z0]);(try simp(disch:=first|omega|rfl|assumption)only[↓Yaa,Yab,Nae,Naa,rB,rC,rD,rE,reduceIte,unP,rF,hlv,b0])
    exact⟨nofun,_,rfl,by simp only[Nau,Yad,if_true];rfl⟩
   have b00:(l.length:Int)≠Int.ofNat 0:=(by show(l.length:Int)≠0;omega);have b0:((l.length:Int)==Int.ofNat 0)=false:=by simpa using b00
   match v,hfu,hv,hR with
   |0,hfu,hv,hR =>
     rw[Sms.sz]at hR;subst hR
     iterate 4
      (try rw[Z0]);(try simp(disch:=first|omega|rfl|assumption)only[↓Yaa,Yab,Nae,Naa,rB,rC,rD,rE,reduceIte,unP,rF,hlv,b0])
     exact⟨nofun,_,rfl,by simp only[Nau,Yad,if_true];rfl⟩
   |v+1,hfu,hv,hR =>
     rw[Sms.sz,if_neg h0]at hR;obtain⟨W,hW⟩:∃ W,Sms.szW v (Sms.sz v) l (l.length,0)=W:=⟨_,rfl⟩;rw[hW]at hR;have hWb:=NkU (fun l=>(NfI v l).1) (fun l=>(NfI v l).2) l (l.length,0) (Nat.zero_le _);rw[hW]at hWb;simp only at hWb;obtain⟨q,rfl⟩:∃ q,fuel=q+1:=⟨fuel - 1,by omega⟩;have gE:∀ (l':List Ex) (z':Bool),Exs.size l'<Sms.size l→∀ (st:St) (key:Nat),Nam (Nak cfg (Nay cfg (q+1)) 58) false st key [slV z' l'.length (Exs.cs l'),.i .i64 (v:Int)]=some (.tup [.i .i64 ((Exs.sz v l').1:Int),.i .i64 ((Exs.sz v l').2:Int)],st):=fun l' z' he st key =>
      NaH (NbY NbI rfl) (Nar hxe NdI (fun _=>rfl) (Niy hc hxe v q l' z' { sto:=.leaf,cnt:=1 } Zaa Zaa Zaa)) rfl rfl
     have gS:∀ (l':List Sm) (z':Bool),Sms.size l'<Sms.size l→∀ (st:St) (key:Nat),Nam (Nak cfg (Nay cfg (q+1)) 40) false st key [slV z' l'.length (Sms.cs l'),.i .i64 (v:Int)]=some (.tup [.i .i64 ((Sms.sz v l').1:Int),.i .i64 ((Sms.sz v l').2:Int)],st):=fun l' z' he st key =>
      NaH (NbY NbI rfl) (Nar hx NdI (fun _=>rfl) (Niz hc hxe hx v q l' z' { sto:=.leaf,cnt:=1 } Zaa Zaa Zaa)) rfl rfl
     have hwv:IntKind.i64.wrap (((v+1:Nat):Int) - ((1:Nat):Int))=(v:Int):=by rw[NaD _ ⟨by omega,by omega⟩];omega
     iterate 4
      (try rw[Z0]);(try simp(disch:=first|omega|rfl|assumption)only[↓Yaa,Yab,Nae,Naa,rB,rC,rD,rE,reduceIte,unP,rF,hlv,b0])
     refine NaT (fun x=>x.env.get 6=.i .i64 (W.1:Int)∧x.env.get 7=.i .i64 (W.2:Int)) ?_ ?_
     ·intro K1 hK1
      iterate 2
       (try rw[Z0]);(try simp(disch:=first|omega|rfl|assumption)only[↓Yaa,Yab,Nae,Naa,rB,rC,rD,rE,reduceIte,unP,rF])
      refine Z9 (k:=l.length - 0) (fun m x=>∃ (i:Nat) (n:Nat) (d:Nat),m=l.length - i∧x.env.get 0=slV z l.length (Sms.cs l)∧x.env.get 1=.i .i64 ((v+1:Nat):Int)∧x.env.get 6=.i .i64 (n:Int)∧x.env.get 7=.i .i64 (d:Int)∧x.env.get 8=.i .i64 (i:Int)∧(i≤l.length)∧(Sms.szW v (Sms.sz v) (l.drop i) (n,d)=W)) ?_ ?_ Zaa
      ·skip
       rintro m ⟨env,⟨sto,c⟩⟩ ⟨i,n,d,rfl,g0,g1,g6,g7,g8,hi,hob⟩;try simp only at g0 g1 g6 g7 g8
       by_cases hil:i<l.length
       ·rw[Nas hil]at g0 hlv;obtain⟨e,he⟩:∃ e,l[i]=e:=⟨_,rfl⟩;have hF:=fun st=>Nf3 (st:=st) hil;simp only[he]at hF;have f5:=fun st=>(hF st).2.2.1;have f6:=fun st=>(hF st).2.2.2.1;have f7:=fun st=>(hF st).2.2.2.2;rw[List.drop_eq_getElem_cons hil,he,Sms.szW]at hob;simp only at hob;have hel:e.size≤Sms.size l:=Sms.size_mem (he▸List.getElem_mem hil);have hes:=Sm.size_eq e;have g1':=gE e.A e.za Zaa;have g2':=gS e.B e.zb Zaa;have g3':=gS e.E e.ze Zaa;obtain⟨a,ha⟩:∃ a,Exs.sz v e.A=a:=⟨_,rfl⟩;obtain⟨b,hb⟩:∃ b,Sms.sz v e.B=b:=⟨_,rfl⟩;obtain⟨w,hw⟩:∃ w,Sms.sz v e.E=w:=⟨_,rfl⟩;simp only[ha]at g1';simp only[hb]at g2';simp only[hw]at g3';rw[ha,hb,hw]at hob;have hge:=NmY v (Sms.sz v) (l.drop (i+1)) (n+a.1+b.1+w.1,Nat.max (Nat.max (Nat.max d a.2) b.2) w.2);rw[hob]at hge;simp only at hge;have hw1:IntKind.i64.wrap ((n:Int)+(a.1:Int))=((n+a.1:Nat):Int):=(by rw[NaD _ ⟨by omega,by omega⟩];omega);have hw2:IntKind.i64.wrap (((n+a.1:Nat):Int)+(b.1:Int))=((n+a.1+b.1:Nat):Int):=(by rw[NaD _ ⟨by omega,by omega⟩];omega);have hw3:IntKind.i64.wrap (((n+a.1+b.1:Nat):Int)+(w.1:Int))=((n+a.1+b.1+w.1:Nat):Int):=(by rw[NaD _ ⟨by omega,by omega⟩];omega);have hm1:=Nev d a.2;have hm2:=Nev (Nat.max d a.2) b.2;have hm3:=Nev (Nat.max (Nat.max d a.2) b.2) w.2
        iterate 8
         (try rw[Z0]);(try simp(disch:=first|omega|rfl|assumption)only[↓Yaa,Yab,Nae,Naa,rB,rC,rD,rE,reduceIte,unP,rF,g0,g1,g6,g7,g8,hlv,f5,f6,f7,hsz,hwv,g1',g2',g3',hw1,hw2,hw3,hm1,hm2,hm3])
        refine⟨l.length - (i+1),by omega,i+1,n+a.1+b.1+w.1,Nat.max (Nat.max (Nat.max d a.2) b.2) w.2,?_⟩
        repeat' apply And.intro
        all_goals first|rfl|exact(Nas hil).symm|exact hob|omega|exact congrArg (fun x:Nat=>PV.i .i64 (x:Int)) Zaa
       ·have h0':l.drop i=[]:=List.drop_of_length_le Zaa;rw[h0',Sms.szW]at hob;subst hob
        iterate 6
         (try rw[Z0]);(try simp(disch:=first|omega|rfl|assumption)only[↓Yaa,Yab,Nae,Naa,rB,rC,rD,rE,reduceIte,unP,rF,g0,g1,g6,g7,g8,hlv])
        refine hK1 _ ⟨?_,?_⟩<;>first|with_reducible rfl|with_reducible assumption|(simp[Yad,g0,g1,g6,g7,g8]<;>omega)
      ·skip
       exact⟨0,l.length,0,rfl,Zad,Zad,Zad,Zad,Zad,Zac,(by rw[List.drop_zero];exact hW)⟩
     rintro⟨env,⟨sto,c⟩⟩ ⟨g6,g7⟩;try simp only at g6 g7
     have hwd:IntKind.i64.wrap ((W.2:Int)+((1:Nat):Int))=((W.2+1:Nat):Int):=(by rw[NaD _ ⟨by omega,by omega⟩];omega);subst hR
     iterate 2
      (try rw[Z0]);(try simp(disch:=first|omega|rfl|assumption)only[↓Yaa,Yab,Nae,Naa,rB,rC,rD,rE,reduceIte,unP,rF,g6,g7,hwd])
     exact⟨nofun,_,rfl,by simp only[Nau,mapO,Yad,if_true];rfl⟩
end Go.Pe
