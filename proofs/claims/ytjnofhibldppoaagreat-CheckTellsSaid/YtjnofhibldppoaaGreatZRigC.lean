/-
 The document's tree: names, what an operation has, statements by themselves: walked. No condition.
-/
import Derived.Test.YtjnofhibldppoaaGreatZRigA
import Derived.Test.YtjnofhibldppoaaGreatZWordsS
set_option linter.unusedVariables false
set_option linter.unusedSimpArgs false
set_option maxHeartbeats 8000000
open Nat renaming reduceAdd → rB,reduceMul → rC,reduceLT → rD,reduceEqDiff → rE,reduceLeDiff → rF
namespace Go.Pe
open Go Go.Am Go.RowKit
theorem NiM{cfg:Cfg}(hc:CfgM cfg)(hxe:cfg.ext 67=none)(hx:cfg.ext 51=none):∀ (v fuel:Nat) (l:List Sm) (z:Bool) (st:St),Sms.size l+v+2≤fuel→Sms.size l<1000000000000000→v≤100 →
 ∃ r st',NaC cfg (fuel+1) 51 [slV z l.length (Sms.cs l),.i .i64 (v:Int)] st=some (r,st')∧r=prN (Sms.sz v l)
 |v,fuel,l,z,st,hfu,hn,hv=>by
   refine NaA (hc.fn _ _ (by kernel_rfl):cfg.fn 51=some m51) ?_;delta m51 Qa Qr Qf Ql Qt Qs Qk Qm Qh Qi Qo;have hlv:=NaD z l.length (Sms.cs l);have hsz:=Sms.len l;have hlle:=Sms.len_le l;obtain⟨R,hR⟩:∃ R,Sms.sz v l=R:=⟨_,rfl⟩;rw[hR];obtain⟨sto0,c0⟩:=st;simp only[Nai];by_cases h0:l.length=0
   ·have b0:((l.length:Int)==Int.ofNat 0)=true:=(by rw[h0];rfl);have hR0:R=(0,0):=by
     rw[←hR];cases v with
     |zero=>rw[Sms.sz]
     |succ v=>rw[Sms.sz,if_pos h0]
    subst hR0
    iterate 4
     (try rw[Z0]);(try simp(disch:=first|omega|rfl|assumption)only[↓Yaa,Yab,Nae,Naa,rB,rC,rD,rE,reduceIte,unP,rF,hlv,b0])
    exact⟨nofun,_,rfl,by simp only[Nay,Yad,if_true];rfl⟩
   have b00:(l.length:Int)≠Int.ofNat 0:=(by show(l.length:Int)≠0;omega);have b0:((l.length:Int)==Int.ofNat 0)=false:=by simpa using b00
   match v,hfu,hv,hR with
   |0,hfu,hv,hR =>
     rw[Sms.sz]at hR;subst hR
     iterate 4
      (try rw[Z0]);(try simp(disch:=first|omega|rfl|assumption)only[↓Yaa,Yab,Nae,Naa,rB,rC,rD,rE,reduceIte,unP,rF,hlv,b0])
     exact⟨nofun,_,rfl,by simp only[Nay,Yad,if_true];rfl⟩
   |v+1,hfu,hv,hR =>
     rw[Sms.sz,if_neg h0]at hR;obtain⟨W,hW⟩:∃ W,Sms.szW v (Sms.sz v) l (l.length,0)=W:=⟨_,rfl⟩;rw[hW]at hR;have hWb:=Nk9 (fun l=>(NfQ v l).1) (fun l=>(NfQ v l).2) l (l.length,0) (Nat.zero_le _);rw[hW]at hWb;simp only at hWb;obtain⟨q,rfl⟩:∃ q,fuel=q+1:=⟨fuel - 1,by omega⟩;have gE:∀ (l':List Ex) (z':Bool),Exs.size l'<Sms.size l→∀ (st:St) (key:Nat),Nam (Naj cfg (NaC cfg (q+1)) 67) false st key [slV z' l'.length (Exs.cs l'),.i .i64 (v:Int)]=some (.tup [.i .i64 ((Exs.sz v l').1:Int),.i .i64 ((Exs.sz v l').2:Int)],st):=fun l' z' he st key =>
      NaU (NbL NbI rfl) (Naq hxe NdM (fun _=>rfl) (NiL hc hxe v q l' z' { sto:=.leaf,cnt:=1 } Zaa Zaa Zaa)) rfl rfl
     have gS:∀ (l':List Sm) (z':Bool),Sms.size l'<Sms.size l→∀ (st:St) (key:Nat),Nam (Naj cfg (NaC cfg (q+1)) 51) false st key [slV z' l'.length (Sms.cs l'),.i .i64 (v:Int)]=some (.tup [.i .i64 ((Sms.sz v l').1:Int),.i .i64 ((Sms.sz v l').2:Int)],st):=fun l' z' he st key =>
      NaU (NbL NbI rfl) (Naq hx NdM (fun _=>rfl) (NiM hc hxe hx v q l' z' { sto:=.leaf,cnt:=1 } Zaa Zaa Zaa)) rfl rfl
     have hwv:IntKind.i64.wrap (((v+1:Nat):Int) - ((1:Nat):Int))=(v:Int):=by rw[NaG _ ⟨by omega,by omega⟩];omega
     iterate 4
      (try rw[Z0]);(try simp(disch:=first|omega|rfl|assumption)only[↓Yaa,Yab,Nae,Naa,rB,rC,rD,rE,reduceIte,unP,rF,hlv,b0])
     refine NaQ (fun x=>x.env.get 6=.i .i64 (W.1:Int)∧x.env.get 7=.i .i64 (W.2:Int)) ?_ ?_
     ·intro K1 hK1
      iterate 2
       (try rw[Z0]);(try simp(disch:=first|omega|rfl|assumption)only[↓Yaa,Yab,Nae,Naa,rB,rC,rD,rE,reduceIte,unP,rF])
      refine Z9 (k:=l.length - 0) (fun m x=>∃ (i:Nat) (n:Nat) (d:Nat),m=l.length - i∧x.env.get 0=slV z l.length (Sms.cs l)∧x.env.get 1=.i .i64 ((v+1:Nat):Int)∧x.env.get 6=.i .i64 (n:Int)∧x.env.get 7=.i .i64 (d:Int)∧x.env.get 8=.i .i64 (i:Int)∧(i≤l.length)∧(Sms.szW v (Sms.sz v) (l.drop i) (n,d)=W)) ?_ ?_ Zaa
      ·skip
       rintro m ⟨env,⟨sto,c⟩⟩ ⟨i,n,d,rfl,g0,g1,g6,g7,g8,hi,hob⟩;try simp only at g0 g1 g6 g7 g8
       by_cases hil:i<l.length
       ·rw[Nan hil]at g0 hlv;obtain⟨e,he⟩:∃ e,l[i]=e:=⟨_,rfl⟩;have hF:=fun st=>Ngd (st:=st) hil;simp only[he]at hF;have f5:=fun st=>(hF st).2.2.1;have f6:=fun st=>(hF st).2.2.2.1;have f7:=fun st=>(hF st).2.2.2.2;rw[List.drop_eq_getElem_cons hil,he,Sms.szW]at hob;simp only at hob;have hel:e.size≤Sms.size l:=Sms.size_mem (he▸List.getElem_mem hil);have hes:=Sm.size_eq e;have g1':=gE e.A e.za Zaa;have g2':=gS e.B e.zb Zaa;have g3':=gS e.E e.ze Zaa;obtain⟨a,ha⟩:∃ a,Exs.sz v e.A=a:=⟨_,rfl⟩;obtain⟨b,hb⟩:∃ b,Sms.sz v e.B=b:=⟨_,rfl⟩;obtain⟨w,hw⟩:∃ w,Sms.sz v e.E=w:=⟨_,rfl⟩;simp only[ha]at g1';simp only[hb]at g2';simp only[hw]at g3';rw[ha,hb,hw]at hob;have hge:=Nnv v (Sms.sz v) (l.drop (i+1)) (n+a.1+b.1+w.1,Nat.max (Nat.max (Nat.max d a.2) b.2) w.2);rw[hob]at hge;simp only at hge;have hw1:IntKind.i64.wrap ((n:Int)+(a.1:Int))=((n+a.1:Nat):Int):=(by rw[NaG _ ⟨by omega,by omega⟩];omega);have hw2:IntKind.i64.wrap (((n+a.1:Nat):Int)+(b.1:Int))=((n+a.1+b.1:Nat):Int):=(by rw[NaG _ ⟨by omega,by omega⟩];omega);have hw3:IntKind.i64.wrap (((n+a.1+b.1:Nat):Int)+(w.1:Int))=((n+a.1+b.1+w.1:Nat):Int):=(by rw[NaG _ ⟨by omega,by omega⟩];omega);have hm1:=NeC d a.2;have hm2:=NeC (Nat.max d a.2) b.2;have hm3:=NeC (Nat.max (Nat.max d a.2) b.2) w.2
        iterate 8
         (try rw[Z0]);(try simp(disch:=first|omega|rfl|assumption)only[↓Yaa,Yab,Nae,Naa,rB,rC,rD,rE,reduceIte,unP,rF,g0,g1,g6,g7,g8,hlv,f5,f6,f7,hsz,hwv,g1',g2',g3',hw1,hw2,hw3,hm1,hm2,hm3])
        refine⟨l.length - (i+1),by omega,i+1,n+a.1+b.1+w.1,Nat.max (Nat.max (Nat.max d a.2) b.2) w.2,?_⟩
        repeat' apply And.intro
        all_goals first|rfl|exact(Nan hil).symm|exact hob|omega|exact congrArg (fun x:Nat=>PV.i .i64 (x:Int)) Zaa
       ·have h0':l.drop i=[]:=List.drop_of_length_le Zaa;rw[h0',Sms.szW]at hob;subst hob
        iterate 6
         (try rw[Z0]);(try simp(disch:=first|omega|rfl|assumption)only[↓Yaa,Yab,Nae,Naa,rB,rC,rD,rE,reduceIte,unP,rF,g0,g1,g6,g7,g8,hlv])
        refine hK1 _ ⟨?_,?_⟩<;>first|with_reducible rfl|with_reducible assumption|(simp[Yad,g0,g1,g6,g7,g8]<;>omega)
      ·skip
       exact⟨0,l.length,0,rfl,Zac,Zac,Zac,Zac,Zac,Zad,(by rw[List.drop_zero];exact hW)⟩
     rintro⟨env,⟨sto,c⟩⟩ ⟨g6,g7⟩;try simp only at g6 g7
     have hwd:IntKind.i64.wrap ((W.2:Int)+((1:Nat):Int))=((W.2+1:Nat):Int):=(by rw[NaG _ ⟨by omega,by omega⟩];omega);subst hR
     iterate 2
      (try rw[Z0]);(try simp(disch:=first|omega|rfl|assumption)only[↓Yaa,Yab,Nae,Naa,rB,rC,rD,rE,reduceIte,unP,rF,g6,g7,hwd])
     exact⟨nofun,_,rfl,by simp only[Nay,mapO,Yad,if_true];rfl⟩
end Go.Pe
set_option maxHeartbeats 4000000
namespace Go.Pe
open Go Go.Am Go.RowKit
section
variable {cfg:Cfg}{fuel o:Nat}{st:St}
structure CfgR(cfg:Cfg):Prop extends CfgM cfg where
 rn:cfg.ext 52=some gNext
 r1:cfg.ext 30=none
 r2:cfg.ext 72=none
 r3:cfg.ext 71=none
 r4:cfg.ext 31=none
 r5:cfg.ext 73=none
 r6:cfg.ext 53=none
 r7:cfg.ext 54=none
 r8:cfg.ext 32=none
 r9:cfg.ext 29=none
 ra:cfg.ext 67=none
 rb:cfg.ext 51=none
 rc:cfg.ext 17=none
theorem Nku{s:List UInt8}{k n l p e f g:Int}{t:List UInt8}(h:gNext [.s s,.i .i64 ((0:Nat):Int)]=some (.tup [.agg [.i .u8 k,.s t,.i .i64 n,.i .i64 l,.i .i64 p,.i .i64 e],.agg [.i .i64 f,.i .i64 g]]))(hf:f=0):0≤p∧p≤e∧e≤s.length∧s.length≤16384:=by
 have hw:∀ k' s' n' l' a' e',some (NcE k' s' n' l' a' e')=some (.tup [.agg [.i .u8 k,.s t,.i .i64 n,.i .i64 l,.i .i64 p,.i .i64 e],.agg [.i .i64 f,.i .i64 g]])→p=a'∧e=e':=fun k' s' n' l' a' e' h=>by
  unfold NcE at h;simp only[Sj,PV.tup.injEq,List.cons.injEq,PV.agg.injEq,PV.i.injEq,true_and,and_true]at h;exact⟨h.1.2.2.2.2.1.symm,h.1.2.2.2.2.2.symm⟩
 have hq:∀ x y,x≠0→some (NbD x y)=some (.tup [.agg [.i .u8 k,.s t,.i .i64 n,.i .i64 l,.i .i64 p,.i .i64 e],.agg [.i .i64 f,.i .i64 g]])→False:=fun x y hx h=>by
  unfold NbD at h;simp only[Sj,PV.tup.injEq,List.cons.injEq,PV.agg.injEq,PV.i.injEq,true_and,and_true]at h;exact hx (h.2.1.trans hf)
 unfold gNext at h;simp only[]at h;split at h
 ·exact(hq _ _ Zaj h).elim
 rename_i hl;split at h
 ·exact(hq _ _ Zaj h).elim
 unfold Ndn at h;simp only[Int.toNat_natCast,Nat.zero_add,List.drop_zero]at h;have hp:=NcM false s;have he:=Nf2 (s.drop (NbV false s));rw[List.length_drop]at he;split at h
 ·obtain⟨h1,h2⟩:=hw _ _ _ _ _ _ h;omega
 split at h
 ·split at h
  ·obtain⟨h1,h2⟩:=hw _ _ _ _ _ _ h;omega
  ·exact(hq _ _ Zaj h).elim
 split at h
 ·obtain⟨h1,h2⟩:=hw _ _ _ _ _ _ h;omega
 split at h
 ·obtain⟨h1,h2⟩:=hw _ _ _ _ _ _ h;omega
 ·exact(hq _ _ Zaj h).elim
theorem Ngf(hf:cfg.fn 30=some m30)(hn:cfg.ext 52=some gNext){s:List UInt8} :
 ∃ r st',NaC cfg (fuel+1) 30 [.s s] st=some (r,st')∧r=.b (Nbb s):=by
 refine NaA hf ?_;delta m30 Qa Qr Qg Ql Qt Qn Qs Qk Qm Qh Qi Qu Qv;obtain⟨k,t,n,l,p,e,f,g,hg⟩:=NgZ s ((0:Nat):Int);have hN:Nbb s=(f==0&&(k==2&&(IntKind.i64.wrap (e - p)==(s.length:Int)))):=by
  unfold Nbb;rw[hg]
 rw[hN];have hc:∀ (st:St) (key:Nat),Nam (Naj cfg (NaC cfg fuel) 52) false st key [.s s,.i .i64 ((0:Nat):Int)]=some (.tup [.agg [.i .u8 k,.s t,.i .i64 n,.i .i64 l,.i .i64 p,.i .i64 e],.agg [.i .i64 f,.i .i64 g]],st):=fun st key =>
  Nal rfl (by rw[NaM hn];exact hg) rfl
 by_cases h1:f=0
 ·obtain⟨e1,e2,e3,e4⟩:=Nku hg h1;have hw:IntKind.i64.wrap (e - p)=e - p:=NaG _ ⟨by omega,by omega⟩;rw[hw];subst h1;by_cases h2:k=2
  ·subst h2;by_cases h3:p=0
   ·subst h3;by_cases h4:e=(s.length:Int)
    ·simp(disch:=first|omega|rfl|assumption)only[Nai,↓Z0,↓Xp,↓Xt,Xq,Xc,Nae,Naa,rB,rC,rD,rE,reduceIte,Xm,rF,Xa,Xn,unP,Nab,Nac,Nad,hc];refine⟨nofun,_,rfl,?_⟩;simp only[Nay,↓Z0,↓Xp,↓Xt,Xq,Xc,Nae,Naa,rB,rC,rD,rE,reduceIte];try simp[h4]
    ·simp(disch:=first|omega|rfl|assumption)only[Nai,↓Z0,↓Xp,↓Xt,Xq,Xc,Nae,Naa,rB,rC,rD,rE,reduceIte,Xm,rF,Xa,Xn,unP,Nab,Nac,Nad,hc];refine⟨nofun,_,rfl,?_⟩;simp only[Nay,↓Z0,↓Xp,↓Xt,Xq,Xc,Nae,Naa,rB,rC,rD,rE,reduceIte];try simp[h4]
   ·have h4:¬ (e - p=(s.length:Int)):=(by omega);simp(disch:=first|omega|rfl|assumption)only[Nai,↓Z0,↓Xp,↓Xt,Xq,Xc,Nae,Naa,rB,rC,rD,rE,reduceIte,Xm,rF,Xa,Xn,unP,Nab,Nac,Nad,hc];refine⟨nofun,_,rfl,?_⟩;simp only[Nay,↓Z0,↓Xp,↓Xt,Xq,Xc,Nae,Naa,rB,rC,rD,rE,reduceIte];try simp[h4]
  ·simp(disch:=first|omega|rfl|assumption)only[Nai,↓Z0,↓Xp,↓Xt,Xq,Xc,Nae,Naa,rB,rC,rD,rE,reduceIte,Xm,rF,Xa,Xn,unP,Nab,Nac,Nad,hc];refine⟨nofun,_,rfl,?_⟩;simp only[Nay,↓Z0,↓Xp,↓Xt,Xq,Xc,Nae,Naa,rB,rC,rD,rE,reduceIte];try simp[h2]
 ·simp(disch:=first|omega|rfl|assumption)only[Nai,↓Z0,↓Xp,↓Xt,Xq,Xc,Nae,Naa,rB,rC,rD,rE,reduceIte,Xm,rF,Xa,Xn,unP,Nab,Nac,Nad,hc];refine⟨nofun,_,rfl,?_⟩;simp only[Nay,↓Z0,↓Xp,↓Xt,Xq,Xc,Nae,Naa,rB,rC,rD,rE,reduceIte];try simp[h1]
theorem Nlv(hf:cfg.fn 72=some m72) :
 ∃ r st',NaC cfg (fuel+1) 72 [.i .u8 (o:Int)] st=some (r,st')∧r=.i .i64 (argsN o:Int):=by
 refine NaA hf ?_;delta m72 Qa Ql Qt Qs Qh Qi Qo argsN;have h:o=4∨o=17∨o=20∨o=23∨(o≠4∧o≠17∧o≠20∧o≠23):=by omega
 rcases h with rfl|rfl|rfl|rfl|⟨h1,h2,h3,h4⟩
 all_goals
  simp(disch:=first|omega|rfl|assumption)only[Nai,↓Z0,↓Xp,↓Xt,Xq,Xc,Nae,Naa,rB,rC,rD,rE,reduceIte,Xm,rF,Xa,Xn,unP,Nab,Nac,Nad];refine⟨nofun,_,rfl,?_⟩;simp only[Nay,↓Z0,↓Xp,↓Xt,Xq,Xc,Nae,Naa,rB,rC,rD,rE,reduceIte];try simp[*]
theorem Nma(hf:cfg.fn 71=some m71) :
 ∃ r st',NaC cfg (fuel+1) 71 [.i .u8 (o:Int)] st=some (r,st')∧r=.b (Ne3 o):=by
 refine NaA hf ?_;delta m71 Qa Ql Qt Qs Qm Qh Qi Ne3;have h:o=3∨o=4∨o=11∨o=21∨o=22∨(o≠3∧o≠4∧o≠11∧o≠21∧o≠22):=by omega
 rcases h with rfl|rfl|rfl|rfl|rfl|⟨h1,h2,h3,h4,h5⟩
 all_goals
  simp(disch:=first|omega|rfl|assumption)only[Nai,↓Z0,↓Xp,↓Xt,Xq,Xc,Nae,Naa,rB,rC,rD,rE,reduceIte,Xm,rF,Xa,Xn,unP,Nab,Nac,Nad];refine⟨nofun,_,rfl,?_⟩;simp only[Nay,↓Z0,↓Xp,↓Xt,Xq,Xc,Nae,Naa,rB,rC,rD,rE,reduceIte];try simp[*]
theorem NjR(hf:cfg.fn 31=some m31) :
 ∃ r st',NaC cfg (fuel+1) 31 [.i .u8 (o:Int)] st=some (r,st')∧r=.b (Nds o):=by
 refine NaA hf ?_;delta m31 Qa Ql Qt Qs Qm Qh Qi Nds;have h:o=3∨o=5∨o=8∨o=9∨(o≠3∧o≠5∧o≠8∧o≠9):=by omega
 rcases h with rfl|rfl|rfl|rfl|⟨h1,h2,h3,h4⟩
 all_goals
  simp(disch:=first|omega|rfl|assumption)only[Nai,↓Z0,↓Xp,↓Xt,Xq,Xc,Nae,Naa,rB,rC,rD,rE,reduceIte,Xm,rF,Xa,Xn,unP,Nab,Nac,Nad];refine⟨nofun,_,rfl,?_⟩;simp only[Nay,↓Z0,↓Xp,↓Xt,Xq,Xc,Nae,Naa,rB,rC,rD,rE,reduceIte];try simp[*]
end
end Go.Pe
