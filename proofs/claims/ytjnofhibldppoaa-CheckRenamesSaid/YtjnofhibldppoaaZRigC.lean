/-
 The document's tree: names, what an operation has, statements by themselves: walked. No condition.
-/
import Derived.Test.YtjnofhibldppoaaZRigB
import Derived.Test.YtjnofhibldppoaaZWordsS
set_option linter.unusedVariables false
set_option linter.unusedSimpArgs false
set_option maxHeartbeats 4000000
open Nat renaming reduceAdd → rB,reduceMul → rC,reduceLT → rD,reduceEqDiff → rE,reduceLeDiff → rF
namespace Go.Pe
open Go Go.Am Go.RowKit
section
variable {cfg:Cfg}{fuel o:Nat}{st:St}
structure CfgR(cfg:Cfg):Prop extends CfgM cfg where
 rn:cfg.ext 41=some gNext
 r1:cfg.ext 31=none
 r2:cfg.ext 28=none
 r3:cfg.ext 29=none
 r4:cfg.ext 32=none
 r5:cfg.ext 62=none
 r6:cfg.ext 42=none
 r7:cfg.ext 43=none
 r8:cfg.ext 33=none
 r9:cfg.ext 30=none
 ra:cfg.ext 58=none
 rb:cfg.ext 40=none
 rc:cfg.ext 18=none
theorem Nki{s:List UInt8}{k n l p e f g:Int}{t:List UInt8}(h:gNext [.s s,.i .i64 ((0:Nat):Int)]=some (.tup [.agg [.i .u8 k,.s t,.i .i64 n,.i .i64 l,.i .i64 p,.i .i64 e],.agg [.i .i64 f,.i .i64 g]]))(hf:f=0):0≤p∧p≤e∧e≤s.length∧s.length≤16384:=by
 have hw:∀ k' s' n' l' a' e',some (Nck k' s' n' l' a' e')=some (.tup [.agg [.i .u8 k,.s t,.i .i64 n,.i .i64 l,.i .i64 p,.i .i64 e],.agg [.i .i64 f,.i .i64 g]])→p=a'∧e=e':=fun k' s' n' l' a' e' h=>by
  unfold Nck at h;simp only[Sj,PV.tup.injEq,List.cons.injEq,PV.agg.injEq,PV.i.injEq,true_and,and_true]at h;exact⟨h.1.2.2.2.2.1.symm,h.1.2.2.2.2.2.symm⟩
 have hq:∀ x y,x≠0→some (Nbm x y)=some (.tup [.agg [.i .u8 k,.s t,.i .i64 n,.i .i64 l,.i .i64 p,.i .i64 e],.agg [.i .i64 f,.i .i64 g]])→False:=fun x y hx h=>by
  unfold Nbm at h;simp only[Sj,PV.tup.injEq,List.cons.injEq,PV.agg.injEq,PV.i.injEq,true_and,and_true]at h;exact hx (h.2.1.trans hf)
 unfold gNext at h;simp only[]at h;split at h
 ·exact(hq _ _ Zaj h).elim
 rename_i hl;split at h
 ·exact(hq _ _ Zaj h).elim
 unfold Ndh at h;simp only[Int.toNat_natCast,Nat.zero_add,List.drop_zero]at h;have hp:=Nch false s;have he:=NeI (s.drop (pass false s));rw[List.length_drop]at he;split at h
 ·obtain⟨h1,h2⟩:=hw _ _ _ _ _ _ h;omega
 split at h
 ·split at h
  ·obtain⟨h1,h2⟩:=hw _ _ _ _ _ _ h;omega
  ·exact(hq _ _ Zaj h).elim
 split at h
 ·obtain⟨h1,h2⟩:=hw _ _ _ _ _ _ h;omega
 split at h
 ·obtain⟨h1,h2⟩:=hw _ _ _ _ _ _ h;omega
 ·exact(hq _ _ Zaj h).elim
theorem Nf6(hf:cfg.fn 31=some m31)(hn:cfg.ext 41=some gNext){s:List UInt8} :
 ∃ r st',Nay cfg (fuel+1) 31 [.s s] st=some (r,st')∧r=.b (NaJ s):=by
 refine Nax hf ?_;delta m31 Qa Qr Qg Ql Qt Qn Qs Qk Qm Qh Qi Qu Qv;obtain⟨k,t,n,l,p,e,f,g,hg⟩:=NgR s ((0:Nat):Int);have hN:NaJ s=(f==0&&(k==2&&(IntKind.i64.wrap (e - p)==(s.length:Int)))):=by
  unfold NaJ;rw[hg]
 rw[hN];have hc:∀ (st:St) (key:Nat),Nam (Nak cfg (Nay cfg fuel) 41) false st key [.s s,.i .i64 ((0:Nat):Int)]=some (.tup [.agg [.i .u8 k,.s t,.i .i64 n,.i .i64 l,.i .i64 p,.i .i64 e],.agg [.i .i64 f,.i .i64 g]],st):=fun st key =>
  Nal rfl (by rw[Nav hn];exact hg) rfl
 by_cases h1:f=0
 ·obtain⟨e1,e2,e3,e4⟩:=Nki hg h1;have hw:IntKind.i64.wrap (e - p)=e - p:=NaD _ ⟨by omega,by omega⟩;rw[hw];subst h1;by_cases h2:k=2
  ·subst h2;by_cases h3:p=0
   ·subst h3;by_cases h4:e=(s.length:Int)
    ·simp(disch:=first|omega|rfl|assumption)only[Naj,↓Z0,↓Xp,↓Xt,Xq,Xc,Nae,Naa,rB,rC,rD,rE,reduceIte,Xm,rF,Xa,Xn,unP,Nab,Nac,Nad,hc];refine⟨nofun,_,rfl,?_⟩;simp only[Nau,↓Z0,↓Xp,↓Xt,Xq,Xc,Nae,Naa,rB,rC,rD,rE,reduceIte];try simp[h4]
    ·simp(disch:=first|omega|rfl|assumption)only[Naj,↓Z0,↓Xp,↓Xt,Xq,Xc,Nae,Naa,rB,rC,rD,rE,reduceIte,Xm,rF,Xa,Xn,unP,Nab,Nac,Nad,hc];refine⟨nofun,_,rfl,?_⟩;simp only[Nau,↓Z0,↓Xp,↓Xt,Xq,Xc,Nae,Naa,rB,rC,rD,rE,reduceIte];try simp[h4]
   ·have h4:¬ (e - p=(s.length:Int)):=(by omega);simp(disch:=first|omega|rfl|assumption)only[Naj,↓Z0,↓Xp,↓Xt,Xq,Xc,Nae,Naa,rB,rC,rD,rE,reduceIte,Xm,rF,Xa,Xn,unP,Nab,Nac,Nad,hc];refine⟨nofun,_,rfl,?_⟩;simp only[Nau,↓Z0,↓Xp,↓Xt,Xq,Xc,Nae,Naa,rB,rC,rD,rE,reduceIte];try simp[h4]
  ·simp(disch:=first|omega|rfl|assumption)only[Naj,↓Z0,↓Xp,↓Xt,Xq,Xc,Nae,Naa,rB,rC,rD,rE,reduceIte,Xm,rF,Xa,Xn,unP,Nab,Nac,Nad,hc];refine⟨nofun,_,rfl,?_⟩;simp only[Nau,↓Z0,↓Xp,↓Xt,Xq,Xc,Nae,Naa,rB,rC,rD,rE,reduceIte];try simp[h2]
 ·simp(disch:=first|omega|rfl|assumption)only[Naj,↓Z0,↓Xp,↓Xt,Xq,Xc,Nae,Naa,rB,rC,rD,rE,reduceIte,Xm,rF,Xa,Xn,unP,Nab,Nac,Nad,hc];refine⟨nofun,_,rfl,?_⟩;simp only[Nau,↓Z0,↓Xp,↓Xt,Xq,Xc,Nae,Naa,rB,rC,rD,rE,reduceIte];try simp[h1]
theorem Nld(hf:cfg.fn 28=some m28) :
 ∃ r st',Nay cfg (fuel+1) 28 [.i .u8 (o:Int)] st=some (r,st')∧r=.i .i64 (argsN o:Int):=by
 refine Nax hf ?_;delta m28 Qa Ql Qt Qs Qh Qi Qo argsN;have h:o=4∨o=17∨o=20∨o=23∨(o≠4∧o≠17∧o≠20∧o≠23):=by omega
 rcases h with rfl|rfl|rfl|rfl|⟨h1,h2,h3,h4⟩
 all_goals
  simp(disch:=first|omega|rfl|assumption)only[Naj,↓Z0,↓Xp,↓Xt,Xq,Xc,Nae,Naa,rB,rC,rD,rE,reduceIte,Xm,rF,Xa,Xn,unP,Nab,Nac,Nad];refine⟨nofun,_,rfl,?_⟩;simp only[Nau,↓Z0,↓Xp,↓Xt,Xq,Xc,Nae,Naa,rB,rC,rD,rE,reduceIte];try simp[*]
theorem NlM(hf:cfg.fn 29=some m29) :
 ∃ r st',Nay cfg (fuel+1) 29 [.i .u8 (o:Int)] st=some (r,st')∧r=.b (NeW o):=by
 refine Nax hf ?_;delta m29 Qa Ql Qt Qs Qm Qh Qi NeW;have h:o=3∨o=4∨o=11∨o=21∨o=22∨(o≠3∧o≠4∧o≠11∧o≠21∧o≠22):=by omega
 rcases h with rfl|rfl|rfl|rfl|rfl|⟨h1,h2,h3,h4,h5⟩
 all_goals
  simp(disch:=first|omega|rfl|assumption)only[Naj,↓Z0,↓Xp,↓Xt,Xq,Xc,Nae,Naa,rB,rC,rD,rE,reduceIte,Xm,rF,Xa,Xn,unP,Nab,Nac,Nad];refine⟨nofun,_,rfl,?_⟩;simp only[Nau,↓Z0,↓Xp,↓Xt,Xq,Xc,Nae,Naa,rB,rC,rD,rE,reduceIte];try simp[*]
theorem NjG(hf:cfg.fn 32=some m32) :
 ∃ r st',Nay cfg (fuel+1) 32 [.i .u8 (o:Int)] st=some (r,st')∧r=.b (Ndl o):=by
 refine Nax hf ?_;delta m32 Qa Ql Qt Qs Qm Qh Qi Ndl;have h:o=3∨o=5∨o=8∨o=9∨(o≠3∧o≠5∧o≠8∧o≠9):=by omega
 rcases h with rfl|rfl|rfl|rfl|⟨h1,h2,h3,h4⟩
 all_goals
  simp(disch:=first|omega|rfl|assumption)only[Naj,↓Z0,↓Xp,↓Xt,Xq,Xc,Nae,Naa,rB,rC,rD,rE,reduceIte,Xm,rF,Xa,Xn,unP,Nab,Nac,Nad];refine⟨nofun,_,rfl,?_⟩;simp only[Nau,↓Z0,↓Xp,↓Xt,Xq,Xc,Nae,Naa,rB,rC,rD,rE,reduceIte];try simp[*]
end
end Go.Pe
