/-
 Trees: names, expressions, statements, objects, each by itself, by the interpreter of plain data. No condition.
-/
import Derived.Test.YtjnofhibldppoaaZWordC0
import Derived.Test.YtjnofhibldppoaaZPrgA
import Derived.Test.YtjnofhibldppoaaZPeB
set_option linter.unusedVariables false
set_option linter.unusedSimpArgs false
set_option maxHeartbeats 4000000
open Nat renaming reduceAdd → rB,reduceMul → rC,reduceLT → rD,reduceEqDiff → rE,reduceLeDiff → rF
namespace Go.Pe
open Go Go.Am Go.RowKit
section
variable {cfg:Cfg}{fuel o:Nat}{st:St}
structure CfgC(cfg:Cfg):Prop where
 nx:cfg.ext 64=some gNext
 fn:∀ f m,NcA f tblL=some m→cfg.fn f=some m
theorem Nar{f:FuncId}(hx:cfg.ext f=none){args:List PV}{r:PV}(ho:NaC args=(args,{ sto:=.leaf,cnt:=1 }))(hc:∀ st,NaU st r=some r)(h:∃ r' st',Nay cfg fuel f args { sto:=.leaf,cnt:=1 }=some (r',st')∧r'=r):Nak cfg (Nay cfg fuel) f args=some r:=by
 obtain⟨r',st',h1,h2⟩:=h;exact Nfr hx ho ⟨r',st',h1,by rw[h2];exact hc st'⟩
theorem NgR(text:List UInt8)(at0:Int):∃ k s n l a e f g,gNext [.s text,.i .i64 at0]=some (.tup [.agg [.i .u8 k,.s s,.i .i64 n,.i .i64 l,.i .i64 a,.i .i64 e],.agg [.i .i64 f,.i .i64 g]]):=by
 have hw:∀ k s n l a e,∃ k' s' n' l' a' e' f g,some (Nck k s n l a e)=some (.tup [.agg [.i .u8 k',.s s',.i .i64 n',.i .i64 l',.i .i64 a',.i .i64 e'],.agg [.i .i64 f,.i .i64 g]]):=fun k s n l a e=>⟨k,s,n,l,a,e,0,0,rfl⟩;have hf:∀ x y,∃ k' s' n' l' a' e' f g,some (Nbm x y)=some (.tup [.agg [.i .u8 k',.s s',.i .i64 n',.i .i64 l',.i .i64 a',.i .i64 e'],.agg [.i .i64 f,.i .i64 g]]):=fun x y=>⟨0,[],0,0,0,0,x,y,rfl⟩;unfold gNext Ndh;simp only[]
 repeat' split
 all_goals first|exact hw _ _ _ _ _ _|exact hf _ _
theorem Ndx{callE:CallE}{n:Nat}{a b:MCode}{x:Now}{Q:MExit→Now→Prop}(h:∀ K:Now→Prop,(∀ x',WC cfg callE n b x' Q→K x')→WC cfg callE n a x (NhN Q K)):WC cfg callE n (.seq a b) x Q:=by
 rw[Z0];exact h _ fun _ h=>h
def NaJ(s:List UInt8):Bool:=match gNext [.s s,.i .i64 ((0:Nat):Int)]with
 |some (.tup [.agg [.i _ k,_,_,_,.i _ p,.i _ e],.agg [.i _ f,_]])=>f==0&&(k==2&&(IntKind.i64.wrap (e - p)==(s.length:Int)))
 |_=>false
theorem Nn8(hf:cfg.fn 46=some m46)(hn:cfg.ext 64=some gNext){s:List UInt8} :
 ∃ r st',Nay cfg (fuel+1) 46 [.s s] st=some (r,st')∧r=.b (NaJ s):=by
 refine Nax hf ?_;delta m46 Qa Qr Qg Ql Qt Qn Qs Qk Qm Qh Qi Qu Qv;obtain⟨k,t,n,l,p,e,f,g,hg⟩:=NgR s ((0:Nat):Int);have hN:NaJ s=(f==0&&(k==2&&(IntKind.i64.wrap (e - p)==(s.length:Int)))):=by
  unfold NaJ;rw[hg]
 rw[hN];have hc:∀ (st:St) (key:Nat),Nam (Nak cfg (Nay cfg fuel) 64) false st key [.s s,.i .i64 ((0:Nat):Int)]=some (.tup [.agg [.i .u8 k,.s t,.i .i64 n,.i .i64 l,.i .i64 p,.i .i64 e],.agg [.i .i64 f,.i .i64 g]],st):=fun st key =>
  Nal rfl (by rw[Nav hn];exact hg) rfl
 by_cases h1:f=0
 ·subst h1;by_cases h2:k=2
  ·subst h2;obtain⟨q,hq⟩:∃ q,IntKind.i64.wrap (e - p)=q:=⟨_,rfl⟩;rw[hq];simp(disch:=first|omega|rfl|assumption)only[Naj,↓Z0,↓Xp,↓Xt,Xq,Xc,Nae,Naa,rB,rC,rD,rE,reduceIte,Xm,rF,Xa,Xn,unP,Nab,Nac,Nad,hc,hq];refine⟨nofun,_,rfl,?_⟩;simp only[Nau,↓Z0,↓Xp,↓Xt,Xq,Xc,Nae,Naa,rB,rC,rD,rE,reduceIte]
  ·simp(disch:=first|omega|rfl|assumption)only[Naj,↓Z0,↓Xp,↓Xt,Xq,Xc,Nae,Naa,rB,rC,rD,rE,reduceIte,Xm,rF,Xa,Xn,unP,Nab,Nac,Nad,hc];refine⟨nofun,_,rfl,?_⟩;simp only[Nau,↓Z0,↓Xp,↓Xt,Xq,Xc,Nae,Naa,rB,rC,rD,rE,reduceIte];rfl
 ·simp(disch:=first|omega|rfl|assumption)only[Naj,↓Z0,↓Xp,↓Xt,Xq,Xc,Nae,Naa,rB,rC,rD,rE,reduceIte,Xm,rF,Xa,Xn,unP,Nab,Nac,Nad,hc];refine⟨nofun,_,rfl,?_⟩;simp only[Nau,↓Z0,↓Xp,↓Xt,Xq,Xc,Nae,Naa,rB,rC,rD,rE,reduceIte];rfl
theorem Nex(hc:CfgC cfg)(hx:cfg.ext 46=none)(hfu:1≤fuel)(s:List UInt8):Nak cfg (Nay cfg fuel) 46 [.s s]=some (.b (NaJ s)):=by
 obtain⟨n,rfl⟩:∃ n,fuel=n+1:=⟨fuel - 1,by omega⟩;exact Nar hx rfl (fun _=>rfl) (Nn8 (hc.fn _ _ (by kernel_rfl)) hc.nx)
def argsN(o:Nat):Nat:=if o=4∨o=17∨o=20∨o=23 then 1 else 0
def NeW(o:Nat):Bool:=o==3||o==4||o==11||o==21||o==22
def Ndl(k:Nat):Bool:=k==3||k==5||k==8||k==9
def ofN(o:Nat):Nat:=if o≤4 then 1 else if o≤8 then 2 else if o≤11 then 3 else if o≤14 then 4 else if o=15 then 5 else if o=16 then 6 else if o≤19 then 7 else if o≤21 then 8 else 9
theorem Nng(hf:cfg.fn 84=some m84) :
 ∃ r st',Nay cfg (fuel+1) 84 [.i .u8 (o:Int)] st=some (r,st')∧r=.i .i64 (argsN o:Int):=by
 refine Nax hf ?_;delta m84 Ql Qt Qm Qi Qo argsN;by_cases h1:o=4<;>by_cases h2:o=17<;>by_cases h3:o=20<;>by_cases h4:o=23<;>first|omega|skip
 all_goals
  simp(disch:=first|omega|rfl|assumption)only[Naj,↓Z0,↓Xp,↓Xt,Xq,Xc,Nae,Naa,rB,rC,rD,rE,reduceIte,Xm,rF,Xa,Xn,unP,Nab,Nac,Nad];refine⟨nofun,_,rfl,?_⟩;simp only[Nau,↓Z0,↓Xp,↓Xt,Xq,Xc,Nae,Naa,rB,rC,rD,rE,reduceIte];simp[h1,h2,h3,h4]
theorem NnU(hf:cfg.fn 85=some m85) :
 ∃ r st',Nay cfg (fuel+1) 85 [.i .u8 (o:Int)] st=some (r,st')∧r=.b (NeW o):=by
 refine Nax hf ?_;delta m85 Ql Qt Qm Qi NeW;by_cases h1:o=3<;>by_cases h2:o=4<;>by_cases h3:o=11<;>by_cases h4:o=21<;>by_cases h5:o=22<;>first|omega|skip
 all_goals
  simp(disch:=first|omega|rfl|assumption)only[Naj,↓Z0,↓Xp,↓Xt,Xq,Xc,Nae,Naa,rB,rC,rD,rE,reduceIte,Xm,rF,Xa,Xn,unP,Nab,Nac,Nad];refine⟨nofun,_,rfl,?_⟩;simp only[Nau,↓Z0,↓Xp,↓Xt,Xq,Xc,Nae,Naa,rB,rC,rD,rE,reduceIte];simp[h1,h2,h3,h4,h5]
theorem Nlo(hf:cfg.fn 63=some m63) :
 ∃ r st',Nay cfg (fuel+1) 63 [.i .u8 (o:Int)] st=some (r,st')∧r=.b (Ndl o):=by
 refine Nax hf ?_;delta m63 Ql Qt Qm Qi Ndl;by_cases h1:o=3<;>by_cases h2:o=5<;>by_cases h3:o=8<;>by_cases h4:o=9<;>first|omega|skip
 all_goals
  simp(disch:=first|omega|rfl|assumption)only[Naj,↓Z0,↓Xp,↓Xt,Xq,Xc,Nae,Naa,rB,rC,rD,rE,reduceIte,Xm,rF,Xa,Xn,unP,Nab,Nac,Nad];refine⟨nofun,_,rfl,?_⟩;simp only[Nau,↓Z0,↓Xp,↓Xt,Xq,Xc,Nae,Naa,rB,rC,rD,rE,reduceIte];simp[h1,h2,h3,h4]
theorem Nrw(hf:cfg.fn 48=some m48) :
 ∃ r st',Nay cfg (fuel+1) 48 [.i .u8 (o:Int)] st=some (r,st')∧r=.i .u8 (ofN o:Int):=by
 refine Nax hf ?_;delta m48 Qa Ql Qt Qm Qi ofN;by_cases h1:o≤4
 ·simp(disch:=first|omega|rfl|assumption)only[Naj,↓Z0,↓Xp,↓Xt,Xq,Xc,Nae,Naa,rB,rC,rD,rE,reduceIte,Xm,rF,Xa,Xn,unP,Nab,Nac,Nad];refine⟨nofun,_,rfl,?_⟩;simp only[Nau,↓Z0,↓Xp,↓Xt,Xq,Xc,Nae,Naa,rB,rC,rD,rE,reduceIte]
  all_goals simp[h1]
 by_cases h2:o≤8
 ·simp(disch:=first|omega|rfl|assumption)only[Naj,↓Z0,↓Xp,↓Xt,Xq,Xc,Nae,Naa,rB,rC,rD,rE,reduceIte,Xm,rF,Xa,Xn,unP,Nab,Nac,Nad];refine⟨nofun,_,rfl,?_⟩;simp only[Nau,↓Z0,↓Xp,↓Xt,Xq,Xc,Nae,Naa,rB,rC,rD,rE,reduceIte]
  all_goals simp[h1,h2]
 by_cases h3:o≤11
 ·simp(disch:=first|omega|rfl|assumption)only[Naj,↓Z0,↓Xp,↓Xt,Xq,Xc,Nae,Naa,rB,rC,rD,rE,reduceIte,Xm,rF,Xa,Xn,unP,Nab,Nac,Nad];refine⟨nofun,_,rfl,?_⟩;simp only[Nau,↓Z0,↓Xp,↓Xt,Xq,Xc,Nae,Naa,rB,rC,rD,rE,reduceIte]
  all_goals simp[h1,h2,h3]
 by_cases h4:o≤14
 ·simp(disch:=first|omega|rfl|assumption)only[Naj,↓Z0,↓Xp,↓Xt,Xq,Xc,Nae,Naa,rB,rC,rD,rE,reduceIte,Xm,rF,Xa,Xn,unP,Nab,Nac,Nad];refine⟨nofun,_,rfl,?_⟩;simp only[Nau,↓Z0,↓Xp,↓Xt,Xq,Xc,Nae,Naa,rB,rC,rD,rE,reduceIte]
  all_goals simp[h1,h2,h3,h4]
 by_cases h5:o=15
 ·simp(disch:=first|omega|rfl|assumption)only[Naj,↓Z0,↓Xp,↓Xt,Xq,Xc,Nae,Naa,rB,rC,rD,rE,reduceIte,Xm,rF,Xa,Xn,unP,Nab,Nac,Nad];refine⟨nofun,_,rfl,?_⟩;simp only[Nau,↓Z0,↓Xp,↓Xt,Xq,Xc,Nae,Naa,rB,rC,rD,rE,reduceIte]
  all_goals simp[h5]
 by_cases h6:o=16
 ·simp(disch:=first|omega|rfl|assumption)only[Naj,↓Z0,↓Xp,↓Xt,Xq,Xc,Nae,Naa,rB,rC,rD,rE,reduceIte,Xm,rF,Xa,Xn,unP,Nab,Nac,Nad];refine⟨nofun,_,rfl,?_⟩;simp only[Nau,↓Z0,↓Xp,↓Xt,Xq,Xc,Nae,Naa,rB,rC,rD,rE,reduceIte]
  all_goals simp[h6]
 by_cases h7:o≤19
 ·simp(disch:=first|omega|rfl|assumption)only[Naj,↓Z0,↓Xp,↓Xt,Xq,Xc,Nae,Naa,rB,rC,rD,rE,reduceIte,Xm,rF,Xa,Xn,unP,Nab,Nac,Nad];refine⟨nofun,_,rfl,?_⟩;simp only[Nau,↓Z0,↓Xp,↓Xt,Xq,Xc,Nae,Naa,rB,rC,rD,rE,reduceIte]
  all_goals simp[h1,h2,h3,h4,h5,h6,h7]
 by_cases h8:o≤21
 ·simp(disch:=first|omega|rfl|assumption)only[Naj,↓Z0,↓Xp,↓Xt,Xq,Xc,Nae,Naa,rB,rC,rD,rE,reduceIte,Xm,rF,Xa,Xn,unP,Nab,Nac,Nad];refine⟨nofun,_,rfl,?_⟩;simp only[Nau,↓Z0,↓Xp,↓Xt,Xq,Xc,Nae,Naa,rB,rC,rD,rE,reduceIte]
  all_goals simp[h1,h2,h3,h4,h5,h6,h7,h8]
 ·simp(disch:=first|omega|rfl|assumption)only[Naj,↓Z0,↓Xp,↓Xt,Xq,Xc,Nae,Naa,rB,rC,rD,rE,reduceIte,Xm,rF,Xa,Xn,unP,Nab,Nac,Nad];refine⟨nofun,_,rfl,?_⟩;simp only[Nau,↓Z0,↓Xp,↓Xt,Xq,Xc,Nae,Naa,rB,rC,rD,rE,reduceIte]
  all_goals simp[h1,h2,h3,h4,h5,h6,h7,h8]
def txC(l:List (List UInt8)):List PV:=l.map .s
theorem Nka{l:List (List UInt8)}{i:Nat}(h:i<l.length):NaX st 1 (.fptr ((txC l).drop i))=some [.s l[i]]:=by
 show cut? _ 0 1=_;unfold cut? txC;rw[if_pos (by rw[List.length_drop,List.length_map];omega),List.drop_zero,List.drop_eq_getElem_cons (by rw[List.length_map];exact h),List.getElem_map];rfl
def Nf1(x:List UInt8):List (List UInt8)→Nat→Int
 |[],_=>-1
 |a::r,i=>if x=a then(i:Int)else Nf1 x r (i+1)
theorem Nps(hf:cfg.fn 70=some m70){l:List (List UInt8)}{x:List UInt8}(hl:l.length≤1000)(hfu:l.length+2≤fuel) :
 ∃ r st',Nay cfg (fuel+1) 70 [.fsl l.length (txC l),.s x] st=some (r,st')∧r=.i .i64 (Nf1 x l 0):=by
 refine Nax hf ?_;delta m70 Qa Qr Ql Qt Qk Qm Qi Qo;have hlen:(txC l).length=l.length:=List.length_map _;simp only[Naj];(try rw[Z0]);(try simp(disch:=first|omega|rfl|assumption)only[↓Yaa,Yab,Nae,Naa,rB,rC,rD,rE,reduceIte,unP,rF]);refine Ndx fun K hK=>?_;rw[Z0];simp(disch:=first|omega|rfl|assumption)only[↓Yaa,Yac,Nae,Naa,rB,rC,rD,rE,reduceIte,unP,Xm,rF];refine Z9 (k:=l.length - 0) (fun d y=>∃ i:Nat,d=l.length - i∧i≤l.length∧Nf1 x (l.drop i) i=Nf1 x l 0∧y.env.get 0=.fsl l.length (txC l)∧y.env.get 1=.s x∧y.env.get 7=.i .i64 (l.length:Int)∧y.env.get 8=.i .i64 (i:Int)) ?_ ⟨0,rfl,by omega,rfl,rfl,rfl,rfl,rfl⟩ Zaa;rintro d ⟨env,⟨sto,c⟩⟩ ⟨i,rfl,hi,hx,g0,g1,g7,g8⟩;simp only at g0 g1 g7 g8;by_cases hlt:i<l.length
 ·have hld:=fun st=>Nka (st:=st) hlt;rw[List.drop_eq_getElem_cons hlt]at hx;rw[show Nf1 x (l[i]::l.drop (i+1)) i=if x=l[i]then(i:Int)else Nf1 x (l.drop (i+1)) (i+1)from rfl]at hx;by_cases he:x=l[i]
  ·rw[if_pos he]at hx;have hb:(x==l[i])=true:=(by simpa using he);simp(disch:=first|omega|rfl|assumption)only[↓Z0,↓Xp,↓Xt,Xq,Xc,Nae,Naa,rB,rC,rD,rE,reduceIte,Xm,rF,Xa,Xn,unP,Nab,Nac,Nad,g0,g1,g7,g8,hld,hlen,hb];refine⟨nofun,_,rfl,?_⟩;simp only[Nau,↓Z0,↓Xp,↓Xt,Xq,Xc,Nae,Naa,rB,rC,rD,rE,reduceIte];rw[hx]
  ·rw[if_neg he]at hx;have hb:(x==l[i])=false:=(by simpa using he);simp(disch:=first|omega|rfl|assumption)only[↓Z0,↓Xp,↓Xt,Xq,Xc,Nae,Naa,rB,rC,rD,rE,reduceIte,Xm,rF,Xa,Xn,unP,Nab,Nac,Nad,g0,g1,g7,g8,hld,hlen,hb];exact⟨l.length - (i+1),by omega,i+1,rfl,by omega,hx,rfl⟩
 ·simp(disch:=first|omega|rfl|assumption)only[↓Z0,↓Xp,↓Xt,Xq,Xc,Nae,Naa,rB,rC,rD,rE,reduceIte,Xm,rF,Xa,Xn,unP,Nab,Nac,Nad,g0,g1,g7,g8];refine hK _ ?_;rw[List.drop_of_length_le Zaa]at hx;simp(disch:=first|omega|rfl|assumption)only[↓Z0,↓Xp,↓Xt,Xq,Xc,Nae,Naa,rB,rC,rD,rE,reduceIte,Xm,rF,Xa,Xn,unP,Nab,Nac,Nad];refine⟨nofun,_,rfl,?_⟩;simp only[Nau,↓Z0,↓Xp,↓Xt,Xq,Xc,Nae,Naa,rB,rC,rD,rE,reduceIte];rw[←hx];rfl
end
end Go.Pe
