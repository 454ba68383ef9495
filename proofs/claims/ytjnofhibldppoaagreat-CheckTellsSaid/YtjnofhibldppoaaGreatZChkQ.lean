/-
 Trees: an expression, a statement, an object, each by itself. No condition. (Printed by gen_shape.py.)
-/
import Derived.Test.YtjnofhibldppoaaGreatZWordC0
import Derived.Test.YtjnofhibldppoaaGreatZPrgA
import Derived.Test.YtjnofhibldppoaaGreatZPeB
set_option linter.unusedVariables false
set_option linter.unusedSimpArgs false
set_option maxHeartbeats 4000000
open Nat renaming reduceAdd → rB,reduceMul → rC,reduceLT → rD,reduceEqDiff → rE,reduceLeDiff → rF
namespace Go.Pe
open Go Go.Am Go.RowKit
section
variable {cfg:Cfg}{fuel o:Nat}{st:St}
structure CfgC(cfg:Cfg):Prop where
 nx:cfg.ext 55=some gNext
 fn:∀ f m,NcT f tblL=some m→cfg.fn f=some m
theorem Naq{f:FuncId}(hx:cfg.ext f=none){args:List PV}{r:PV}(ho:NaH args=(args,{ sto:=.leaf,cnt:=1 }))(hc:∀ st,Na5 st r=some r)(h:∃ r' st',NaC cfg fuel f args { sto:=.leaf,cnt:=1 }=some (r',st')∧r'=r):Naj cfg (NaC cfg fuel) f args=some r:=by
 obtain⟨r',st',h1,h2⟩:=h;exact NeS hx ho ⟨r',st',h1,by rw[h2];exact hc st'⟩
theorem NgZ(text:List UInt8)(at0:Int):∃ k s n l a e f g,gNext [.s text,.i .i64 at0]=some (.tup [.agg [.i .u8 k,.s s,.i .i64 n,.i .i64 l,.i .i64 a,.i .i64 e],.agg [.i .i64 f,.i .i64 g]]):=by
 have hw:∀ k s n l a e,∃ k' s' n' l' a' e' f g,some (NcE k s n l a e)=some (.tup [.agg [.i .u8 k',.s s',.i .i64 n',.i .i64 l',.i .i64 a',.i .i64 e'],.agg [.i .i64 f,.i .i64 g]]):=fun k s n l a e=>⟨k,s,n,l,a,e,0,0,rfl⟩;have hf:∀ x y,∃ k' s' n' l' a' e' f g,some (NbD x y)=some (.tup [.agg [.i .u8 k',.s s',.i .i64 n',.i .i64 l',.i .i64 a',.i .i64 e'],.agg [.i .i64 f,.i .i64 g]]):=fun x y=>⟨0,[],0,0,0,0,x,y,rfl⟩;unfold gNext Ndn;simp only[]
 repeat' split
 all_goals first|exact hw _ _ _ _ _ _|exact hf _ _
theorem Nbn{callE:CallE}{n:Nat}{a b:MCode}{x:Now}{Q:MExit→Now→Prop}(h:∀ K:Now→Prop,(∀ x',WC cfg callE n b x' Q→K x')→WC cfg callE n a x (NhZ Q K)):WC cfg callE n (.seq a b) x Q:=by
 rw[Z0];exact h _ fun _ h=>h
def Nbb(s:List UInt8):Bool:=match gNext [.s s,.i .i64 ((0:Nat):Int)]with
 |some (.tup [.agg [.i _ k,_,_,_,.i _ p,.i _ e],.agg [.i _ f,_]])=>f==0&&(k==2&&(IntKind.i64.wrap (e - p)==(s.length:Int)))
 |_=>false
theorem NoJ(hf:cfg.fn 47=some m47)(hn:cfg.ext 55=some gNext){s:List UInt8} :
 ∃ r st',NaC cfg (fuel+1) 47 [.s s] st=some (r,st')∧r=.b (Nbb s):=by
 refine NaA hf ?_;delta m47 Qa Qr Qg Ql Qt Qn Qs Qk Qm Qh Qi Qu Qv;obtain⟨k,t,n,l,p,e,f,g,hg⟩:=NgZ s ((0:Nat):Int);have hN:Nbb s=(f==0&&(k==2&&(IntKind.i64.wrap (e - p)==(s.length:Int)))):=by
  unfold Nbb;rw[hg]
 rw[hN];have hc:∀ (st:St) (key:Nat),Nam (Naj cfg (NaC cfg fuel) 55) false st key [.s s,.i .i64 ((0:Nat):Int)]=some (.tup [.agg [.i .u8 k,.s t,.i .i64 n,.i .i64 l,.i .i64 p,.i .i64 e],.agg [.i .i64 f,.i .i64 g]],st):=fun st key =>
  Nal rfl (by rw[NaM hn];exact hg) rfl
 by_cases h1:f=0
 ·subst h1;by_cases h2:k=2
  ·subst h2;obtain⟨q,hq⟩:∃ q,IntKind.i64.wrap (e - p)=q:=⟨_,rfl⟩;rw[hq];simp(disch:=first|omega|rfl|assumption)only[Nai,↓Z0,↓Xp,↓Xt,Xq,Xc,Nae,Naa,rB,rC,rD,rE,reduceIte,Xm,rF,Xa,Xn,unP,Nab,Nac,Nad,hc,hq];refine⟨nofun,_,rfl,?_⟩;simp only[Nay,↓Z0,↓Xp,↓Xt,Xq,Xc,Nae,Naa,rB,rC,rD,rE,reduceIte]
  ·simp(disch:=first|omega|rfl|assumption)only[Nai,↓Z0,↓Xp,↓Xt,Xq,Xc,Nae,Naa,rB,rC,rD,rE,reduceIte,Xm,rF,Xa,Xn,unP,Nab,Nac,Nad,hc];refine⟨nofun,_,rfl,?_⟩;simp only[Nay,↓Z0,↓Xp,↓Xt,Xq,Xc,Nae,Naa,rB,rC,rD,rE,reduceIte];rfl
 ·simp(disch:=first|omega|rfl|assumption)only[Nai,↓Z0,↓Xp,↓Xt,Xq,Xc,Nae,Naa,rB,rC,rD,rE,reduceIte,Xm,rF,Xa,Xn,unP,Nab,Nac,Nad,hc];refine⟨nofun,_,rfl,?_⟩;simp only[Nay,↓Z0,↓Xp,↓Xt,Xq,Xc,Nae,Naa,rB,rC,rD,rE,reduceIte];rfl
theorem NeD(hc:CfgC cfg)(hx:cfg.ext 47=none)(hfu:1≤fuel)(s:List UInt8):Naj cfg (NaC cfg fuel) 47 [.s s]=some (.b (Nbb s)):=by
 obtain⟨n,rfl⟩:∃ n,fuel=n+1:=⟨fuel - 1,by omega⟩;exact Naq hx rfl (fun _=>rfl) (NoJ (hc.fn _ _ (by kernel_rfl)) hc.nx)
def argsN(o:Nat):Nat:=if o=4∨o=17∨o=20∨o=23 then 1 else 0
def Ne3(o:Nat):Bool:=o==3||o==4||o==11||o==21||o==22
def Nds(k:Nat):Bool:=k==3||k==5||k==8||k==9
def ofN(o:Nat):Nat:=if o≤4 then 1 else if o≤8 then 2 else if o≤11 then 3 else if o≤14 then 4 else if o=15 then 5 else if o=16 then 6 else if o≤19 then 7 else if o≤21 then 8 else 9
theorem NnJ(hf:cfg.fn 85=some m85) :
 ∃ r st',NaC cfg (fuel+1) 85 [.i .u8 (o:Int)] st=some (r,st')∧r=.i .i64 (argsN o:Int):=by
 refine NaA hf ?_;delta m85 Ql Qt Qm Qi Qo argsN;by_cases h1:o=4<;>by_cases h2:o=17<;>by_cases h3:o=20<;>by_cases h4:o=23<;>first|omega|skip
 all_goals
  simp(disch:=first|omega|rfl|assumption)only[Nai,↓Z0,↓Xp,↓Xt,Xq,Xc,Nae,Naa,rB,rC,rD,rE,reduceIte,Xm,rF,Xa,Xn,unP,Nab,Nac,Nad];refine⟨nofun,_,rfl,?_⟩;simp only[Nay,↓Z0,↓Xp,↓Xt,Xq,Xc,Nae,Naa,rB,rC,rD,rE,reduceIte];simp[h1,h2,h3,h4]
theorem Noq(hf:cfg.fn 86=some m86) :
 ∃ r st',NaC cfg (fuel+1) 86 [.i .u8 (o:Int)] st=some (r,st')∧r=.b (Ne3 o):=by
 refine NaA hf ?_;delta m86 Ql Qt Qm Qi Ne3;by_cases h1:o=3<;>by_cases h2:o=4<;>by_cases h3:o=11<;>by_cases h4:o=21<;>by_cases h5:o=22<;>first|omega|skip
 all_goals
  simp(disch:=first|omega|rfl|assumption)only[Nai,↓Z0,↓Xp,↓Xt,Xq,Xc,Nae,Naa,rB,rC,rD,rE,reduceIte,Xm,rF,Xa,Xn,unP,Nab,Nac,Nad];refine⟨nofun,_,rfl,?_⟩;simp only[Nay,↓Z0,↓Xp,↓Xt,Xq,Xc,Nae,Naa,rB,rC,rD,rE,reduceIte];simp[h1,h2,h3,h4,h5]
theorem NlL(hf:cfg.fn 58=some m58) :
 ∃ r st',NaC cfg (fuel+1) 58 [.i .u8 (o:Int)] st=some (r,st')∧r=.b (Nds o):=by
 refine NaA hf ?_;delta m58 Ql Qt Qm Qi Nds;by_cases h1:o=3<;>by_cases h2:o=5<;>by_cases h3:o=8<;>by_cases h4:o=9<;>first|omega|skip
 all_goals
  simp(disch:=first|omega|rfl|assumption)only[Nai,↓Z0,↓Xp,↓Xt,Xq,Xc,Nae,Naa,rB,rC,rD,rE,reduceIte,Xm,rF,Xa,Xn,unP,Nab,Nac,Nad];refine⟨nofun,_,rfl,?_⟩;simp only[Nay,↓Z0,↓Xp,↓Xt,Xq,Xc,Nae,Naa,rB,rC,rD,rE,reduceIte];simp[h1,h2,h3,h4]
theorem Nr1(hf:cfg.fn 49=some m49) :
 ∃ r st',NaC cfg (fuel+1) 49 [.i .u8 (o:Int)] st=some (r,st')∧r=.i .u8 (ofN o:Int):=by
 refine NaA hf ?_;delta m49 Qa Ql Qt Qm Qi ofN;by_cases h1:o≤4
 ·simp(disch:=first|omega|rfl|assumption)only[Nai,↓Z0,↓Xp,↓Xt,Xq,Xc,Nae,Naa,rB,rC,rD,rE,reduceIte,Xm,rF,Xa,Xn,unP,Nab,Nac,Nad];refine⟨nofun,_,rfl,?_⟩;simp only[Nay,↓Z0,↓Xp,↓Xt,Xq,Xc,Nae,Naa,rB,rC,rD,rE,reduceIte]
  all_goals simp[h1]
 by_cases h2:o≤8
 ·simp(disch:=first|omega|rfl|assumption)only[Nai,↓Z0,↓Xp,↓Xt,Xq,Xc,Nae,Naa,rB,rC,rD,rE,reduceIte,Xm,rF,Xa,Xn,unP,Nab,Nac,Nad];refine⟨nofun,_,rfl,?_⟩;simp only[Nay,↓Z0,↓Xp,↓Xt,Xq,Xc,Nae,Naa,rB,rC,rD,rE,reduceIte]
  all_goals simp[h1,h2]
 by_cases h3:o≤11
 ·simp(disch:=first|omega|rfl|assumption)only[Nai,↓Z0,↓Xp,↓Xt,Xq,Xc,Nae,Naa,rB,rC,rD,rE,reduceIte,Xm,rF,Xa,Xn,unP,Nab,Nac,Nad];refine⟨nofun,_,rfl,?_⟩;simp only[Nay,↓Z0,↓Xp,↓Xt,Xq,Xc,Nae,Naa,rB,rC,rD,rE,reduceIte]
  all_goals simp[h1,h2,h3]
 by_cases h4:o≤14
 ·simp(disch:=first|omega|rfl|assumption)only[Nai,↓Z0,↓Xp,↓Xt,Xq,Xc,Nae,Naa,rB,rC,rD,rE,reduceIte,Xm,rF,Xa,Xn,unP,Nab,Nac,Nad];refine⟨nofun,_,rfl,?_⟩;simp only[Nay,↓Z0,↓Xp,↓Xt,Xq,Xc,Nae,Naa,rB,rC,rD,rE,reduceIte]
  all_goals simp[h1,h2,h3,h4]
 by_cases h5:o=15
 ·simp(disch:=first|omega|rfl|assumption)only[Nai,↓Z0,↓Xp,↓Xt,Xq,Xc,Nae,Naa,rB,rC,rD,rE,reduceIte,Xm,rF,Xa,Xn,unP,Nab,Nac,Nad];refine⟨nofun,_,rfl,?_⟩;simp only[Nay,↓Z0,↓Xp,↓Xt,Xq,Xc,Nae,Naa,rB,rC,rD,rE,reduceIte]
  all_goals simp[h5]
 by_cases h6:o=16
 ·simp(disch:=first|omega|rfl|assumption)only[Nai,↓Z0,↓Xp,↓Xt,Xq,Xc,Nae,Naa,rB,rC,rD,rE,reduceIte,Xm,rF,Xa,Xn,unP,Nab,Nac,Nad];refine⟨nofun,_,rfl,?_⟩;simp only[Nay,↓Z0,↓Xp,↓Xt,Xq,Xc,Nae,Naa,rB,rC,rD,rE,reduceIte]
  all_goals simp[h6]
 by_cases h7:o≤19
 ·simp(disch:=first|omega|rfl|assumption)only[Nai,↓Z0,↓Xp,↓Xt,Xq,Xc,Nae,Naa,rB,rC,rD,rE,reduceIte,Xm,rF,Xa,Xn,unP,Nab,Nac,Nad];refine⟨nofun,_,rfl,?_⟩;simp only[Nay,↓Z0,↓Xp,↓Xt,Xq,Xc,Nae,Naa,rB,rC,rD,rE,reduceIte]
  all_goals simp[h1,h2,h3,h4,h5,h6,h7]
 by_cases h8:o≤21
 ·simp(disch:=first|omega|rfl|assumption)only[Nai,↓Z0,↓Xp,↓Xt,Xq,Xc,Nae,Naa,rB,rC,rD,rE,reduceIte,Xm,rF,Xa,Xn,unP,Nab,Nac,Nad];refine⟨nofun,_,rfl,?_⟩;simp only[Nay,↓Z0,↓Xp,↓Xt,Xq,Xc,Nae,Naa,rB,rC,rD,rE,reduceIte]
  all_goals simp[h1,h2,h3,h4,h5,h6,h7,h8]
 ·simp(disch:=first|omega|rfl|assumption)only[Nai,↓Z0,↓Xp,↓Xt,Xq,Xc,Nae,Naa,rB,rC,rD,rE,reduceIte,Xm,rF,Xa,Xn,unP,Nab,Nac,Nad];refine⟨nofun,_,rfl,?_⟩;simp only[Nay,↓Z0,↓Xp,↓Xt,Xq,Xc,Nae,Naa,rB,rC,rD,rE,reduceIte]
  all_goals simp[h1,h2,h3,h4,h5,h6,h7,h8]
def txC(l:List (List UInt8)):List PV:=l.map .s
theorem Nkn{l:List (List UInt8)}{i:Nat}(h:i<l.length):NaY st 1 (.fptr ((txC l).drop i))=some [.s l[i]]:=by
 show cut? _ 0 1=_;unfold cut? txC;rw[if_pos (by rw[List.length_drop,List.length_map];omega),List.drop_zero,List.drop_eq_getElem_cons (by rw[List.length_map];exact h),List.getElem_map];rfl
def Ngb(x:List UInt8):List (List UInt8)→Nat→Int
 |[],_=>-1
 |a::r,i=>if x=a then(i:Int)else Ngb x r (i+1)
theorem NpZ(hf:cfg.fn 57=some m57){l:List (List UInt8)}{x:List UInt8}(hl:l.length≤1000)(hfu:l.length+2≤fuel) :
 ∃ r st',NaC cfg (fuel+1) 57 [.fsl l.length (txC l),.s x] st=some (r,st')∧r=.i .i64 (Ngb x l 0):=by
 refine NaA hf ?_;delta m57 Qa Qr Ql Qt Qk Qm Qi Qo;have hlen:(txC l).length=l.length:=List.length_map _;simp only[Nai];(try rw[Z0]);(try simp(disch:=first|omega|rfl|assumption)only[↓Yaa,Yab,Nae,Naa,rB,rC,rD,rE,reduceIte,unP,rF]);refine Nbn fun K hK=>?_;rw[Z0];simp(disch:=first|omega|rfl|assumption)only[↓Yaa,Yac,Nae,Naa,rB,rC,rD,rE,reduceIte,unP,Xm,rF];refine Z9 (k:=l.length - 0) (fun d y=>∃ i:Nat,d=l.length - i∧i≤l.length∧Ngb x (l.drop i) i=Ngb x l 0∧y.env.get 0=.fsl l.length (txC l)∧y.env.get 1=.s x∧y.env.get 7=.i .i64 (l.length:Int)∧y.env.get 8=.i .i64 (i:Int)) ?_ ⟨0,rfl,by omega,rfl,rfl,rfl,rfl,rfl⟩ Zaa;rintro d ⟨env,⟨sto,c⟩⟩ ⟨i,rfl,hi,hx,g0,g1,g7,g8⟩;simp only at g0 g1 g7 g8;by_cases hlt:i<l.length
 ·have hld:=fun st=>Nkn (st:=st) hlt;rw[List.drop_eq_getElem_cons hlt]at hx;rw[show Ngb x (l[i]::l.drop (i+1)) i=if x=l[i]then(i:Int)else Ngb x (l.drop (i+1)) (i+1)from rfl]at hx;by_cases he:x=l[i]
  ·rw[if_pos he]at hx;have hb:(x==l[i])=true:=(by simpa using he);simp(disch:=first|omega|rfl|assumption)only[↓Z0,↓Xp,↓Xt,Xq,Xc,Nae,Naa,rB,rC,rD,rE,reduceIte,Xm,rF,Xa,Xn,unP,Nab,Nac,Nad,g0,g1,g7,g8,hld,hlen,hb];refine⟨nofun,_,rfl,?_⟩;simp only[Nay,↓Z0,↓Xp,↓Xt,Xq,Xc,Nae,Naa,rB,rC,rD,rE,reduceIte];rw[hx]
  ·rw[if_neg he]at hx;have hb:(x==l[i])=false:=(by simpa using he);simp(disch:=first|omega|rfl|assumption)only[↓Z0,↓Xp,↓Xt,Xq,Xc,Nae,Naa,rB,rC,rD,rE,reduceIte,Xm,rF,Xa,Xn,unP,Nab,Nac,Nad,g0,g1,g7,g8,hld,hlen,hb];exact⟨l.length - (i+1),by omega,i+1,rfl,by omega,hx,rfl⟩
 ·simp(disch:=first|omega|rfl|assumption)only[↓Z0,↓Xp,↓Xt,Xq,Xc,Nae,Naa,rB,rC,rD,rE,reduceIte,Xm,rF,Xa,Xn,unP,Nab,Nac,Nad,g0,g1,g7,g8];refine hK _ ?_;rw[List.drop_of_length_le Zaa]at hx;simp(disch:=first|omega|rfl|assumption)only[↓Z0,↓Xp,↓Xt,Xq,Xc,Nae,Naa,rB,rC,rD,rE,reduceIte,Xm,rF,Xa,Xn,unP,Nab,Nac,Nad];refine⟨nofun,_,rfl,?_⟩;simp only[Nay,↓Z0,↓Xp,↓Xt,Xq,Xc,Nae,Naa,rB,rC,rD,rE,reduceIte];rw[←hx];rfl
end
end Go.Pe
set_option maxHeartbeats 16000000
namespace Go.Pe
open Go Go.Am Go.RowKit
def Nom(x:List UInt8)(l:List (List UInt8)):Bool:=decide (0≤Ngb x l 0)
theorem NpX{cfg:Cfg}(hf:cfg.fn 56=some m56)(hf2:cfg.fn 57=some m57)(hx2:cfg.ext 57=none){fuel:Nat}{l:List (List UInt8)}{x:List UInt8}(hl:l.length≤1000)(hfu:l.length+3≤fuel){st:St} :
 ∃ r st',NaC cfg (fuel+1) 56 [.fsl l.length (txC l),.s x] st=some (r,st')∧r=.b (Nom x l):=by
 refine NaA hf ?_;delta m56 Qa Ql Qt Qk Qm Qi;obtain⟨n,rfl⟩:∃ n,fuel=n+1:=⟨fuel - 1,by omega⟩;have k:∀ (st:St) (key:Nat),Nam (Naj cfg (NaC cfg (n+1)) 57) false st key [.fsl l.length (txC l),.s x]=some (.i .i64 (Ngb x l 0),st):=fun st key =>
  Nal rfl (Naq hx2 rfl (fun _=>rfl) (NpZ hf2 hl Zaa)) rfl
 obtain⟨q,hq⟩:∃ q,Ngb x l 0=q:=⟨_,rfl⟩;unfold Nom;rw[hq]at k ⊢;simp(disch:=first|omega|rfl|assumption)only[Nai,↓Z0,↓Xp,↓Xt,Xq,Xc,Nae,Naa,rB,rC,rD,rE,reduceIte,Xm,rF,Xa,Xn,unP,Nab,Nac,Nad,k];refine⟨nofun,_,rfl,?_⟩;simp only[Nay,↓Z0,↓Xp,↓Xt,Xq,Xc,Nae,Naa,rB,rC,rD,rE,reduceIte];rfl
theorem Nf0{st:St}{k:Nat}{cs:List PV}{sz n:Nat}(hk:st.get k=some (.cells cs false))(hl:cs.length=n * sz)(hf:cs.all PV.flat=true)(hlt:k<st.cnt):Go.Pe.deep st 12 (.rsl k sz 0 n)=some (.fsl n cs) :=
 (show Own st sz (.rsl k sz 0 n) n cs from .inr ⟨k,rfl,hk,hl,hlt⟩).deepO hf
def Nhg:List (List UInt8):=[[45]]
def signs2:List (List UInt8):=[[43],[45],[42],[61,61],[60]]
def Nbm(k:Nat)(s:List UInt8)(n:Int)(c:Nat):Bool :=
 if k=1 then decide (0≤n)&&(s==[]&&c==0)
 else if k=2 then n==0&&(c==0&&Nbb s)
 else if k=3 then n==0&&(decide (1≤c∧c≤2)&&Nom s (if c=1 then Nhg else signs2))
 else false
def doT(o:Nat)(j:List UInt8)(n:Int)(a b e:Nat):Bool :=
 if o<1 then true else if 23<o then true else if Nbb j=false then true else if n≠0 then true else if a≠argsN o then true else if 0<e then true else if 0<b+e then o != 16 else false
def Nfh(o:Nat)(j i:List UInt8)(n:Int)(a b:Nat):Bool :=
 if o≠0 then false else if j≠[]then false else if n≠0 then false else if a≠1 then false else if b≠0 then false else Nbb i
def NbS(o:Nat)(j i:List UInt8):Bool:=if o≠0 then true else if j≠[]then true else i != []
def Nbk(k o:Nat)(j i:List UInt8)(n:Int)(a b e:Nat):Bool :=
 if k=1 then(if doT o j n a b e=true then false else if Ne3 o=true then Nbb i else i==[])
 else if k=2 then Nfh o j i n a (b+e)
 else if NbS o j i=true then false
 else if k=3 then(if n<0 then false else if a≠0 then false else e==0)
 else if k=4 then(if n≠0 then false else a==1)
 else false
theorem NaL{cfg:Cfg}{callE:CallE}{n:Nat}{m:MCode}{x:Now}{Q:MExit→Now→Prop}(R:Now→Prop)(h:R x)(k:∀ x,R x→WC cfg callE n m x Q):WC cfg callE n m x Q:=k x h
structure CfgT(cfg:Cfg):Prop extends CfgC cfg where
 x1:cfg.ext 47=none
 x2:cfg.ext 85=none
 x3:cfg.ext 86=none
 x4:cfg.ext 58=none
 x5:cfg.ext 56=none
 x6:cfg.ext 57=none
 x7:cfg.ext 65=none
 x8:cfg.ext 88=none
 x9:cfg.ext 46=none
theorem NmU{cfg:Cfg}(hc:CfgT cfg){fuel:Nat}(hfu:4≤fuel){k o:Nat}{j i:List UInt8}{n:Int}{a b e:Nat}{va vb ve:PV}{r:Int}(la:NdI va=some (.i .i64 (a:Int)))(lb:NdI vb=some (.i .i64 (b:Int)))(le:NdI ve=some (.i .i64 (e:Int)))
 (oa:va.one=true) (ob:vb.one=true) (oe:ve.one=true) (ca:va.cells=[va]) (cb:vb.cells=[vb]) (ce:ve.cells=[ve]) (hb:b+e<9223372036854775808) {st:St} :
 ∃ r' st',NaC cfg (fuel+1) 65 [.agg [.i .u8 (k:Int),.i .u8 (o:Int),.s j,.s i,.i .i64 n,va,vb,ve,.i .i64 r]] st=some (r',st')∧r'=.b (Nbk k o j i n a b e):=by
 refine NaA (hc.fn _ _ (by kernel_rfl):cfg.fn 65=some m65) ?_;delta m65 Qr Qg Ql Qt Qs Qk Qm Qh Qi Qu Qv;have gN:∀ x,Naj cfg (NaC cfg fuel) 47 [.s x]=some (.b (Nbb x)):=fun x=>NeD hc.toCfgC hc.x1 Zaa x;have kN:∀ x (st:St) (key:Nat),Nam (Naj cfg (NaC cfg fuel) 47) false st key [.s x]=some (.b (Nbb x),st):=fun x st key=>Nal rfl (gN x) rfl;have hdS:∀ (st:St) x,Nbt st [.s x]=some [.s x]:=fun _ _=>rfl;have hdI:∀ (st:St) k n,Nbt st [.i k n]=some [.i k n]:=fun _ _ _=>rfl;have cbB:∀ x,PV.closedB (.b x)=true:=fun _=>rfl;have cbI:∀ k n,PV.closedB (.i k n)=true:=fun _ _=>rfl;have rbB:∀ (st:St) (key:Nat) x,NaO st key (.b x)=some (.b x,st):=fun _ _ _=>rfl;have rbI:∀ (st:St) (key:Nat) k n,NaO st key (.i k n)=some (.i k n,st):=fun _ _ _ _=>rfl;have gA:Naj cfg (NaC cfg fuel) 85 [.i .u8 (o:Int)]=some (.i .i64 (argsN o:Int)):=by
  obtain⟨q,rfl⟩:∃ q,fuel=q+1:=⟨fuel - 1,by omega⟩;exact Naq hc.x2 rfl (fun _=>rfl) (NnJ (hc.fn _ _ (by kernel_rfl)))
 have kI:∀ (st:St) (key:Nat),Nam (Naj cfg (NaC cfg fuel) 86) false st key [.i .u8 (o:Int)]=some (.b (Ne3 o),st):=fun st key=>by
  obtain⟨q,rfl⟩:∃ q,fuel=q+1:=⟨fuel - 1,by omega⟩;exact Nal rfl (Naq hc.x3 rfl (fun _=>rfl) (Noq (hc.fn _ _ (by kernel_rfl)))) rfl
 simp only[Nai]
 iterate 2
  (try rw[Z0]);(try simp(disch:=first|omega|rfl|assumption)only[↓Yaa,Yab,Nae,Naa,rB,rC,rD,rE,reduceIte,unP,rF,la,lb,le,oa,ob,oe,ca,cb,ce])
 refine NaL (fun x=>∃ K:Nat,x.env.get 1=.ptr K 0∧x.env.get 3=.i .i64 ((b+e:Nat):Int)∧x.st.get K=some (.cells [.i .u8 (k:Int),.i .u8 (o:Int),.s j,.s i,.i .i64 n,va,vb,ve,.i .i64 r] false)) ?_ ?_
 ·refine⟨st.cnt,?_⟩;simp(disch:=first|omega|rfl|assumption)only[Yad,rE,reduceIte,NaP,NjA,true_and]
 rintro⟨env,⟨sto,c⟩⟩ ⟨K,g1,g3,kC⟩;simp only at g1 g3;replace kC:∀ n',St.get ⟨sto,n'⟩ K=some (.cells [.i .u8 (k:Int),.i .u8 (o:Int),.s j,.s i,.i .i64 n,va,vb,ve,.i .i64 r] false):=fun _=>kC;unfold Nbk;by_cases k1:k=1
 ·rw[if_pos k1]
  iterate 4
   (try rw[Z0]);(try simp(disch:=first|omega|rfl|assumption)only[↓Yaa,Yab,Nae,Naa,rB,rC,rD,rE,reduceIte,unP,rF,g1,g3,kC])
  refine Za (fun x=>x.env.get 57=.b (doT o j n a b e)∧x.env.get 1=.ptr K 0∧x.st.get K=some (.cells [.i .u8 (k:Int),.i .u8 (o:Int),.s j,.s i,.i .i64 n,va,vb,ve,.i .i64 r] false)) ?_ ?_
  ·by_cases h1:o<1
   ·rw[show doT o j n a b e=true by unfold doT;rw[if_pos h1]];simp(maxSteps:=300000) (disch:=first|omega|rfl|assumption)only[↓Yaa,Yac,Nae,Naa,rB,rC,rD,rE,reduceIte,unP,Xm,rF,g1,g3,kC,kN,gN,gA,kI,hdS,hdI,cbB,cbI,rbB,rbI,la,lb,le,Bool.not_true,Bool.not_false]
    all_goals (first|done|exact kC _|(refine⟨?_,?_⟩<;>first|rfl|exact kC _))
   by_cases h2:23<o
   ·rw[show doT o j n a b e=true by unfold doT;rw[if_neg h1,if_pos h2]];simp(maxSteps:=300000) (disch:=first|omega|rfl|assumption)only[↓Yaa,Yac,Nae,Naa,rB,rC,rD,rE,reduceIte,unP,Xm,rF,g1,g3,kC,kN,gN,gA,kI,hdS,hdI,cbB,cbI,rbB,rbI,la,lb,le,Bool.not_true,Bool.not_false]
    all_goals (first|done|exact kC _|(refine⟨?_,?_⟩<;>first|rfl|exact kC _))
   by_cases h3:Nbb j=false
   ·rw[show doT o j n a b e=true by unfold doT;rw[if_neg h1,if_neg h2,if_pos h3]];simp(maxSteps:=300000) (disch:=first|omega|rfl|assumption)only[↓Yaa,Yac,Nae,Naa,rB,rC,rD,rE,reduceIte,unP,Xm,rF,g1,g3,kC,kN,gN,gA,kI,hdS,hdI,cbB,cbI,rbB,rbI,la,lb,le,Bool.not_true,Bool.not_false,h3]
    all_goals (first|done|exact kC _|(refine⟨?_,?_⟩<;>first|rfl|exact kC _))
   have h3':Nbb j=true:=(by simpa using h3);by_cases h4:n≠0
   ·rw[show doT o j n a b e=true by unfold doT;rw[if_neg h1,if_neg h2,if_neg h3,if_pos h4]];simp(maxSteps:=300000) (disch:=first|omega|rfl|assumption)only[↓Yaa,Yac,Nae,Naa,rB,rC,rD,rE,reduceIte,unP,Xm,rF,g1,g3,kC,kN,gN,gA,kI,hdS,hdI,cbB,cbI,rbB,rbI,la,lb,le,Bool.not_true,Bool.not_false,h3']
    all_goals (first|done|exact kC _|(refine⟨?_,?_⟩<;>first|rfl|exact kC _))
   by_cases h5:a≠argsN o
   ·rw[show doT o j n a b e=true by unfold doT;rw[if_neg h1,if_neg h2,if_neg h3,if_neg h4,if_pos h5]];simp(maxSteps:=300000) (disch:=first|omega|rfl|assumption)only[↓Yaa,Yac,Nae,Naa,rB,rC,rD,rE,reduceIte,unP,Xm,rF,g1,g3,kC,kN,gN,gA,kI,hdS,hdI,cbB,cbI,rbB,rbI,la,lb,le,Bool.not_true,Bool.not_false,h3']
    all_goals (first|done|exact kC _|(refine⟨?_,?_⟩<;>first|rfl|exact kC _))
   by_cases h6:0<e
   ·rw[show doT o j n a b e=true by unfold doT;rw[if_neg h1,if_neg h2,if_neg h3,if_neg h4,if_neg h5,if_pos h6]];simp(maxSteps:=300000) (disch:=first|omega|rfl|assumption)only[↓Yaa,Yac,Nae,Naa,rB,rC,rD,rE,reduceIte,unP,Xm,rF,g1,g3,kC,kN,gN,gA,kI,hdS,hdI,cbB,cbI,rbB,rbI,la,lb,le,Bool.not_true,Bool.not_false,h3']
    all_goals (first|done|exact kC _|(refine⟨?_,?_⟩<;>first|rfl|exact kC _))
   by_cases h7:0<b+e
   ·by_cases h8:o=16
    ·rw[show doT o j n a b e=false by unfold doT;rw[if_neg h1,if_neg h2,if_neg h3,if_neg h4,if_neg h5,if_neg h6,if_pos h7];simp[h8]];simp(maxSteps:=300000) (disch:=first|omega|rfl|assumption)only[↓Yaa,Yac,Nae,Naa,rB,rC,rD,rE,reduceIte,unP,Xm,rF,g1,g3,kC,kN,gN,gA,kI,hdS,hdI,cbB,cbI,rbB,rbI,la,lb,le,Bool.not_true,Bool.not_false,h3']
     all_goals (first|done|exact kC _|(refine⟨?_,?_⟩<;>first|rfl|exact kC _))
    ·rw[show doT o j n a b e=true by unfold doT;rw[if_neg h1,if_neg h2,if_neg h3,if_neg h4,if_neg h5,if_neg h6,if_pos h7];simp[h8]];simp(maxSteps:=300000) (disch:=first|omega|rfl|assumption)only[↓Yaa,Yac,Nae,Naa,rB,rC,rD,rE,reduceIte,unP,Xm,rF,g1,g3,kC,kN,gN,gA,kI,hdS,hdI,cbB,cbI,rbB,rbI,la,lb,le,Bool.not_true,Bool.not_false,h3']
     all_goals (first|done|exact kC _|(refine⟨?_,?_⟩<;>first|rfl|exact kC _))
   ·rw[show doT o j n a b e=false by unfold doT;rw[if_neg h1,if_neg h2,if_neg h3,if_neg h4,if_neg h5,if_neg h6,if_neg h7]];simp(maxSteps:=300000) (disch:=first|omega|rfl|assumption)only[↓Yaa,Yac,Nae,Naa,rB,rC,rD,rE,reduceIte,unP,Xm,rF,g1,g3,kC,kN,gN,gA,kI,hdS,hdI,cbB,cbI,rbB,rbI,la,lb,le,Bool.not_true,Bool.not_false,h3']
    all_goals (first|done|exact kC _|(refine⟨?_,?_⟩<;>first|rfl|exact kC _))
  clear g1 g3 kC;rintro⟨env,⟨sto,c⟩⟩ ⟨g57,g1,kC⟩;simp only at g57 g1;replace kC:∀ n',St.get ⟨sto,n'⟩ K=some (.cells [.i .u8 (k:Int),.i .u8 (o:Int),.s j,.s i,.i .i64 n,va,vb,ve,.i .i64 r] false):=fun _=>kC;cases hT:doT o j n a b e with
  |true =>
    rw[hT]at g57
    iterate 2
     (try rw[Z0]);(try simp(disch:=first|omega|rfl|assumption)only[↓Yaa,Yab,Nae,Naa,rB,rC,rD,rE,reduceIte,unP,rF,g57])
    refine⟨nofun,_,rfl,?_⟩;simp only[Nay,↓Z0,↓Xp,↓Xt,Xq,Xc,Nae,Naa,rB,rC,rD,rE,reduceIte]
    all_goals rfl
  |false =>
    rw[hT]at g57;by_cases hi:Ne3 o=true
    ·skip
     iterate 4
      (try rw[Z0]);(try simp(disch:=first|omega|rfl|assumption)only[↓Yaa,Yab,Nae,Naa,rB,rC,rD,rE,reduceIte,unP,rF,g57,g1,kC,kI,hi,kN])
     refine⟨nofun,_,rfl,?_⟩;simp only[Nay,↓Z0,↓Xp,↓Xt,Xq,Xc,Nae,Naa,rB,rC,rD,rE,reduceIte]
     all_goals simp[hi]
    ·have hi':Ne3 o=false:=(by simpa using hi);by_cases hi2:i=[]
     ·subst hi2
      iterate 5
       (try rw[Z0]);(try simp(disch:=first|omega|rfl|assumption)only[↓Yaa,Yab,Nae,Naa,rB,rC,rD,rE,reduceIte,unP,rF,g57,g1,kC,kI,hi'])
      refine⟨nofun,_,rfl,?_⟩;simp only[Nay,↓Z0,↓Xp,↓Xt,Xq,Xc,Nae,Naa,rB,rC,rD,rE,reduceIte]
      all_goals simp[hi']
     ·have hi3:(i==[])=false:=by simpa using hi2
      iterate 5
       (try rw[Z0]);(try simp(disch:=first|omega|rfl|assumption)only[↓Yaa,Yab,Nae,Naa,rB,rC,rD,rE,reduceIte,unP,rF,g57,g1,kC,kI,hi',hi3])
      refine⟨nofun,_,rfl,?_⟩;simp only[Nay,↓Z0,↓Xp,↓Xt,Xq,Xc,Nae,Naa,rB,rC,rD,rE,reduceIte]
      all_goals simp[hi',hi3]
 rw[if_neg k1];by_cases k2:k=2
 ·rw[if_pos k2]
  iterate 4
   (try rw[Z0]);(try simp(disch:=first|omega|rfl|assumption)only[↓Yaa,Yab,Nae,Naa,rB,rC,rD,rE,reduceIte,unP,rF,g1,g3,kC])
  refine Za (fun x=>x.env.get 2=.b (Nfh o j i n a (b+e))) ?_ ?_
  ·by_cases h1:o≠0
   ·rw[show Nfh o j i n a (b+e)=false by unfold Nfh;rw[if_pos h1]];simp(maxSteps:=300000) (disch:=first|omega|rfl|assumption)only[↓Yaa,Yac,Nae,Naa,rB,rC,rD,rE,reduceIte,unP,Xm,rF,g1,g3,kC,kN,gN,gA,kI,hdS,hdI,cbB,cbI,rbB,rbI,la,lb,le,Bool.not_true,Bool.not_false]
   by_cases h2:j≠[]
   ·have h2b:(j==[])=false:=(by simpa using h2);rw[show Nfh o j i n a (b+e)=false by unfold Nfh;rw[if_neg h1,if_pos h2]];simp(maxSteps:=300000) (disch:=first|omega|rfl|assumption)only[↓Yaa,Yac,Nae,Naa,rB,rC,rD,rE,reduceIte,unP,Xm,rF,g1,g3,kC,kN,gN,gA,kI,hdS,hdI,cbB,cbI,rbB,rbI,la,lb,le,Bool.not_true,Bool.not_false,h2b]
   have h2b:(j==[])=true:=(by simpa using h2);by_cases h3:n≠0
   ·rw[show Nfh o j i n a (b+e)=false by unfold Nfh;rw[if_neg h1,if_neg h2,if_pos h3]];simp(maxSteps:=300000) (disch:=first|omega|rfl|assumption)only[↓Yaa,Yac,Nae,Naa,rB,rC,rD,rE,reduceIte,unP,Xm,rF,g1,g3,kC,kN,gN,gA,kI,hdS,hdI,cbB,cbI,rbB,rbI,la,lb,le,Bool.not_true,Bool.not_false,h2b]
   by_cases h4:a≠1
   ·rw[show Nfh o j i n a (b+e)=false by unfold Nfh;rw[if_neg h1,if_neg h2,if_neg h3,if_pos h4]];simp(maxSteps:=300000) (disch:=first|omega|rfl|assumption)only[↓Yaa,Yac,Nae,Naa,rB,rC,rD,rE,reduceIte,unP,Xm,rF,g1,g3,kC,kN,gN,gA,kI,hdS,hdI,cbB,cbI,rbB,rbI,la,lb,le,Bool.not_true,Bool.not_false,h2b]
   by_cases h5:b+e≠0
   ·rw[show Nfh o j i n a (b+e)=false by unfold Nfh;rw[if_neg h1,if_neg h2,if_neg h3,if_neg h4,if_pos h5]];simp(maxSteps:=300000) (disch:=first|omega|rfl|assumption)only[↓Yaa,Yac,Nae,Naa,rB,rC,rD,rE,reduceIte,unP,Xm,rF,g1,g3,kC,kN,gN,gA,kI,hdS,hdI,cbB,cbI,rbB,rbI,la,lb,le,Bool.not_true,Bool.not_false,h2b]
   rw[show Nfh o j i n a (b+e)=Nbb i by unfold Nfh;rw[if_neg h1,if_neg h2,if_neg h3,if_neg h4,if_neg h5]];simp(maxSteps:=300000) (disch:=first|omega|rfl|assumption)only[↓Yaa,Yac,Nae,Naa,rB,rC,rD,rE,reduceIte,unP,Xm,rF,g1,g3,kC,kN,gN,gA,kI,hdS,hdI,cbB,cbI,rbB,rbI,la,lb,le,Bool.not_true,Bool.not_false,h2b]
  rintro⟨env,⟨sto,c⟩⟩ g2;simp only at g2
  iterate 2
   (try rw[Z0]);(try simp(disch:=first|omega|rfl|assumption)only[↓Yaa,Yab,Nae,Naa,rB,rC,rD,rE,reduceIte,unP,rF,g2])
  refine⟨nofun,_,rfl,?_⟩;simp only[Nay,↓Z0,↓Xp,↓Xt,Xq,Xc,Nae,Naa,rB,rC,rD,rE,reduceIte]
  all_goals exact g2
 rw[if_neg k2]
 iterate 5
  (try rw[Z0]);(try simp(disch:=first|omega|rfl|assumption)only[↓Yaa,Yab,Nae,Naa,rB,rC,rD,rE,reduceIte,unP,rF,g1,g3,kC])
 refine Za (fun x=>x.env.get 109=.b (NbS o j i)∧x.env.get 1=.ptr K 0∧x.st.get K=some (.cells [.i .u8 (k:Int),.i .u8 (o:Int),.s j,.s i,.i .i64 n,va,vb,ve,.i .i64 r] false)) ?_ ?_
 ·by_cases h1:o≠0
  ·rw[show NbS o j i=true by unfold NbS;rw[if_pos h1]];simp(maxSteps:=300000) (disch:=first|omega|rfl|assumption)only[↓Yaa,Yac,Nae,Naa,rB,rC,rD,rE,reduceIte,unP,Xm,rF,g1,g3,kC,kN,gN,gA,kI,hdS,hdI,cbB,cbI,rbB,rbI,la,lb,le,Bool.not_true,Bool.not_false]
   all_goals (first|done|exact kC _|(refine⟨?_,?_⟩<;>first|rfl|exact kC _))
  by_cases h2:j≠[]
  ·have h2b:(j==[])=false:=(by simpa using h2);have h2c:(j != [])=true:=(by simpa using h2);rw[show NbS o j i=true by unfold NbS;rw[if_neg h1,if_pos h2]];simp(maxSteps:=300000) (disch:=first|omega|rfl|assumption)only[↓Yaa,Yac,Nae,Naa,rB,rC,rD,rE,reduceIte,unP,Xm,rF,g1,g3,kC,kN,gN,gA,kI,hdS,hdI,cbB,cbI,rbB,rbI,la,lb,le,Bool.not_true,Bool.not_false,h2b,h2c]
   all_goals (first|done|exact kC _|(refine⟨?_,?_⟩<;>first|rfl|exact kC _))
  have h2b:(j==[])=true:=by simpa using h2
  have h2c:(j != [])=false:=by simpa using h2
  by_cases h3:i=[]
  ·have h3b:(i==[])=true:=(by simpa using h3);have h3c:(i != [])=false:=(by simpa using h3);rw[show NbS o j i=false by unfold NbS;rw[if_neg h1,if_neg h2,h3c]];simp(maxSteps:=300000) (disch:=first|omega|rfl|assumption)only[↓Yaa,Yac,Nae,Naa,rB,rC,rD,rE,reduceIte,unP,Xm,rF,g1,g3,kC,kN,gN,gA,kI,hdS,hdI,cbB,cbI,rbB,rbI,la,lb,le,Bool.not_true,Bool.not_false,h2b,h2c,h3b,h3c]
   all_goals (first|done|exact kC _|(refine⟨?_,?_⟩<;>first|rfl|exact kC _))
  ·have h3b:(i==[])=false:=(by simpa using h3);have h3c:(i != [])=true:=(by simpa using h3);rw[show NbS o j i=true by unfold NbS;rw[if_neg h1,if_neg h2,h3c]];simp(maxSteps:=300000) (disch:=first|omega|rfl|assumption)only[↓Yaa,Yac,Nae,Naa,rB,rC,rD,rE,reduceIte,unP,Xm,rF,g1,g3,kC,kN,gN,gA,kI,hdS,hdI,cbB,cbI,rbB,rbI,la,lb,le,Bool.not_true,Bool.not_false,h2b,h2c,h3b,h3c]
   all_goals (first|done|exact kC _|(refine⟨?_,?_⟩<;>first|rfl|exact kC _))
 clear g1 g3 kC;rintro⟨env,⟨sto,c⟩⟩ ⟨g109,g1,kC⟩;simp only at g109 g1;replace kC:∀ n',St.get ⟨sto,n'⟩ K=some (.cells [.i .u8 (k:Int),.i .u8 (o:Int),.s j,.s i,.i .i64 n,va,vb,ve,.i .i64 r] false):=fun _=>kC;cases hT:NbS o j i with
 |true =>
   rw[hT]at g109
   iterate 2
    (try rw[Z0]);(try simp(disch:=first|omega|rfl|assumption)only[↓Yaa,Yab,Nae,Naa,rB,rC,rD,rE,reduceIte,unP,rF,g109])
   refine⟨nofun,_,rfl,?_⟩;simp only[Nay,↓Z0,↓Xp,↓Xt,Xq,Xc,Nae,Naa,rB,rC,rD,rE,reduceIte]
   all_goals rfl
 |false =>
   rw[hT]at g109;rw[if_neg Zaf];by_cases k3:k=3
   ·rw[if_pos k3];by_cases q1:n<0
    ·skip
     iterate 7
      (try rw[Z0]);(try simp(disch:=first|omega|rfl|assumption)only[↓Yaa,Yab,Nae,Naa,rB,rC,rD,rE,reduceIte,unP,rF,g109,g1,kC,la,lb,le])
     refine⟨nofun,_,rfl,?_⟩;simp only[Nay,↓Z0,↓Xp,↓Xt,Xq,Xc,Nae,Naa,rB,rC,rD,rE,reduceIte]
     all_goals simp[q1]
    by_cases q2:a=0
    ·by_cases q3:e=0
     ·skip
      iterate 7
       (try rw[Z0]);(try simp(disch:=first|omega|rfl|assumption)only[↓Yaa,Yab,Nae,Naa,rB,rC,rD,rE,reduceIte,unP,rF,g109,g1,kC,la,lb,le])
      refine⟨nofun,_,rfl,?_⟩;simp only[Nay,↓Z0,↓Xp,↓Xt,Xq,Xc,Nae,Naa,rB,rC,rD,rE,reduceIte]
      all_goals simp[q1,q2,q3]
     ·skip
      iterate 7
       (try rw[Z0]);(try simp(disch:=first|omega|rfl|assumption)only[↓Yaa,Yab,Nae,Naa,rB,rC,rD,rE,reduceIte,unP,rF,g109,g1,kC,la,lb,le])
      refine⟨nofun,_,rfl,?_⟩;simp only[Nay,↓Z0,↓Xp,↓Xt,Xq,Xc,Nae,Naa,rB,rC,rD,rE,reduceIte]
      all_goals simp[q1,q2,q3]
    ·skip
     iterate 7
      (try rw[Z0]);(try simp(disch:=first|omega|rfl|assumption)only[↓Yaa,Yab,Nae,Naa,rB,rC,rD,rE,reduceIte,unP,rF,g109,g1,kC,la,lb,le])
     refine⟨nofun,_,rfl,?_⟩;simp only[Nay,↓Z0,↓Xp,↓Xt,Xq,Xc,Nae,Naa,rB,rC,rD,rE,reduceIte]
     all_goals simp[q1,q2]
   rw[if_neg k3];by_cases k4:k=4
   ·rw[if_pos k4];by_cases q1:n=0
    ·by_cases q2:a=1
     ·skip
      iterate 7
       (try rw[Z0]);(try simp(disch:=first|omega|rfl|assumption)only[↓Yaa,Yab,Nae,Naa,rB,rC,rD,rE,reduceIte,unP,rF,g109,g1,kC,la,lb,le])
      refine⟨nofun,_,rfl,?_⟩;simp only[Nay,↓Z0,↓Xp,↓Xt,Xq,Xc,Nae,Naa,rB,rC,rD,rE,reduceIte]
      all_goals simp[q1,q2]
     ·skip
      iterate 7
       (try rw[Z0]);(try simp(disch:=first|omega|rfl|assumption)only[↓Yaa,Yab,Nae,Naa,rB,rC,rD,rE,reduceIte,unP,rF,g109,g1,kC,la,lb,le])
      refine⟨nofun,_,rfl,?_⟩;simp only[Nay,↓Z0,↓Xp,↓Xt,Xq,Xc,Nae,Naa,rB,rC,rD,rE,reduceIte]
      all_goals simp[q1,q2]
    ·skip
     iterate 7
      (try rw[Z0]);(try simp(disch:=first|omega|rfl|assumption)only[↓Yaa,Yab,Nae,Naa,rB,rC,rD,rE,reduceIte,unP,rF,g109,g1,kC,la,lb,le])
     refine⟨nofun,_,rfl,?_⟩;simp only[Nay,↓Z0,↓Xp,↓Xt,Xq,Xc,Nae,Naa,rB,rC,rD,rE,reduceIte]
     all_goals simp[q1]
   rw[if_neg k4]
   iterate 8
    (try rw[Z0]);(try simp(disch:=first|omega|rfl|assumption)only[↓Yaa,Yab,Nae,Naa,rB,rC,rD,rE,reduceIte,unP,rF,g109,g1,kC,la,lb,le])
   refine⟨nofun,_,rfl,?_⟩;simp only[Nay,↓Z0,↓Xp,↓Xt,Xq,Xc,Nae,Naa,rB,rC,rD,rE,reduceIte]
end Go.Pe
