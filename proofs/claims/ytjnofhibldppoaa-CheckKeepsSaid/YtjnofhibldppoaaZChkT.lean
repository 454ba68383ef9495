/-
 Trees: the walk that asks whether a program is right. No condition.
-/
import Derived.Test.YtjnofhibldppoaaZChkS
set_option linter.unusedVariables false
set_option linter.unusedSimpArgs false
set_option maxHeartbeats 8000000
open Nat renaming reduceAdd → rA,reduceMul → rB,reduceLT → rC,reduceEqDiff → rD,reduceLeDiff → rE
namespace Go.Pe
open Go Go.Am Go.RowKit
section
variable {st:St}{a n:Int}{s:List UInt8}{cfg:Cfg}{fuel kv:Nat}
theorem Nbn{g:List PV→Option PV}{key:Nat}{ps ps':List PV}{r:PV}(hd:Na9 st ps=some ps')(hg:g ps'=some r)(hc:r.closedB=true)(hr:Nav st key r=some (r,st)):Nap g false st key ps=some (r,st):=by
 unfold Nap;simp only[hd,hg,hc,if_true,hr]
theorem Nhv{k:IntKind}{z:Bool}{m:Nat}(cs:List PV):Go.Pe.deep st 12 (.agg [.i k a,.s s,.i .i64 n,slV z m cs])=some (.agg [.i k a,.s s,.i .i64 n,slV z m cs]):=by
 unfold slV;split<;>rfl
theorem Nie{k:IntKind}{z:Bool}{m:Nat}(cs:List PV):Naw [.agg [.i k a,.s s,.i .i64 n,slV z m cs]]=([.agg [.i k a,.s s,.i .i64 n,slV z m cs]],{ sto:=.leaf,cnt:=1 }):=by
 unfold slV;split<;>rfl
theorem Nhu{k1 k2:IntKind}{b r:Int}{t:List UInt8}{z1 z2 z3:Bool}{m1 m2 m3:Nat}(c1 c2 c3:List PV):Go.Pe.deep st 12 (.agg [.i k1 a,.i k2 b,.s s,.s t,.i .i64 n,slV z1 m1 c1,slV z2 m2 c2,slV z3 m3 c3,.i .i64 r])=some (.agg [.i k1 a,.i k2 b,.s s,.s t,.i .i64 n,slV z1 m1 c1,slV z2 m2 c2,slV z3 m3 c3,.i .i64 r]):=by
 unfold slV;split<;>split<;>split<;>rfl
theorem Nid{k1 k2:IntKind}{b r:Int}{t:List UInt8}{z1 z2 z3:Bool}{m1 m2 m3:Nat}(c1 c2 c3:List PV):Naw [.agg [.i k1 a,.i k2 b,.s s,.s t,.i .i64 n,slV z1 m1 c1,slV z2 m2 c2,slV z3 m3 c3,.i .i64 r]]=([.agg [.i k1 a,.i k2 b,.s s,.s t,.i .i64 n,slV z1 m1 c1,slV z2 m2 c2,slV z3 m3 c3,.i .i64 r]],{ sto:=.leaf,cnt:=1 }):=by
 unfold slV;split<;>split<;>split<;>rfl
def NcI(ask:Bool)(d:Nat)(r:Bool)(w:Nat×Bool):Nat×Bool :=
 (w.1+1,if w.2=true then true else if 1000<w.1+1 then true else if 20<d then true else if ask=true then !r else false)
def wkC(ask:Bool)(w:Nat×Bool):List PV:=[.i .i64 (w.1:Int),.b ask,.b w.2]
structure Keeps(k:Nat)(st st':St):Prop where
 g:∀ j,j≠k→j<st.cnt→st'.get j=st.get j
 c:st.cnt≤st'.cnt
theorem Keeps.trans{k:Nat}{a b c:St}(h1:Keeps k a b)(h2:Keeps k b c):Keeps k a c :=
 ⟨fun j hj hl=>by rw[h2.g j hj (by have:=h1.c;omega),h1.g j hj hl],Nat.le_trans h1.c h2.c⟩
theorem NjY(hc:CfgT cfg){k F d:Nat}{ask r:Bool}{w:Nat×Bool}(hk:st.get k=some (.cells (wkC ask w) false))(hlt:k<st.cnt)(hx:cfg.ext F=none)
 (hF:∀ S:St,S.get kv=st.get kv→∃ N,S.cnt≤N∧NaI cfg fuel F [.ptr kv 0] S=some (.b r,⟨S.sto,N⟩)) (hkv:kv≠k) (hw:w.1<4611686018427387904) (hd:d<4611686018427387904) :
 ∃ r' st',NaI cfg (fuel+1) 65 [.ptr k 0,.i .i64 (d:Int),.fn F [.ptr kv 0]] st=some (r',st')∧(r'=.b (!(NcI ask d r w).2)∧st'.get k=some (.cells (wkC ask (NcI ask d r w)) false)∧Keeps k st st'):=by
 refine Naz (hc.fn _ _ (by kernel_rfl):cfg.fn 65=some m65) ?_;delta m65 Qa Qr Qf Qc Ql Qt Qn Qs Qk Qm Qh Qi Qv;obtain⟨n,bad⟩:=w;unfold wkC at hk;simp only at hk hw;have hk':∀ n',St.get ⟨st.sto,n'⟩ k=some (.cells [.i .i64 (n:Int),.b ask,.b bad] false):=fun _=>hk;have hF':∀ (n':Nat) (o:Option PObj),∃ N,n'≤N∧NaI cfg fuel F [.ptr kv 0] ((⟨st.sto,n'⟩:St).put k o)=some (.b r,⟨((⟨st.sto,n'⟩:St).put k o).sto,N⟩):=fun n' o=>by
  obtain⟨N,h1,h2⟩:=hF ((⟨st.sto,n'⟩:St).put k o) (by rw[Yae (Ne.symm hkv)];rfl);exact⟨N,h1,h2⟩
 simp only[Naj]
 iterate 2
  (try rw[Z0]);(try simp(disch:=first|omega|rfl|assumption)only[↓Yaa,Yab,Nae,Naa,rA,rB,rC,rD,reduceIte,unP,rE,hk'])
 obtain⟨bb,hbb⟩:∃ bb,(NcI ask d r (n,bad)).2=bb:=⟨_,rfl⟩;have h1b:NcI ask d r (n,bad)=(n+1,bb):=by rw[←hbb];rfl
 rw[h1b];unfold NcI at hbb;simp only at hbb;refine Za (fun x=>x.env.get 0=.ptr k 0∧x.st.get k=some (.cells [.i .i64 ((n+1:Nat):Int),.b ask,.b bb] false)∧Keeps k st x.st) ?_ ?_
 ·have kp:∀ (N:Nat) (o o':Option PObj),st.cnt≤N→Keeps k st ((⟨((⟨st.sto,st.cnt+72⟩:St).put k o).sto,N⟩:St).put k o'):=fun N o o' hN =>
   ⟨fun j hj hl=>by rw[Yae (Ne.symm hj),NaB,Yae (Ne.symm hj)];rfl,hN⟩
  cases bad with
  |true =>
    simp only[if_true]at hbb;subst hbb;simp(maxSteps:=300000) (disch:=first|omega|rfl|assumption)only[↓Yaa,Yac,Nae,Naa,rA,rB,rC,rD,reduceIte,unP,Xm,rE,hk',Bool.not_true];exact kp _ _ _ Zaa
  |false =>
    simp only[Bool.false_eq_true,if_false]at hbb;by_cases h1:1000<n+1
    ·rw[if_pos h1]at hbb;subst hbb;simp(maxSteps:=300000) (disch:=first|omega|rfl|assumption)only[↓Yaa,Yac,Nae,Naa,rA,rB,rC,rD,reduceIte,unP,Xm,rE,hk',Bool.not_true];exact kp _ _ _ Zaa
    rw[if_neg h1]at hbb;by_cases h2:20<d
    ·rw[if_pos h2]at hbb;subst hbb;simp(maxSteps:=300000) (disch:=first|omega|rfl|assumption)only[↓Yaa,Yac,Nae,Naa,rA,rB,rC,rD,reduceIte,unP,Xm,rE,hk',Bool.not_true];exact kp _ _ _ Zaa
    rw[if_neg h2]at hbb;cases ask with
    |false =>
      simp only[Bool.false_eq_true,if_false]at hbb;subst hbb;simp(maxSteps:=300000) (disch:=first|omega|rfl|assumption)only[↓Yaa,Yac,Nae,Naa,rA,rB,rC,rD,reduceIte,unP,Xm,rE,hk',Bool.not_true];exact kp _ _ _ Zaa
    |true =>
      simp only[if_true]at hbb;subst hbb;simp(maxSteps:=300000) (disch:=first|omega|rfl|assumption)only[↓Yaa,Yac,Nae,Naa,rA,rB,rC,rD,reduceIte,unP,Xm,rE,hk',Bool.not_true,hx,List.map_nil,Zam];obtain⟨N,h3,h4⟩:=hF ⟨((⟨st.sto,st.cnt+72⟩:St).put k (some (.cells [.i .i64 ((n+1:Nat):Int),.b true,.b false] false))).sto,st.cnt+312⟩ (by rw[NaB,Yae (Ne.symm hkv)];rfl);simp only at h3 h4;rw[h4];simp(maxSteps:=300000) (disch:=first|omega|rfl|assumption)only[↓Yaa,Yac,Nae,Naa,rA,rB,rC,rD,reduceIte,unP,Xm,rE];exact kp _ _ _ Zaa
 rintro⟨env,⟨sto,c⟩⟩ ⟨g0,k1,kp⟩;simp only at g0;replace k1:∀ n',St.get ⟨sto,n'⟩ k=some (.cells [.i .i64 ((n+1:Nat):Int),.b ask,.b bb] false):=fun _=>k1
 iterate 2
  (try rw[Z0]);(try simp(disch:=first|omega|rfl|assumption)only[↓Yaa,Yab,Nae,Naa,rA,rB,rC,rD,reduceIte,unP,rE,g0,k1])
 refine⟨nofun,_,rfl,?_⟩;simp only[NaF,↓Z0,↓Xp,↓Xt,Xq,Xc,Nae,Naa,rA,rB,rC,rD,reduceIte];exact⟨rfl,fun j hj hl=>kp.g j hj hl,by have:=kp.c;simp only at this ⊢;omega⟩
theorem NlE(hc:CfgT cfg)(hfu:13≤fuel){S:St}{e:Ex}(hk:S.get kv=some (.cells [.i .u8 (e.K.toNat:Int),.s e.S,.i .i64 e.N,slV e.z e.L.length (Exs.cs e.L)] false)) :
 ∃ N,S.cnt≤N∧NaI cfg (fuel+1) 86 [.ptr kv 0] S=some (.b (Nbz e.K.toNat e.S e.N e.L.length),⟨S.sto,N⟩):=by
 obtain⟨r,st',h1,h2⟩:=Naz (R:=fun r st'=>r=.b (Nbz e.K.toNat e.S e.N e.L.length)∧st'.sto=S.sto∧S.cnt≤st'.cnt) (hc.fn _ _ (by kernel_rfl):cfg.fn 86=some m86) (args:=[.ptr kv 0]) (st:=S) (fuel:=fuel) (by
  delta m86 Ql Qt Qm Qi Qw;have kA:∀ (st:St) (key:Nat),Nap (Nam cfg (NaI cfg fuel) 87) false st key [.agg [.i .u8 (e.K.toNat:Int),.s e.S,.i .i64 e.N,slV e.z e.L.length (Exs.cs e.L)]]=some (.b (Nbz e.K.toNat e.S e.N e.L.length),st):=fun st key=>by
   obtain⟨q,rfl⟩:∃ q,fuel=q+1:=⟨fuel - 1,by omega⟩;refine Nbn (Nbh (Nhv _)) (NaA hc.x8 (Nie _) (fun _=>rfl) (NiE hc Zaa (NaM _ _ _) (Nai _ _ _) (Naf _ _ _))) rfl rfl
  have hk':∀ n',St.get ⟨S.sto,n'⟩ kv=_:=fun _=>hk;simp only[Naj]
  iterate 3
   (try rw[Z0]);(try simp(disch:=first|omega|rfl|assumption)only[↓Yaa,Yab,Nae,Naa,rA,rB,rC,rD,reduceIte,unP,rE,hk',kA])
  refine⟨nofun,_,rfl,?_⟩;simp only[NaF,↓Z0,↓Xp,↓Xt,Xq,Xc,Nae,Naa,rA,rB,rC,rD,reduceIte]
  all_goals exact⟨rfl,rfl,by omega⟩)
 obtain⟨q1,q2,q3⟩:=h2;refine⟨st'.cnt,q3,?_⟩;rw[h1,q1];obtain⟨a,b⟩:=st';simp only at q2;rw[q2]
theorem Nmn(hc:CfgT cfg)(hfu:13≤fuel){S:St}{e:Sm}(hb:e.B.length+e.E.length<9223372036854775808)(hk:S.get kv=some (.cells [.i .u8 (e.K.toNat:Int),.i .u8 (e.O.toNat:Int),.s e.J,.s e.I,.i .i64 e.N,slV e.za e.A.length (Exs.cs e.A),slV e.zb e.B.length (Sms.cs e.B),slV e.ze e.E.length (Sms.cs e.E),.i .i64 e.R] false)) :
 ∃ N,S.cnt≤N∧NaI cfg (fuel+1) 66 [.ptr kv 0] S=some (.b (NbL e.K.toNat e.O.toNat e.J e.I e.N e.A.length e.B.length e.E.length),⟨S.sto,N⟩):=by
 obtain⟨r,st',h1,h2⟩:=Naz (R:=fun r st'=>r=.b (NbL e.K.toNat e.O.toNat e.J e.I e.N e.A.length e.B.length e.E.length)∧st'.sto=S.sto∧S.cnt≤st'.cnt) (hc.fn _ _ (by kernel_rfl):cfg.fn 66=some m66) (args:=[.ptr kv 0]) (st:=S) (fuel:=fuel) (by
  delta m66 Ql Qt Qm Qi Qw;have kA:∀ (st:St) (key:Nat),Nap (Nam cfg (NaI cfg fuel) 67) false st key [.agg [.i .u8 (e.K.toNat:Int),.i .u8 (e.O.toNat:Int),.s e.J,.s e.I,.i .i64 e.N,slV e.za e.A.length (Exs.cs e.A),slV e.zb e.B.length (Sms.cs e.B),slV e.ze e.E.length (Sms.cs e.E),.i .i64 e.R]]=some (.b (NbL e.K.toNat e.O.toNat e.J e.I e.N e.A.length e.B.length e.E.length),st):=fun st key=>by
   obtain⟨q,rfl⟩:∃ q,fuel=q+1:=⟨fuel - 1,by omega⟩;refine Nbn (Nbh (Nhu _ _ _)) (NaA hc.x7 (Nid _ _ _) (fun _=>rfl) (NjC hc Zaa (NaM _ _ _) (NaM _ _ _) (NaM _ _ _) (Nai _ _ _) (Nai _ _ _) (Nai _ _ _) (Naf _ _ _) (Naf _ _ _) (Naf _ _ _) hb)) rfl rfl
  have hk':∀ n',St.get ⟨S.sto,n'⟩ kv=_:=fun _=>hk;simp only[Naj]
  iterate 3
   (try rw[Z0]);(try simp(disch:=first|omega|rfl|assumption)only[↓Yaa,Yab,Nae,Naa,rA,rB,rC,rD,reduceIte,unP,rE,hk',kA])
  refine⟨nofun,_,rfl,?_⟩;simp only[NaF,↓Z0,↓Xp,↓Xt,Xq,Xc,Nae,Naa,rA,rB,rC,rD,reduceIte]
  all_goals exact⟨rfl,rfl,by omega⟩)
 obtain⟨q1,q2,q3⟩:=h2;refine⟨st'.cnt,q3,?_⟩;rw[h1,q1];obtain⟨a,b⟩:=st';simp only at q2;rw[q2]
end
mutual
def Ex.walk(ask:Bool):Ex→Nat→Nat×Bool→Nat×Bool
 |.mk k s n z l,d,w=>if(NcI ask d (Nbz k.toNat s n l.length) w).2=true then NcI ask d (Nbz k.toNat s n l.length) w else Exs.walk ask l (d+1) (NcI ask d (Nbz k.toNat s n l.length) w)
def Exs.walk(ask:Bool):List Ex→Nat→Nat×Bool→Nat×Bool
 |[],_,w=>w
 |e::r,d,w=>if(NcI ask d (Nbz e.K.toNat e.S e.N e.L.length) w).2=true then NcI ask d (Nbz e.K.toNat e.S e.N e.L.length) w else Exs.walk ask r d (e.walk ask d w)
end
theorem Ex.walk_eq(ask:Bool)(e:Ex)(d:Nat)(w:Nat×Bool):e.walk ask d w=if(NcI ask d (Nbz e.K.toNat e.S e.N e.L.length) w).2=true then NcI ask d (Nbz e.K.toNat e.S e.N e.L.length) w else Exs.walk ask e.L (d+1) (NcI ask d (Nbz e.K.toNat e.S e.N e.L.length) w):=by
 cases e;rw[Ex.walk];rfl
end Go.Pe
