/-
 Trees: the walk over statements. No condition.
-/
import Derived.Test.YtjnofhibldppoaaZChkS
set_option linter.unusedVariables false
set_option linter.unusedSimpArgs false
set_option maxHeartbeats 8000000
open Nat renaming reduceAdd → rB,reduceMul → rC,reduceLT → rD,reduceEqDiff → rE,reduceLeDiff → rF
namespace Go.Pe
open Go Go.Am Go.RowKit
section
variable {st:St}{a n:Int}{s:List UInt8}{cfg:Cfg}{fuel kv:Nat}
theorem NaH{g:List PV→Option PV}{key:Nat}{ps ps':List PV}{r:PV}(hd:Nbk st ps=some ps')(hg:g ps'=some r)(hc:r.closedB=true)(hr:NaE st key r=some (r,st)):Nam g false st key ps=some (r,st):=by
 unfold Nam;simp only[hd,hg,hc,if_true,hr]
theorem NjJ{k:IntKind}{z:Bool}{m:Nat}(cs:List PV):Go.Pe.deep st 12 (.agg [.i k a,.s s,.i .i64 n,slV z m cs])=some (.agg [.i k a,.s s,.i .i64 n,slV z m cs]):=by
 unfold slV;split<;>rfl
theorem Nky{k:IntKind}{z:Bool}{m:Nat}(cs:List PV):NaC [.agg [.i k a,.s s,.i .i64 n,slV z m cs]]=([.agg [.i k a,.s s,.i .i64 n,slV z m cs]],{ sto:=.leaf,cnt:=1 }):=by
 unfold slV;split<;>rfl
theorem NjI{k1 k2:IntKind}{b r:Int}{t:List UInt8}{z1 z2 z3:Bool}{m1 m2 m3:Nat}(c1 c2 c3:List PV):Go.Pe.deep st 12 (.agg [.i k1 a,.i k2 b,.s s,.s t,.i .i64 n,slV z1 m1 c1,slV z2 m2 c2,slV z3 m3 c3,.i .i64 r])=some (.agg [.i k1 a,.i k2 b,.s s,.s t,.i .i64 n,slV z1 m1 c1,slV z2 m2 c2,slV z3 m3 c3,.i .i64 r]):=by
 unfold slV;split<;>split<;>split<;>rfl
theorem Nkx{k1 k2:IntKind}{b r:Int}{t:List UInt8}{z1 z2 z3:Bool}{m1 m2 m3:Nat}(c1 c2 c3:List PV):NaC [.agg [.i k1 a,.i k2 b,.s s,.s t,.i .i64 n,slV z1 m1 c1,slV z2 m2 c2,slV z3 m3 c3,.i .i64 r]]=([.agg [.i k1 a,.i k2 b,.s s,.s t,.i .i64 n,slV z1 m1 c1,slV z2 m2 c2,slV z3 m3 c3,.i .i64 r]],{ sto:=.leaf,cnt:=1 }):=by
 unfold slV;split<;>split<;>split<;>rfl
def NcK(ask:Bool)(d:Nat)(r:Bool)(w:Nat×Bool):Nat×Bool :=
 (w.1+1,if w.2=true then true else if 1000<w.1+1 then true else if 20<d then true else if ask=true then !r else false)
def wkC(ask:Bool)(w:Nat×Bool):List PV:=[.i .i64 (w.1:Int),.b ask,.b w.2]
structure Keeps(k:Nat)(st st':St):Prop where
 g:∀ j,j≠k→j<st.cnt→st'.get j=st.get j
 c:st.cnt≤st'.cnt
theorem Keeps.trans{k:Nat}{a b c:St}(h1:Keeps k a b)(h2:Keeps k b c):Keeps k a c :=
 ⟨fun j hj hl=>by rw[h2.g j hj (by have:=h1.c;omega),h1.g j hj hl],Nat.le_trans h1.c h2.c⟩
theorem NmQ(hc:CfgT cfg){k F d:Nat}{ask r:Bool}{w:Nat×Bool}(hk:st.get k=some (.cells (wkC ask w) false))(hlt:k<st.cnt)(hx:cfg.ext F=none)
 (hF:∀ S:St,S.get kv=st.get kv→∃ N,S.cnt≤N∧Nay cfg fuel F [.ptr kv 0] S=some (.b r,⟨S.sto,N⟩)) (hkv:kv≠k) (hw:w.1<4611686018427387904) (hd:d<4611686018427387904) :
 ∃ r' st',Nay cfg (fuel+1) 65 [.ptr k 0,.i .i64 (d:Int),.fn F [.ptr kv 0]] st=some (r',st')∧(r'=.b (!(NcK ask d r w).2)∧st'.get k=some (.cells (wkC ask (NcK ask d r w)) false)∧Keeps k st st'):=by
 refine Nax (hc.fn _ _ (by kernel_rfl):cfg.fn 65=some m65) ?_;delta m65 Qa Qr Qf Qc Ql Qt Qn Qs Qk Qm Qh Qi Qv;obtain⟨n,bad⟩:=w;unfold wkC at hk;simp only at hk hw;have hk':∀ n',St.get ⟨st.sto,n'⟩ k=some (.cells [.i .i64 (n:Int),.b ask,.b bad] false):=fun _=>hk;have hF':∀ (n':Nat) (o:Option PObj),∃ N,n'≤N∧Nay cfg fuel F [.ptr kv 0] ((⟨st.sto,n'⟩:St).put k o)=some (.b r,⟨((⟨st.sto,n'⟩:St).put k o).sto,N⟩):=fun n' o=>by
  obtain⟨N,h1,h2⟩:=hF ((⟨st.sto,n'⟩:St).put k o) (by rw[Yae (Ne.symm hkv)];rfl);exact⟨N,h1,h2⟩
 simp only[Naj]
 iterate 2
  (try rw[Z0]);(try simp(disch:=first|omega|rfl|assumption)only[↓Yaa,Yab,Nae,Naa,rB,rC,rD,rE,reduceIte,unP,rF,hk'])
 obtain⟨bb,hbb⟩:∃ bb,(NcK ask d r (n,bad)).2=bb:=⟨_,rfl⟩;have h1b:NcK ask d r (n,bad)=(n+1,bb):=by rw[←hbb];rfl
 rw[h1b];unfold NcK at hbb;simp only at hbb;refine Za (fun x=>x.env.get 0=.ptr k 0∧x.st.get k=some (.cells [.i .i64 ((n+1:Nat):Int),.b ask,.b bb] false)∧Keeps k st x.st) ?_ ?_
 ·have kp:∀ (N:Nat) (o o':Option PObj),st.cnt≤N→Keeps k st ((⟨((⟨st.sto,st.cnt+72⟩:St).put k o).sto,N⟩:St).put k o'):=fun N o o' hN =>
   ⟨fun j hj hl=>by rw[Yae (Ne.symm hj),NaG,Yae (Ne.symm hj)];rfl,hN⟩
  cases bad with
  |true =>
    simp only[if_true]at hbb;subst hbb;simp(maxSteps:=300000) (disch:=first|omega|rfl|assumption)only[↓Yaa,Yac,Nae,Naa,rB,rC,rD,rE,reduceIte,unP,Xm,rF,hk',Bool.not_true];exact kp _ _ _ Zaa
  |false =>
    simp only[Bool.false_eq_true,if_false]at hbb;by_cases h1:1000<n+1
    ·rw[if_pos h1]at hbb;subst hbb;simp(maxSteps:=300000) (disch:=first|omega|rfl|assumption)only[↓Yaa,Yac,Nae,Naa,rB,rC,rD,rE,reduceIte,unP,Xm,rF,hk',Bool.not_true];exact kp _ _ _ Zaa
    rw[if_neg h1]at hbb;by_cases h2:20<d
    ·rw[if_pos h2]at hbb;subst hbb;simp(maxSteps:=300000) (disch:=first|omega|rfl|assumption)only[↓Yaa,Yac,Nae,Naa,rB,rC,rD,rE,reduceIte,unP,Xm,rF,hk',Bool.not_true];exact kp _ _ _ Zaa
    rw[if_neg h2]at hbb;cases ask with
    |false =>
      simp only[Bool.false_eq_true,if_false]at hbb;subst hbb;simp(maxSteps:=300000) (disch:=first|omega|rfl|assumption)only[↓Yaa,Yac,Nae,Naa,rB,rC,rD,rE,reduceIte,unP,Xm,rF,hk',Bool.not_true];exact kp _ _ _ Zaa
    |true =>
      simp only[if_true]at hbb;subst hbb;simp(maxSteps:=300000) (disch:=first|omega|rfl|assumption)only[↓Yaa,Yac,Nae,Naa,rB,rC,rD,rE,reduceIte,unP,Xm,rF,hk',Bool.not_true,hx,List.map_nil,Zan];obtain⟨N,h3,h4⟩:=hF ⟨((⟨st.sto,st.cnt+72⟩:St).put k (some (.cells [.i .i64 ((n+1:Nat):Int),.b true,.b false] false))).sto,st.cnt+312⟩ (by rw[NaG,Yae (Ne.symm hkv)];rfl);simp only at h3 h4;rw[h4];simp(maxSteps:=300000) (disch:=first|omega|rfl|assumption)only[↓Yaa,Yac,Nae,Naa,rB,rC,rD,rE,reduceIte,unP,Xm,rF];exact kp _ _ _ Zaa
 rintro⟨env,⟨sto,c⟩⟩ ⟨g0,k1,kp⟩;simp only at g0;replace k1:∀ n',St.get ⟨sto,n'⟩ k=some (.cells [.i .i64 ((n+1:Nat):Int),.b ask,.b bb] false):=fun _=>k1
 iterate 2
  (try rw[Z0]);(try simp(disch:=first|omega|rfl|assumption)only[↓Yaa,Yab,Nae,Naa,rB,rC,rD,rE,reduceIte,unP,rF,g0,k1])
 refine⟨nofun,_,rfl,?_⟩;simp only[Nau,↓Z0,↓Xp,↓Xt,Xq,Xc,Nae,Naa,rB,rC,rD,rE,reduceIte];exact⟨rfl,fun j hj hl=>kp.g j hj hl,by have:=kp.c;simp only at this ⊢;omega⟩
theorem No0(hc:CfgT cfg)(hfu:13≤fuel){S:St}{e:Ex}(hk:S.get kv=some (.cells [.i .u8 (e.K.toNat:Int),.s e.S,.i .i64 e.N,slV e.z e.L.length (Exs.cs e.L)] false)) :
 ∃ N,S.cnt≤N∧Nay cfg (fuel+1) 86 [.ptr kv 0] S=some (.b (Nbd e.K.toNat e.S e.N e.L.length),⟨S.sto,N⟩):=by
 obtain⟨r,st',h1,h2⟩:=Nax (R:=fun r st'=>r=.b (Nbd e.K.toNat e.S e.N e.L.length)∧st'.sto=S.sto∧S.cnt≤st'.cnt) (hc.fn _ _ (by kernel_rfl):cfg.fn 86=some m86) (args:=[.ptr kv 0]) (st:=S) (fuel:=fuel) (by
  delta m86 Ql Qt Qm Qi Qw;have kA:∀ (st:St) (key:Nat),Nam (Nak cfg (Nay cfg fuel) 87) false st key [.agg [.i .u8 (e.K.toNat:Int),.s e.S,.i .i64 e.N,slV e.z e.L.length (Exs.cs e.L)]]=some (.b (Nbd e.K.toNat e.S e.N e.L.length),st):=fun st key=>by
   obtain⟨q,rfl⟩:∃ q,fuel=q+1:=⟨fuel - 1,by omega⟩;refine NaH (NaR (NjJ _)) (Nar hc.x8 (Nky _) (fun _=>rfl) (Nlb hc Zaa (NaF _ _ _) (Nag _ _ _) (Naf _ _ _))) rfl rfl
  have hk':∀ n',St.get ⟨S.sto,n'⟩ kv=_:=fun _=>hk;simp only[Naj]
  iterate 3
   (try rw[Z0]);(try simp(disch:=first|omega|rfl|assumption)only[↓Yaa,Yab,Nae,Naa,rB,rC,rD,rE,reduceIte,unP,rF,hk',kA])
  refine⟨nofun,_,rfl,?_⟩;simp only[Nau,↓Z0,↓Xp,↓Xt,Xq,Xc,Nae,Naa,rB,rC,rD,rE,reduceIte]
  all_goals exact⟨rfl,rfl,by omega⟩)
 obtain⟨q1,q2,q3⟩:=h2;refine⟨st'.cnt,q3,?_⟩;rw[h1,q1];obtain⟨a,b⟩:=st';simp only at q2;rw[q2]
theorem NpX(hc:CfgT cfg)(hfu:13≤fuel){S:St}{e:Sm}(hb:e.B.length+e.E.length<9223372036854775808)(hk:S.get kv=some (.cells [.i .u8 (e.K.toNat:Int),.i .u8 (e.O.toNat:Int),.s e.J,.s e.I,.i .i64 e.N,slV e.za e.A.length (Exs.cs e.A),slV e.zb e.B.length (Sms.cs e.B),slV e.ze e.E.length (Sms.cs e.E),.i .i64 e.R] false)) :
 ∃ N,S.cnt≤N∧Nay cfg (fuel+1) 66 [.ptr kv 0] S=some (.b (Na0 e.K.toNat e.O.toNat e.J e.I e.N e.A.length e.B.length e.E.length),⟨S.sto,N⟩):=by
 obtain⟨r,st',h1,h2⟩:=Nax (R:=fun r st'=>r=.b (Na0 e.K.toNat e.O.toNat e.J e.I e.N e.A.length e.B.length e.E.length)∧st'.sto=S.sto∧S.cnt≤st'.cnt) (hc.fn _ _ (by kernel_rfl):cfg.fn 66=some m66) (args:=[.ptr kv 0]) (st:=S) (fuel:=fuel) (by
  delta m66 Ql Qt Qm Qi Qw;have kA:∀ (st:St) (key:Nat),Nam (Nak cfg (Nay cfg fuel) 67) false st key [.agg [.i .u8 (e.K.toNat:Int),.i .u8 (e.O.toNat:Int),.s e.J,.s e.I,.i .i64 e.N,slV e.za e.A.length (Exs.cs e.A),slV e.zb e.B.length (Sms.cs e.B),slV e.ze e.E.length (Sms.cs e.E),.i .i64 e.R]]=some (.b (Na0 e.K.toNat e.O.toNat e.J e.I e.N e.A.length e.B.length e.E.length),st):=fun st key=>by
   obtain⟨q,rfl⟩:∃ q,fuel=q+1:=⟨fuel - 1,by omega⟩;refine NaH (NaR (NjI _ _ _)) (Nar hc.x7 (Nkx _ _ _) (fun _=>rfl) (Nmm hc Zaa (NaF _ _ _) (NaF _ _ _) (NaF _ _ _) (Nag _ _ _) (Nag _ _ _) (Nag _ _ _) (Naf _ _ _) (Naf _ _ _) (Naf _ _ _) hb)) rfl rfl
  have hk':∀ n',St.get ⟨S.sto,n'⟩ kv=_:=fun _=>hk;simp only[Naj]
  iterate 3
   (try rw[Z0]);(try simp(disch:=first|omega|rfl|assumption)only[↓Yaa,Yab,Nae,Naa,rB,rC,rD,rE,reduceIte,unP,rF,hk',kA])
  refine⟨nofun,_,rfl,?_⟩;simp only[Nau,↓Z0,↓Xp,↓Xt,Xq,Xc,Nae,Naa,rB,rC,rD,rE,reduceIte]
  all_goals exact⟨rfl,rfl,by omega⟩)
 obtain⟨q1,q2,q3⟩:=h2;refine⟨st'.cnt,q3,?_⟩;rw[h1,q1];obtain⟨a,b⟩:=st';simp only at q2;rw[q2]
end
mutual
def Ex.walk(ask:Bool):Ex→Nat→Nat×Bool→Nat×Bool
 |.mk k s n z l,d,w=>if(NcK ask d (Nbd k.toNat s n l.length) w).2=true then NcK ask d (Nbd k.toNat s n l.length) w else Exs.walk ask l (d+1) (NcK ask d (Nbd k.toNat s n l.length) w)
def Exs.walk(ask:Bool):List Ex→Nat→Nat×Bool→Nat×Bool
 |[],_,w=>w
 |e::r,d,w=>if(NcK ask d (Nbd e.K.toNat e.S e.N e.L.length) w).2=true then NcK ask d (Nbd e.K.toNat e.S e.N e.L.length) w else Exs.walk ask r d (e.walk ask d w)
end
theorem Ex.walk_eq(ask:Bool)(e:Ex)(d:Nat)(w:Nat×Bool):e.walk ask d w=if(NcK ask d (Nbd e.K.toNat e.S e.N e.L.length) w).2=true then NcK ask d (Nbd e.K.toNat e.S e.N e.L.length) w else Exs.walk ask e.L (d+1) (NcK ask d (Nbd e.K.toNat e.S e.N e.L.length) w):=by
 cases e;rw[Ex.walk];rfl
end Go.Pe
set_option maxHeartbeats 8000000
namespace Go.Pe
open Go Go.Am Go.RowKit
structure CfgV(cfg:Cfg):Prop extends CfgT cfg where
 y1:cfg.ext 65=none
 y2:cfg.ext 68=none
 y3:cfg.ext 47=none
 y4:cfg.ext 36=none
 y5:cfg.ext 86=none
 y6:cfg.ext 66=none
theorem Ncp(s:Trie PObj)(a b k:Nat):St.get ⟨s,a⟩ k=St.get ⟨s,b⟩ k:=rfl
theorem NgT(ask:Bool)(d:Nat)(r:Bool)(w:Nat×Bool):(NcK ask d r w).1=w.1+1:=rfl
mutual
theorem Ex.walk_n(ask:Bool):∀ (e:Ex) (d:Nat) (w:Nat×Bool),(e.walk ask d w).1≤w.1+e.size
 |.mk k s n z l,d,w=>by
   rw[Ex.walk,Ex.size];split
   ·rw[NgT];omega
   ·have:=Exs.walk_n ask l (d+1) (NcK ask d (Nbd k.toNat s n l.length) w);rw[NgT]at this;omega
theorem Exs.walk_n(ask:Bool):∀ (l:List Ex) (d:Nat) (w:Nat×Bool),(Exs.walk ask l d w).1≤w.1+Exs.size l
 |[],d,w=>by rw[Exs.walk,Exs.size];omega
 |e::r,d,w=>by
   rw[Exs.walk,Exs.size];split
   ·rw[NgT,Ex.size_eq];omega
   ·have h1:=Exs.walk_n ask r d (e.walk ask d w);have h2:=Ex.walk_n ask e d w;omega
end
theorem Nlv{cfg:Cfg}(hc:CfgV cfg):∀ (fuel:Nat) (l:List Ex) (z:Bool) (d:Nat) (ask:Bool) (w:Nat×Bool) (st:St) (k:Nat),Exs.size l+20≤fuel→st.get k=some (.cells (wkC ask w) false)→k<st.cnt→w.1+Exs.size l<2305843009213693952→d+Exs.size l<2305843009213693952 →
 ∃ r st',Nay cfg (fuel+1) 68 [.ptr k 0,slV z l.length (Exs.cs l),.i .i64 (d:Int)] st=some (r,st')∧(st'.get k=some (.cells (wkC ask (Exs.walk ask l d w)) false)∧Keeps k st st'):=by
 intro fuel
 induction fuel with
 |zero=>intro l z d ask w st k h;omega
 |succ q ih =>
   intro l z d ask w st k hfu hk hlt hw hd;refine Nax (hc.fn _ _ (by kernel_rfl):cfg.fn 68=some m68) ?_;delta m68 Qa Qr Qg Ql Qt Qn Qk Qm Qi Qo;have hll:=Exs.len_le l;have hlv:=NaF z l.length (Exs.cs l);simp only[Naj];(try rw[Z0]);(try simp(disch:=first|omega|rfl|assumption)only[↓Yaa,Yab,Nae,Naa,rB,rC,rD,rE,reduceIte,unP,rF,hlv]);refine Z9 (k:=l.length - 0) (fun m x=>∃ (i:Nat) (w':Nat×Bool),m=l.length - i∧i≤l.length∧Exs.walk ask (l.drop i) d w'=Exs.walk ask l d w∧w'.1+Exs.size (l.drop i)≤w.1+Exs.size l∧x.env.get 0=.ptr k 0∧x.env.get 2=.i .i64 (d:Int)∧x.env.get 8=slV z l.length (Exs.cs l)∧x.env.get 9=.i .i64 (l.length:Int)∧x.env.get 10=.i .i64 (i:Int)∧x.st.get k=some (.cells (wkC ask w') false)∧Keeps k st x.st) ?_ ?_ Zaa
   ·rintro m ⟨env,⟨sto,c⟩⟩ ⟨i,w',rfl,hi,hwk,hwn,g0,g2,g8,g9,g10,kk,kp⟩;simp only at g0 g2 g8 g9 g10;have hkc:k<c:=(by have:=kp.c;simp only at this;omega);by_cases hil:i<l.length
    ·rw[Nas hil]at g8;have hdr:=List.drop_eq_getElem_cons hil;obtain⟨e,he⟩:∃ e,l[i]=e:=⟨_,rfl⟩;have hld:=fun st=>NeY (st:=st) hil;simp only[he]at hld;rw[he]at hdr;rw[hdr,Exs.walk]at hwk;rw[hdr,Exs.size]at hwn;have hsz:=Exs.len l;have hel:e.size≤Exs.size l:=Exs.size_mem (he▸List.getElem_mem hil);have hes:=Ex.size_eq e
     iterate 5
      (try rw[Z0]);(try simp(disch:=first|omega|rfl|assumption)only[↓Yaa,Yab,Nae,Naa,rB,rC,rD,rE,reduceIte,unP,rF,g0,g2,g8,g9,g10,hld,hsz,Naf,Nag,hc.y1,hc.y5])
     refine NaL (fun x=>x.env.get 0=.ptr k 0∧x.env.get 2=.i .i64 (d:Int)∧x.env.get 7=.ptr (c+24) 0∧x.env.get 8=.fsl l.length (Exs.cs l)∧x.env.get 9=.i .i64 (l.length:Int)∧x.env.get 10=.i .i64 (i:Int)∧x.st.get k=some (.cells (wkC ask w') false)∧x.st.get (c+24)=some (.cells [.i .u8 (e.K.toNat:Int),.s e.S,.i .i64 e.N,slV e.z e.L.length (Exs.cs e.L)] false)∧Keeps k st x.st∧c+40≤x.st.cnt) ?_ ?_
     ·simp(disch:=first|omega|rfl|assumption)only[Yad,rE,reduceIte,g0,g2,g8,g9,g10,Njl,true_and,Naz];refine⟨?_,⟨fun j hj hl=>?_,?_⟩,by omega⟩
      ·rw[Yae Zaa,Yae Zaa];exact kk
      ·have h1:=kp.c;simp only at h1;rw[Yae Zaa,Yae Zaa];exact kp.g j hj hl
      ·have h1:=kp.c;simp only at h1;simp only[Naz];omega
     clear g0 g2 g8 g9 g10 kk kp;rintro⟨env,⟨sto,c2⟩⟩ ⟨g0,g2,g7,g8,g9,g10,kk,ke,kp,hc2⟩;simp only at g0 g2 g7 g8 g9 g10 hc2;(try rw[Z0]);(try simp(disch:=first|omega|rfl|assumption)only[↓Yaa,Yab,Nae,Naa,rB,rC,rD,rE,reduceIte,unP,rF,g0,g2,g7,g8,g9,g10,hc.y1]);refine Nd0 (NmQ (r:=Nbd e.K.toNat e.S e.N e.L.length) (w:=w') (ask:=ask) hc.toCfgT (by rw[Ncp];exact kk) Zae hc.y5 (fun S hS=>?_) Zaa Zaa Zaa) ?_
     ·obtain⟨p,rfl⟩:∃ p,q=p+1:=⟨q - 1,by omega⟩;exact No0 hc.toCfgT Zaa (hS.trans ke)
     rintro r1 ⟨sto3,c3⟩ ⟨rfl,kk3,kp3⟩;have hc3:=kp3.c;simp only at hc3;have ke3:∀ n',St.get ⟨sto3,n'⟩ (c+24)=some (.cells [.i .u8 (e.K.toNat:Int),.s e.S,.i .i64 e.N,slV e.z e.L.length (Exs.cs e.L)] false):=fun _=>(kp3.g (c+24) Zaa Zae).trans ke;have kpT:Keeps k st ⟨sto3,c3⟩:=⟨fun j hj hl=>(kp3.g j hj (by have:=kp.c;simp only at this ⊢;omega)).trans (kp.g j hj hl),by have:=kp.c;simp only at this ⊢;omega⟩;obtain⟨w2,hw2⟩:∃ w2,NcK ask d (Nbd e.K.toNat e.S e.N e.L.length) w'=w2:=⟨_,rfl⟩;have hw2n:w2.1=w'.1+1:=(by rw[←hw2];rfl);rw[hw2]at hwk kk3;rw[hw2];cases hb2:w2.2 with
     |true =>
       rw[if_pos hb2]at hwk
       iterate 3
        (try rw[Z0]);(try simp(disch:=first|omega|rfl|assumption)only[↓Yaa,Yab,Nae,Naa,rB,rC,rD,rE,reduceIte,unP,rF,Bool.not_true,Bool.not_false])
       refine⟨nofun,[],rfl,?_,kpT⟩;rw[←hwk];exact kk3
     |false =>
       rw[if_neg (by rw[hb2];simp)]at hwk
       iterate 3
        (try rw[Z0]);(try simp(disch:=first|omega|rfl|assumption)only[↓Yaa,Yab,Nae,Naa,rB,rC,rD,rE,reduceIte,unP,rF,Bool.not_true,Bool.not_false,g0,g2,g7,g8,g9,g10,ke3,hc.y2])
       have hwe:e.walk ask d w'=Exs.walk ask e.L (d+1) w2:=by
        rw[Ex.walk_eq,hw2,if_neg (by rw[hb2];simp)]
       have hwn2:=Exs.walk_n ask e.L (d+1) w2;rw[←hwe]at hwn2;refine Nd0 (ih e.L e.z (d+1) ask w2 ⟨sto3,c3+48⟩ k Zaa ((Ncp _ _ c3 _).trans kk3) Zae Zaa Zaa) ?_;rintro r2 ⟨sto4,c4⟩ ⟨kk4,kp4⟩;have hc4:=kp4.c;simp only at hc4;refine⟨l.length - (i+1),by omega,i+1,e.walk ask d w',rfl,by omega,hwk,by omega,(Nas hil).symm,rfl,?_,⟨fun j hj hl=>?_,?_⟩⟩
       ·rw[hwe];exact kk4
       ·exact(kp4.g j hj (by have:=kpT.c;simp only at this ⊢;omega)).trans (kpT.g j hj hl)
       ·have:=kpT.c;simp only at this ⊢;omega
    ·have h0:l.drop i=[]:=List.drop_of_length_le Zaa;rw[h0,Exs.walk]at hwk
     iterate 3
      (try rw[Z0]);(try simp(disch:=first|omega|rfl|assumption)only[↓Yaa,Yab,Nae,Naa,rB,rC,rD,rE,reduceIte,unP,rF,g0,g2,g9,g10])
     refine⟨nofun,[],rfl,?_,fun j hj hl=>kp.g j hj hl,?_⟩
     ·rw[←hwk];exact kk
     ·have:=kp.c;simp only at this ⊢;omega
   ·refine⟨0,w,rfl,by omega,by rw[List.drop_zero],by rw[List.drop_zero];omega,rfl,rfl,rfl,rfl,rfl,hk,fun j hj hl=>rfl,by simp only;omega⟩
end Go.Pe
set_option maxHeartbeats 8000000
namespace Go.Pe
open Go Go.Am Go.RowKit
def Sm.sh(e:Sm):Bool:=Na0 e.K.toNat e.O.toNat e.J e.I e.N e.A.length e.B.length e.E.length
mutual
def Sm.walk(ask:Bool):Sm→Nat→Nat×Bool→Nat×Bool
 |.mk k o j i n za a zb b ze e r,d,w=>if(NcK ask d (Na0 k.toNat o.toNat j i n a.length b.length e.length) w).2=true then NcK ask d (Na0 k.toNat o.toNat j i n a.length b.length e.length) w
   else Sms.walk ask e (d+1) (Sms.walk ask b (d+1) (Exs.walk ask a (d+1) (NcK ask d (Na0 k.toNat o.toNat j i n a.length b.length e.length) w)))
def Sms.walk(ask:Bool):List Sm→Nat→Nat×Bool→Nat×Bool
 |[],_,w=>w
 |e::r,d,w=>if(NcK ask d e.sh w).2=true then NcK ask d e.sh w else Sms.walk ask r d (e.walk ask d w)
end
theorem Sm.walk_eq(ask:Bool)(e:Sm)(d:Nat)(w:Nat×Bool):e.walk ask d w=if(NcK ask d e.sh w).2=true then NcK ask d e.sh w else Sms.walk ask e.E (d+1) (Sms.walk ask e.B (d+1) (Exs.walk ask e.A (d+1) (NcK ask d e.sh w))):=by
 cases e;rw[Sm.walk];rfl
mutual
theorem Sm.walk_n(ask:Bool):∀ (e:Sm) (d:Nat) (w:Nat×Bool),(e.walk ask d w).1≤w.1+e.size
 |.mk k o j i n za a zb b ze e r,d,w=>by
   rw[Sm.walk,Sm.size];split
   ·rw[NgT];omega
   ·have h1:=Sms.walk_n ask e (d+1) (Sms.walk ask b (d+1) (Exs.walk ask a (d+1) (NcK ask d (Na0 k.toNat o.toNat j i n a.length b.length e.length) w)));have h2:=Sms.walk_n ask b (d+1) (Exs.walk ask a (d+1) (NcK ask d (Na0 k.toNat o.toNat j i n a.length b.length e.length) w));have h3:=Exs.walk_n ask a (d+1) (NcK ask d (Na0 k.toNat o.toNat j i n a.length b.length e.length) w);rw[NgT]at h3;omega
theorem Sms.walk_n(ask:Bool):∀ (l:List Sm) (d:Nat) (w:Nat×Bool),(Sms.walk ask l d w).1≤w.1+Sms.size l
 |[],d,w=>by rw[Sms.walk,Sms.size];omega
 |e::r,d,w=>by
   rw[Sms.walk,Sms.size];split
   ·rw[NgT,Sm.size_eq];omega
   ·have h1:=Sms.walk_n ask r d (e.walk ask d w);have h2:=Sm.walk_n ask e d w;omega
end
theorem Keeps.cnt2{k:Nat}{st:St}{s:Trie PObj}{a b:Nat}(h:Keeps k st ⟨s,a⟩)(hab:a≤b):Keeps k st ⟨s,b⟩:=⟨fun j hj hl=>h.g j hj hl,by have:=h.c;simp only at this ⊢;omega⟩
theorem Keeps.then{k:Nat}{st:St}{s s':Trie PObj}{a b c:Nat}(h:Keeps k st ⟨s,a⟩)(h2:Keeps k ⟨s,b⟩ ⟨s',c⟩)(hab:a≤b):Keeps k st ⟨s',c⟩:=(h.cnt2 hab).trans h2
theorem Nmp{cfg:Cfg}(hc:CfgV cfg):∀ (fuel:Nat) (l:List Sm) (z:Bool) (d:Nat) (ask:Bool) (w:Nat×Bool) (st:St) (k:Nat),Sms.size l+22≤fuel→st.get k=some (.cells (wkC ask w) false)→k<st.cnt→w.1+Sms.size l<2305843009213693952→d+Sms.size l<2305843009213693952 →
 ∃ r st',Nay cfg (fuel+1) 47 [.ptr k 0,slV z l.length (Sms.cs l),.i .i64 (d:Int)] st=some (r,st')∧(st'.get k=some (.cells (wkC ask (Sms.walk ask l d w)) false)∧Keeps k st st'):=by
 intro fuel
 induction fuel with
 |zero=>intro l z d ask w st k h;omega
 |succ q ih =>
   intro l z d ask w st k hfu hk hlt hw hd;refine Nax (hc.fn _ _ (by kernel_rfl):cfg.fn 47=some m47) ?_;delta m47 Qa Qr Qg Ql Qt Qn Qk Qm Qi Qo;have hll:=Sms.len_le l;have hlv:=NaF z l.length (Sms.cs l);simp only[Naj];(try rw[Z0]);(try simp(disch:=first|omega|rfl|assumption)only[↓Yaa,Yab,Nae,Naa,rB,rC,rD,rE,reduceIte,unP,rF,hlv]);refine Z9 (k:=l.length - 0) (fun m x=>∃ (i:Nat) (w':Nat×Bool),m=l.length - i∧i≤l.length∧Sms.walk ask (l.drop i) d w'=Sms.walk ask l d w∧w'.1+Sms.size (l.drop i)≤w.1+Sms.size l∧x.env.get 0=.ptr k 0∧x.env.get 2=.i .i64 (d:Int)∧x.env.get 8=slV z l.length (Sms.cs l)∧x.env.get 9=.i .i64 (l.length:Int)∧x.env.get 10=.i .i64 (i:Int)∧x.st.get k=some (.cells (wkC ask w') false)∧Keeps k st x.st) ?_ ?_ Zaa
   ·rintro m ⟨env,⟨sto,c⟩⟩ ⟨i,w',rfl,hi,hwk,hwn,g0,g2,g8,g9,g10,kk,kp⟩;simp only at g0 g2 g8 g9 g10;have hkc:k<c:=(by have:=kp.c;simp only at this;omega);by_cases hil:i<l.length
    ·rw[Nas hil]at g8;have hdr:=List.drop_eq_getElem_cons hil;obtain⟨e,he⟩:∃ e,l[i]=e:=⟨_,rfl⟩;have hld:=fun st=>NeZ (st:=st) hil;simp only[he]at hld;rw[he]at hdr;rw[hdr,Sms.walk]at hwk;rw[hdr,Sms.size]at hwn;have hsz:=Sms.len l;have hel:e.size≤Sms.size l:=Sms.size_mem (he▸List.getElem_mem hil);have hes:=Sm.size_eq e;have hlB:=Sms.len_le e.B;have hlE:=Sms.len_le e.E
     iterate 5
      (try rw[Z0]);(try simp(disch:=first|omega|rfl|assumption)only[↓Yaa,Yab,Nae,Naa,rB,rC,rD,rE,reduceIte,unP,rF,g0,g2,g8,g9,g10,hld,hsz,Naf,Nag,hc.y1,hc.y6])
     refine NaL (fun x=>x.env.get 0=.ptr k 0∧x.env.get 2=.i .i64 (d:Int)∧x.env.get 7=.ptr (c+24) 0∧x.env.get 8=.fsl l.length (Sms.cs l)∧x.env.get 9=.i .i64 (l.length:Int)∧x.env.get 10=.i .i64 (i:Int)∧x.st.get k=some (.cells (wkC ask w') false)∧x.st.get (c+24)=some (.cells [.i .u8 (e.K.toNat:Int),.i .u8 (e.O.toNat:Int),.s e.J,.s e.I,.i .i64 e.N,slV e.za e.A.length (Exs.cs e.A),slV e.zb e.B.length (Sms.cs e.B),slV e.ze e.E.length (Sms.cs e.E),.i .i64 e.R] false)∧Keeps k st x.st∧c+40≤x.st.cnt) ?_ ?_
     ·simp(disch:=first|omega|rfl|assumption)only[Yad,rE,reduceIte,g0,g2,g8,g9,g10,Njl,true_and,Naz];refine⟨?_,⟨fun j hj hl=>?_,?_⟩,by omega⟩
      ·rw[Yae Zaa,Yae Zaa];exact kk
      ·have h1:=kp.c;simp only at h1;rw[Yae Zaa,Yae Zaa];exact kp.g j hj hl
      ·have h1:=kp.c;simp only at h1;simp only[Naz];omega
     clear g0 g2 g8 g9 g10 kk kp;rintro⟨env,⟨sto,c2⟩⟩ ⟨g0,g2,g7,g8,g9,g10,kk,ke,kp,hc2⟩;simp only at g0 g2 g7 g8 g9 g10 hc2;(try rw[Z0]);(try simp(disch:=first|omega|rfl|assumption)only[↓Yaa,Yab,Nae,Naa,rB,rC,rD,rE,reduceIte,unP,rF,g0,g2,g7,g8,g9,g10,hc.y1]);refine Nd0 (NmQ (r:=e.sh) (w:=w') (ask:=ask) hc.toCfgT (by rw[Ncp];exact kk) Zae hc.y6 (fun S hS=>?_) Zaa Zaa Zaa) ?_
     ·obtain⟨p,rfl⟩:∃ p,q=p+1:=⟨q - 1,by omega⟩;exact NpX hc.toCfgT Zaa Zaa (hS.trans ke)
     rintro r1 ⟨sto3,c3⟩ ⟨rfl,kk3,kp3⟩;have hc3:=kp3.c;simp only at hc3;have ke3:∀ n',St.get ⟨sto3,n'⟩ (c+24)=some (.cells [.i .u8 (e.K.toNat:Int),.i .u8 (e.O.toNat:Int),.s e.J,.s e.I,.i .i64 e.N,slV e.za e.A.length (Exs.cs e.A),slV e.zb e.B.length (Sms.cs e.B),slV e.ze e.E.length (Sms.cs e.E),.i .i64 e.R] false):=fun _=>(kp3.g (c+24) Zaa Zae).trans ke;have kpT:Keeps k st ⟨sto3,c3⟩:=kp.then kp3 Zaa;obtain⟨w2,hw2⟩:∃ w2,NcK ask d e.sh w'=w2:=⟨_,rfl⟩;have hw2n:w2.1=w'.1+1:=(by rw[←hw2];rfl);rw[hw2]at hwk kk3;rw[hw2];cases hb2:w2.2 with
     |true =>
       rw[if_pos hb2]at hwk
       iterate 3
        (try rw[Z0]);(try simp(disch:=first|omega|rfl|assumption)only[↓Yaa,Yab,Nae,Naa,rB,rC,rD,rE,reduceIte,unP,rF,Bool.not_true,Bool.not_false])
       refine⟨nofun,[],rfl,?_,kpT⟩;rw[←hwk];exact kk3
     |false =>
       rw[if_neg (by rw[hb2];simp)]at hwk;have hwe:e.walk ask d w'=Sms.walk ask e.E (d+1) (Sms.walk ask e.B (d+1) (Exs.walk ask e.A (d+1) w2)):=by
        rw[Sm.walk_eq,hw2,if_neg (by rw[hb2];simp)]
       have hn1:=Exs.walk_n ask e.A (d+1) w2;have hn2:=Sms.walk_n ask e.B (d+1) (Exs.walk ask e.A (d+1) w2);have hn3:=Sms.walk_n ask e.E (d+1) (Sms.walk ask e.B (d+1) (Exs.walk ask e.A (d+1) w2));rw[←hwe]at hn3
       iterate 3
        (try rw[Z0]);(try simp(disch:=first|omega|rfl|assumption)only[↓Yaa,Yab,Nae,Naa,rB,rC,rD,rE,reduceIte,unP,rF,Bool.not_true,Bool.not_false,g0,g2,g7,g8,g9,g10,ke3,hc.y2])
       refine Nd0 (Nlv hc q e.A e.za (d+1) ask w2 _ k Zaa ((Ncp _ _ c3 _).trans kk3) Zae Zaa Zaa) ?_;rintro r2 ⟨sto4,c4⟩ ⟨kk4,kp4⟩;have hc4:=kp4.c;simp only at hc4;have ke4:∀ n',St.get ⟨sto4,n'⟩ (c+24)=_:=fun n'=>(kp4.g (c+24) Zaa Zae).trans (ke3 0);have kpU:Keeps k st ⟨sto4,c4⟩:=kpT.then kp4 Zaa;(try rw[Z0]);(try simp(disch:=first|omega|rfl|assumption)only[↓Yaa,Yab,Nae,Naa,rB,rC,rD,rE,reduceIte,unP,rF,g0,g2,g7,g8,g9,g10,ke4,hc.y3]);refine Nd0 (ih e.B e.zb (d+1) ask _ _ k Zaa ((Ncp _ _ c4 _).trans kk4) Zae Zaa Zaa) ?_;rintro r3 ⟨sto5,c5⟩ ⟨kk5,kp5⟩;have hc5:=kp5.c;simp only at hc5;have ke5:∀ n',St.get ⟨sto5,n'⟩ (c+24)=_:=fun n'=>(kp5.g (c+24) Zaa Zae).trans (ke4 0);have kpV:Keeps k st ⟨sto5,c5⟩:=kpU.then kp5 Zaa;(try rw[Z0]);(try simp(disch:=first|omega|rfl|assumption)only[↓Yaa,Yab,Nae,Naa,rB,rC,rD,rE,reduceIte,unP,rF,ke5]);refine Nd0 (ih e.E e.ze (d+1) ask _ _ k Zaa ((Ncp _ _ c5 _).trans kk5) Zae Zaa Zaa) ?_;rintro r4 ⟨sto6,c6⟩ ⟨kk6,kp6⟩;have hc6:=kp6.c;simp only at hc6;have kpW:Keeps k st ⟨sto6,c6⟩:=kpV.then kp6 Zaa;have hn:=Sm.walk_n ask e d w';refine⟨l.length - (i+1),by omega,i+1,e.walk ask d w',rfl,by omega,hwk,by omega,(Nas hil).symm,rfl,?_,kpW.cnt2 (Nat.le_add_right _ _)⟩;rw[hwe];exact kk6
    ·have h0:l.drop i=[]:=List.drop_of_length_le Zaa;rw[h0,Sms.walk]at hwk
     iterate 3
      (try rw[Z0]);(try simp(disch:=first|omega|rfl|assumption)only[↓Yaa,Yab,Nae,Naa,rB,rC,rD,rE,reduceIte,unP,rF,g0,g2,g9,g10])
     refine⟨nofun,[],rfl,?_,fun j hj hl=>kp.g j hj hl,?_⟩
     ·rw[←hwk];exact kk
     ·have:=kp.c;simp only at this ⊢;omega
   ·refine⟨0,w,rfl,by omega,by rw[List.drop_zero],by rw[List.drop_zero];omega,rfl,rfl,rfl,rfl,rfl,hk,fun j hj hl=>rfl,by simp only;omega⟩
end Go.Pe
