/-
 Code: expressions of an instruction, walked (that there is an answer). No condition.
-/
import Derived.Test.YtafdphmhbnjfaaaGreatDoorZCoeB
set_option linter.unusedVariables false
set_option linter.unusedSimpArgs false
set_option maxHeartbeats 4000000
open Nat renaming reduceAdd → rA,reduceMul → rB,reduceLT → rC,reduceEqDiff → rD,reduceLeDiff → rE
namespace Go.Pe
open Go Go.Am Go.RowKit
section
variable {cfg:Cfg}{fuel k n:Nat}{st:St}{e:Ex}{a c:PV}{z:Bool}{cs:List PV}
theorem Nmr(hc:CfgZ cfg){nl:Int}(hfu:e.size+1≤fuel)(hwf:e.wf) :
 ∃ r st',NaK cfg (fuel+41) 84 [.agg e.cs,.i .i64 nl] st=some (r,st')∧∃ b,r=.b b:=by
 refine NaB (hc.fn _ _ (by kernel_rfl):cfg.fn 84=some m84) ?_;delta m84 Qa Ql Qt Qm Qi Qw;rw[Ex.cs_eq];obtain⟨sto0,c0⟩:=st;have hw:=fun lf n dp st k a b c d=>Nrs hc fuel e lf n dp st k hfu hwf a b c d;simp only[Ex.cs_eq e]at hw;simp only[Nao]
 iterate 2
  (try rw[Z0]);(try simp(disch:=first|omega|rfl|assumption)only[↓Yaa,Yab,Nae,Naa,rA,rB,rC,rD,reduceIte,unP,rE,Nag,Naf,hc.k7])
 refine Nbk (hw 1000 nl 1 _ _ Zaa Zaa (by simp only[Z0L_];omega) (by rw[Yaf];rfl)) ?_;rintro r st' ⟨⟨b,rfl⟩,-,-,-⟩
 iterate 2
  (try rw[Z0]);(try simp(disch:=first|omega|rfl|assumption)only[↓Yaa,Yab,Nae,Naa,rA,rB,rC,rD,reduceIte,unP,rE])
 exact⟨nofun,_,rfl,b,by simp only[NaF,Yad,if_true]⟩
theorem NkQ(hc:CfgZ cfg){nl:Int}(hfu:e.size+1≤fuel)(hwf:e.wf):∃ b,Nai cfg (NaK cfg (fuel+41)) 84 [.agg e.cs,.i .i64 nl]=some (.b b):=by
 obtain⟨r,st',h1,b,h2⟩:=Nmr (nl:=nl) (st:={ sto:=.leaf,cnt:=1 }) hc hfu hwf;refine⟨b,NaE hc.k6 ?_ (fun _=>rfl) ⟨r,st',h1,h2⟩⟩;rfl
structure FrP(st st':St)(r:PV):Prop where
 res:∃ b,r=.b b
 fr:∀ j,j<st.cnt→st'.get j=st.get j
 cnt:st.cnt≤st'.cnt
theorem Nnk(hc:CfgZ cfg)(hfu:e.size+1≤fuel)(hwf:e.wf)(lk:k<st.cnt)(hk:st.get k=some (.cells [a,slV z n cs,c] false)) :
 ∃ r st',NaK cfg (fuel+42) 83 [.agg e.cs,.ptr k 0] st=some (r,st')∧FrP st st' r:=by
 refine NaB (hc.fn _ _ (by kernel_rfl):cfg.fn 83=some m83) ?_;delta m83 Qr Qg Ql Qt Qm Qi Qw;obtain⟨sto0,c0⟩:=st;simp only at lk;have hk':∀ n',St.get ⟨sto0,n'⟩ k=_:=fun _=>hk;have hlv:=NaC z n cs;obtain⟨b1,hs⟩:=NkQ (nl:=(n:Int)) hc hfu hwf;rw[Ex.cs_eq]at hs ⊢;have hcall:∀ (st:St) (key:Nat),Naq (Nai cfg (NaK cfg (fuel+41)) 84) false st key [.agg [.i .u8 (e.K.toNat:Int),.s e.S,.i .i64 e.N,slV e.z e.L.length (Exs.cs e.L)],.i .i64 (n:Int)]=some (.b b1,st):=fun st key=>NaT (Na4 (Ndo _) rfl) hs rfl rfl;simp only[Nao]
 iterate 2
  (try rw[Z0]);(try simp(disch:=first|omega|rfl|assumption)only[↓Yaa,Yab,Nae,Naa,rA,rB,rC,rD,reduceIte,unP,rE,Nag,Naf,hk',hlv,hcall])
 exact⟨nofun,_,rfl,⟨⟨_,by simp only[NaF,Yad,if_true];rfl⟩,fun j (hj:j<c0)=>by show St.get (St.put ⟨sto0,c0+16⟩ c0 _) j=_;rw[Yae Zaa];rfl,by first|omega|(show c0≤St.cnt _;simp only[Z0L_];omega)⟩⟩
theorem NnQ(hc:CfgZ cfg){l:List Ex}{zl:Bool}(hfu:Exs.size l+1≤fuel)(hwf:Exs.wf l)(hl:l.length≤reachBytes)(lk:k<st.cnt)(hk:st.get k=some (.cells [a,slV z n cs,c] false)) :
 ∃ r st',NaK cfg (fuel+43) 115 [slV zl l.length (Exs.cs l),.fn 83 [.ptr k 0]] st=some (r,st')∧((∃ b,r=.i .i64 b)∧(∀ j,j<st.cnt→st'.get j=st.get j)∧st.cnt≤st'.cnt):=by
 refine NaB (hc.fn _ _ (by kernel_rfl):cfg.fn 115=some m115) ?_;delta m115 Qa Ql Qt Qk Qm Qi Qo;have hrb:reachBytes<4611686018427387904:=by decide
 have hll:=Exs.len_le l;have hlv:=NaC zl l.length (Exs.cs l);have hsz:=Exs.len l;obtain⟨X,hX⟩:∃ X:PV→St→Prop,X=fun r st'=>((∃ b,r=.i .i64 b)∧(∀ j,j<st.cnt→st'.get j=st.get j)∧st.cnt≤st'.cnt):=⟨_,rfl⟩
 simp only[show ∀ r st',((∃ b,r=.i .i64 b)∧(∀ j,j<st.cnt→st'.get j=st.get j)∧st.cnt≤st'.cnt)=X r st' from fun _ _=>by rw[hX]];obtain⟨sto0,c0⟩:=st;simp only at lk;obtain⟨kc,hkc⟩:∃ kc,c=kc:=⟨_,rfl⟩;rw[hkc]at hk;simp only[Nao]
 iterate 3
  (try rw[Z0]);(try simp(disch:=first|omega|rfl|assumption)only[↓Yaa,Yab,Nae,Naa,rA,rB,rC,rD,reduceIte,unP,rE,hlv])
 refine Z9 (k:=l.length - 0) (fun m x=>∃ (i:Nat),m=l.length - i∧x.env.get 0=slV zl l.length (Exs.cs l)∧x.env.get 1=.fn 83 [.ptr k 0]∧x.env.get 7=.i .i64 (l.length:Int)∧x.env.get 8=.i .i64 (i:Int)∧(i≤l.length)∧(∀ j,j<c0→x.st.get j=St.get ⟨sto0,c0⟩ j)∧(c0≤x.st.cnt)) ?_ ?_ Zaa
 ·skip
  rintro m ⟨env,⟨sto,c⟩⟩ ⟨i,rfl,g0,g1,g7,g8,hi,kof,cc⟩;try simp only at g0 g1 g7 g8 cc cc
  by_cases hil:i<l.length
  ·rw[NaD hil]at g0;obtain⟨u,hu⟩:∃ u,l[i]=u:=⟨_,rfl⟩;have hld:=fun st=>NdM (st:=st) hil;simp only[hu]at hld;have hum:u∈l:=hu▸List.getElem_mem hil;have hsm:=Exs.size_mem hum;have hck:=fun st h1 h2=>Nnk (fuel:=fuel) (e:=u) (st:=st) (k:=k) (a:=a) (c:=kc) (z:=z) (n:=n) (cs:=cs) hc Zaa (Exs.wf_memZ hwf hum) h1 h2;simp only[Ex.cs_eq u]at hck
   iterate 6
    (try rw[Z0]);(try simp(disch:=first|omega|rfl|assumption)only[↓Yaa,Yab,Nae,Naa,rA,rB,rC,rD,reduceIte,unP,rE,g0,g1,g7,g8,hld,hsz,hlv,hc.k3])
   refine Nbk (hck _ Zad ((kof k lk).trans hk)) ?_;rintro r ⟨sto2,c2⟩ ⟨⟨b,rfl⟩,fr2,cn2⟩;simp only at cn2;have fr3:∀ j,j<c0→St.get ⟨sto2,c2⟩ j=St.get ⟨sto0,c0⟩ j:=fun j hj=>(fr2 j Zad).trans (kof j hj);cases b with
   |true =>
     iterate 6
      (try rw[Z0]);(try simp(disch:=first|omega|rfl|assumption)only[↓Yaa,Yab,Nae,Naa,rA,rB,rC,rD,reduceIte,unP,rE,g0,g1,g7,g8])
     subst hX;exact⟨nofun,_,rfl,⟨_,by simp only[NaF,Yad,if_true];rfl⟩,fr3,by first|omega|(show c0≤St.cnt _;simp only;omega)⟩
   |false =>
     iterate 6
      (try rw[Z0]);(try simp(disch:=first|omega|rfl|assumption)only[↓Yaa,Yab,Nae,Naa,rA,rB,rC,rD,reduceIte,unP,rE,g0,g1,g7,g8])
     exact⟨l.length - (i+1),by omega,i+1,rfl,(NaD hil).symm,rfl,by omega,fr3⟩
  ·skip
   iterate 5
    (try rw[Z0]);(try simp(disch:=first|omega|rfl|assumption)only[↓Yaa,Yab,Nae,Naa,rA,rB,rC,rD,reduceIte,unP,rE,g0,g1,g7,g8])
   subst hX;exact⟨nofun,_,rfl,⟨_,by simp only[NaF,Yad,if_true];rfl⟩,kof,by first|omega|(show c0≤St.cnt _;simp only;omega)⟩
 ·skip
  exact⟨0,rfl,Zab,Zab,Zab,Zab,(by first|assumption|rfl|omega|(simp only[Z0L_,Nax];omega)|(simp;omega)|(simp;done)),(fun j hj=>rfl),Zac⟩
theorem Nnp(hc:CfgZ cfg){l:List Ex}{zl:Bool}(hfu:Exs.size l+1≤fuel)(hwf:Exs.wf l)(hl:l.length≤reachBytes)(lk:k<st.cnt)(hk:st.get k=some (.cells [a,slV z n cs,c] false)) :
 ∃ r st',NaK cfg (fuel+44) 82 [slV zl l.length (Exs.cs l),.fn 83 [.ptr k 0]] st=some (r,st')∧FrP st st' r:=by
 refine NaB (hc.fn _ _ (by kernel_rfl):cfg.fn 82=some m82) ?_;delta m82 Qa Ql Qt Qk Qm Qi;obtain⟨sto0,c0⟩:=st;simp only at lk;simp only[Nao]
 iterate 2
  (try rw[Z0]);(try simp(disch:=first|omega|rfl|assumption)only[↓Yaa,Yab,Nae,Naa,rA,rB,rC,rD,reduceIte,unP,rE,hc.k5])
 refine Nbk (NnQ hc hfu hwf hl Zad hk) ?_;rintro r ⟨sto2,c2⟩ ⟨⟨b,rfl⟩,fr2,cn2⟩;simp only at cn2
 iterate 2
  (try rw[Z0]);(try simp(disch:=first|omega|rfl|assumption)only[↓Yaa,Yab,Nae,Naa,rA,rB,rC,rD,reduceIte,unP,rE])
 exact⟨nofun,_,rfl,⟨_,by simp only[NaF,Yad,if_true];rfl⟩,fun j (hj:j<c0)=>fr2 j Zad,by first|omega|(show c0≤St.cnt _;simp only;omega)⟩
end
end Go.Pe
