/-
 Calls by value that hand out a list beside plain data, in runs over plain data. No condition; nothing of the program.
-/
import Derived.Test.YtafdphmhbnjfaaaGreatDoorZPe8
set_option linter.unusedVariables false
set_option linter.unusedSimpArgs false
namespace Go.Pe
open Go
section
variable {st:St}{cs:List PV}{sz n:Nat}{v:PV}
def OutV(r:PV)(sz n:Nat)(cs:List PV):Prop:=(r=.nsl∧n=0∧cs=[])∨r=.osl sz n cs
theorem OutV.nil(sz:Nat):OutV .nsl sz 0 []:=.inl ⟨rfl,rfl,rfl⟩
theorem OutV.osl(sz n:Nat)(cs:List PV):OutV (.osl sz n cs) sz n cs:=.inr rfl
def PV.leafB:PV→Bool
 |.i ..|.b _|.s _|.nsl=>true
 |_=>false
def clO(cs:List PV):Bool:=cs.all PV.leafB
theorem NiR(h:clO cs=true)(n:Nat):cs.all (PV.closed (n+1))=true:=by
 unfold clO at h;rw[List.all_eq_true]at h ⊢;intro x hx;have:=h x hx;cases x<;>first|(simp[PV.leafB]at this;done)|rfl
theorem Nk7{g:List PV→Option PV}{key:Nat}{ps ps':List PV}{r:PV}{Q:PV→St→Prop}(hd:Nbg st ps=some ps')(hg:g ps'=some r)(ho:OutV r sz n cs)(hc:clO cs=true)(hl:cs.length=n * sz)(hk:key<st.cnt)
 (q:∀ v' st',Own st' sz v' n cs→(∀ j,j∈keyOf v'→j=key)→st'.cnt=st.cnt→(∀ j,j≠key→st'.get j=st.get j)→Q v' st'):WV (Naq g false st key ps) Q:=by
 rcases ho with⟨rfl,rfl,rfl⟩|rfl
 ·refine⟨_,st,?_,q .nsl st (Own.nil _ _) (fun j hj=>by simp[keyOf]at hj) rfl (fun _ _=>rfl)⟩;unfold Naq;simp only[hd,hg,NaR];simp only[show PV.nsl.closedB=true from rfl,if_true]
 ·have hcl:(PV.osl sz n cs).closedB=true:=NiR hc 10;refine⟨_,st.put key (some (.cells cs false)),?_,q (.rsl key sz 0 n) _ (.inr ⟨key,rfl,Yaf _ _ _,hl,hk⟩) (fun j hj=>by simpa[keyOf]using hj) rfl (fun j hj=>Yae fun e=>hj e.symm)⟩;unfold Naq;simp only[hd,hg,hcl,if_true,NaR]
def Nr6(v:PV)(n:Nat)(cs:List PV):PV:=match v with
 |.nsl=>.nsl
 |_=>.fsl n cs
theorem Own.deepO(h:Own st sz v n cs)(hf:cs.all PV.flat=true):Go.Pe.deep st 12 v=some (Nr6 v n cs):=by
 have h0:=h;rcases h with⟨rfl,rfl,h2⟩|⟨k,rfl,_⟩
 ·rfl
 ·rcases h0.deep hf with⟨h3,_⟩|h3
  ·simp at h3
  ·rw[h3];rfl
theorem Nab(n:Nat)(cs:List PV):lenP (.fsl n cs)=some (.i .i64 n):=rfl
theorem Nad(a b c n:Nat):lenP (.rsl a b c n)=some (.i .i64 n):=rfl
theorem Nac:lenP .nsl=some (.i .i64 ((0:Nat):Int)):=rfl
theorem Yaa:type_of% @Xp∧type_of% @Xt:=⟨@Xp,@Xt⟩
theorem Yab:type_of% @Xq∧type_of% @Xc∧type_of% @Xa∧type_of% @Xn∧type_of% @Nab∧type_of% @Nac∧type_of% @Nad∧type_of% @Xm∧type_of% @Zal.{0}∧type_of% @Zam.{0}:=⟨@Xq,@Xc,@Xa,@Xn,@Nab,@Nac,@Nad,@Xm,@Zal,@Zam⟩
theorem Yac:type_of% @Xq∧type_of% @Xc∧type_of% @Xa∧type_of% @Xn∧type_of% @Nab∧type_of% @Nac∧type_of% @Nad:=⟨@Xq,@Xc,@Xa,@Xn,@Nab,@Nac,@Nad⟩
theorem Own.over{s0 st':St}{key:Nat}(h:Own s0 sz v n cs)(f:∀ j,j≠key→st'.get j=st.get j)(hs:st.sto=s0.sto)(hk:s0.cnt≤key)(hc:s0.cnt≤st'.cnt):Own st' sz v n cs :=
 h.move hc fun j hj hj2=>by
  rw[f j Zaa];unfold St.get;rw[hs]
theorem Nbf{w:PV}(h:Go.Pe.deep st 12 w=some v):Nbg st [w]=some [v]:=by
 have h':Go.Pe.deep st NbU w=some v:=h;unfold Nbg;simp only[mapO,h']
theorem Na4{w1 v1 w2 v2:PV}(h1:Go.Pe.deep st 12 w1=some v1)(h2:Go.Pe.deep st 12 w2=some v2):Nbg st [w1,w2]=some [v1,v2]:=by
 have h1':Go.Pe.deep st NbU w1=some v1:=h1;have h2':Go.Pe.deep st NbU w2=some v2:=h2;unfold Nbg;simp only[mapO,h1',h2']
end
end Go.Pe
