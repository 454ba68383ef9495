/-
 Calls by value that hand out a list beside plain data, in runs over plain data. No condition; nothing of the program.
-/
import Derived.Test.YtjnofhibldppoaaZPe8
set_option linter.unusedVariables false
set_option linter.unusedSimpArgs false
namespace Go.Pe
open Go
def OutV(r:PV)(sz n:Nat)(cs:List PV):Prop:=(r=.nsl∧n=0∧cs=[])∨r=.osl sz n cs
theorem OutV.nil(sz:Nat):OutV .nsl sz 0 []:=.inl ⟨rfl,rfl,rfl⟩
theorem OutV.osl(sz n:Nat)(cs:List PV):OutV (.osl sz n cs) sz n cs:=.inr rfl
def Nsf(v:PV)(n:Nat)(cs:List PV):PV:=match v with
 |.nsl=>.nsl
 |_=>.fsl n cs
theorem Own.deepO{st:St}{sz n:Nat}{v:PV}{cs:List PV}(h:Own st sz v n cs)(hf:cs.all PV.flat=true):Go.Pe.deep st 12 v=some (Nsf v n cs):=by
 have h0:=h;rcases h with⟨rfl,rfl,h2⟩|⟨k,rfl,_⟩
 ·rfl
 ·rcases h0.deep hf with⟨h3,_⟩|h3
  ·simp at h3
  ·rw[h3];rfl
theorem Nab(n:Nat)(cs:List PV):Nd7 (.fsl n cs)=some (.i .i64 n):=rfl
theorem Nad(a b c n:Nat):Nd7 (.rsl a b c n)=some (.i .i64 n):=rfl
theorem Nac:Nd7 .nsl=some (.i .i64 ((0:Nat):Int)):=rfl
theorem Yaa:type_of% @Xp∧type_of% @Xt:=⟨@Xp,@Xt⟩
theorem Yab:type_of% @Xq∧type_of% @Xc∧type_of% @Xa∧type_of% @Xn∧type_of% @Nab∧type_of% @Nac∧type_of% @Nad∧type_of% @Xm∧type_of% @Zan.{0}∧type_of% @Zao.{0}:=⟨@Xq,@Xc,@Xa,@Xn,@Nab,@Nac,@Nad,@Xm,@Zan,@Zao⟩
theorem Yac:type_of% @Xq∧type_of% @Xc∧type_of% @Xa∧type_of% @Xn∧type_of% @Nab∧type_of% @Nac∧type_of% @Nad:=⟨@Xq,@Xc,@Xa,@Xn,@Nab,@Nac,@Nad⟩
theorem Own.over{s0 st st':St}{key sz n:Nat}{v:PV}{cs:List PV}(h:Own s0 sz v n cs)(f:∀ j,j≠key→st'.get j=st.get j)(hs:st.sto=s0.sto)(hk:s0.cnt≤key)(hc:s0.cnt≤st'.cnt):Own st' sz v n cs :=
 h.move hc fun j hj hj2=>by
  rw[f j Zaa];unfold St.get;rw[hs]
theorem NaR{st:St}{w v:PV}(h:Go.Pe.deep st 12 w=some v):Nbk st [w]=some [v]:=by
 have h':Go.Pe.deep st Ndt w=some v:=h;unfold Nbk;simp only[mapO,h']
theorem NbY{st:St}{w1 v1 w2 v2:PV}(h1:Go.Pe.deep st 12 w1=some v1)(h2:Go.Pe.deep st 12 w2=some v2):Nbk st [w1,w2]=some [v1,v2]:=by
 have h1':Go.Pe.deep st Ndt w1=some v1:=h1;have h2':Go.Pe.deep st Ndt w2=some v2:=h2;unfold Nbk;simp only[mapO,h1',h2']
end Go.Pe
