/-
 CheckKeeps: the plain law: what is told of a checked program without one of its objects. No condition.
-/
import Derived.Test.YtjnofhibldppoaaZChkMf
set_option linter.unusedVariables false
namespace Go.Pe
open Go
section
variable {s n0:List UInt8}{k:Nat}
theorem NbA(s t:List UInt8)(k:Nat):∀ es:List (List UInt8×Nat),getN s (putN t k es)=if s=t then some k else getN s es
 |[]=>by
   rw[putN,getN];by_cases h:s=t<;>simp[h,getN]
 |(u,j)::r=>by
   have ih:=NbA s t k r;rw[putN];by_cases h1:t=u
   ·subst h1;simp only[beq_self_eq_true,if_true];rw[getN,getN];by_cases h:s=t<;>simp[h]
   ·have h1':(t==u)=false:=(by simpa using h1);rw[h1'];simp only[Bool.false_eq_true,if_false];rw[getN,getN,ih];by_cases h:s=u
    ·subst h;have:¬ s=t:=fun e=>h1 e.symm;simp[this]
    ·have:(s==u)=false:=(by simpa using h);simp[this]
theorem NeK(s t:List UInt8):∀ ls:List (List UInt8),Nbv s (NdV t ls)=(decide (s=t)||Nbv s ls)
 |[]=>by
   rw[NdV,Nbv];by_cases h:s=t<;>simp[h,Nbv]
 |u::r=>by
   have ih:=NeK s t r;rw[NdV];by_cases h1:t=u
   ·subst h1;simp only[beq_self_eq_true,if_true,Nbv];by_cases h:s=t<;>simp[h]
   ·have h1':(t==u)=false:=(by simpa using h1);rw[h1'];simp only[Bool.false_eq_true,if_false];rw[Nbv,Nbv,ih];by_cases h:s=u
    ·simp[h]
    ·have:(s==u)=false:=(by simpa using h);simp[this]
structure Less(n0:List UInt8)(es es':List (List UInt8×Nat)):Prop where
 no:getN n0 es'=none
 eq:∀ s,s≠n0→getN s es'=getN s es
theorem Less.put{es es':List (List UInt8×Nat)}(h:Less n0 es es')(hs:s≠n0):Less n0 (putN s k es) (putN s k es'):=by
 refine⟨?_,fun t ht=>?_⟩
 ·rw[NbA,if_neg (Ne.symm hs)];exact h.no
 ·rw[NbA,NbA,h.eq t ht]
theorem Neo{d:Nat}{es es':List (List UInt8×Nat)}(h:Less n0 es es'):NbD s d es'=if s=n0 then 110 else NbD s d es:=by
 unfold NbD;by_cases hs:s=n0
 ·rw[if_pos hs,hs,h.no]
 ·rw[if_neg hs,h.eq s hs]
theorem Nep{d:Nat}{es:List (List UInt8×Nat)}(h:getN s es=none):NbD s d es=110:=by
 unfold NbD;rw[h]
theorem Ncu{o:List UInt8}{n:Int}{es:List (List UInt8×Nat)}(h:Ncg k s n o es=0):getN s es=none∧(k=4→NbD o 1 es=0):=by
 unfold Ncg at h;split at h
 ·cases h
 rename_i h1;refine⟨by simpa using h1,fun hk=>?_⟩;rw[if_neg Zaa,if_pos hk]at h;exact h
theorem NgY{o:List UInt8}{n:Int}{es es':List (List UInt8×Nat)}(h:Less n0 es es')(hz:Ncg k s n o es=0)(hs:(getN n0 es).isSome=true):s≠n0∧Ncg k s n o es'=if k=4∧o=n0 then 110 else 0:=by
 have h1:=(Ncu hz).1;have hne:s≠n0:=fun e=>by rw[e]at h1;rw[h1]at hs;cases hs
 refine⟨hne,?_⟩;unfold Ncg at hz ⊢;rw[h.eq s hne];rw[h1]at hz ⊢;simp only[Option.isSome_none,Bool.false_eq_true,if_false]at hz ⊢;by_cases h5:k=5
 ·rw[if_pos h5]at hz ⊢;rw[if_neg Zaa];exact hz
 rw[if_neg h5]at hz ⊢;by_cases h4:k=4
 ·rw[if_pos h4]at hz ⊢;rw[Neo h];by_cases ho:o=n0
  ·rw[if_pos ho,if_pos ⟨h4,ho⟩]
  ·rw[if_neg ho,if_neg (fun x=>ho x.2)];exact hz
 have hn4:¬ (k=4∧o=n0):=fun x=>h4 x.1;rw[if_neg h4]at hz ⊢;rw[if_neg hn4];exact hz
theorem Nbq{d:Dc}{r:List Dc}{es:List (List UInt8×Nat)}(h:(NaD (d::r) es).1.1=0):Ncg d.K.toNat d.S d.N d.O es=0∧NaD (d::r) es=NaD r (putN d.S d.K.toNat es):=by
 rw[NaD]at h ⊢;split at h
 ·rename_i h1;exact⟨h1,by rw[if_pos h1]⟩
 ·rename_i h1;exact absurd h h1
theorem Nfh{n0:List UInt8}:∀ (l:List Dc) (es es':List (List UInt8×Nat)),Less n0 es es'→(getN n0 es).isSome=true→(NaD l es).1.1=0 →
 ((∃ d∈l,d.K.toNat=4∧d.O=n0)∧(NaD l es').1.1=110)∨((¬ ∃ d∈l,d.K.toNat=4∧d.O=n0)∧(NaD l es').1.1=0∧Less n0 (NaD l es).2 (NaD l es').2)
 |[],es,es',h,_,_=>by
   right;exact⟨by simp,by rw[NaD],by rw[NaD,NaD];exact h⟩
 |d::r,es,es',h,hs,hz=>by
   obtain⟨h1,h2⟩:=Nbq hz;obtain⟨hne,hk⟩:=NgY h h1 hs;rw[h2]at hz ⊢;by_cases hc:d.K.toNat=4∧d.O=n0
   ·left;rw[if_pos hc]at hk;refine⟨⟨d,List.mem_cons_self ..,hc⟩,?_⟩;rw[NaD,if_neg (by rw[hk];decide)];exact hk
   ·rw[if_neg hc]at hk;have e:NaD (d::r) es'=NaD r (putN d.S d.K.toNat es'):=(by rw[NaD,if_pos hk]);rw[e];rcases Nfh r _ _ (h.put (k:=d.K.toNat) hne) (by rw[NbA,if_neg (Ne.symm hne)];exact hs) hz with⟨⟨x,hx,hy⟩,h3⟩|⟨h3,h4⟩
    ·exact Or.inl ⟨⟨x,List.mem_cons_of_mem _ hx,hy⟩,h3⟩
    ·refine Or.inr ⟨?_,h4⟩;rintro⟨x,hx,hy⟩;rcases List.mem_cons.1 hx with rfl|hx
     ·exact hc hy
     ·exact h3 ⟨x,hx,hy⟩
theorem Ngx:∀ (a b:List Dc) (es:List (List UInt8×Nat)),(NaD (a++b) es).1.1=0→(NaD a es).1.1=0∧NaD (a++b) es=NaD b (NaD a es).2
 |[],b,es,_=>⟨by rw[NaD],by rw[NaD];rfl⟩
 |d::r,b,es,h=>by
   obtain⟨h1,h2⟩:=Nbq (r:=r++b) h;have h2':NaD (d::r++b) es=NaD (r++b) (putN d.S d.K.toNat es):=h2;rw[h2']at h ⊢;have e:NaD (d::r) es=NaD r (putN d.S d.K.toNat es):=(by rw[NaD,if_pos h1]);rw[e];exact Ngx r b _ h
theorem Nfg:∀ (a b:List Dc) (es:List (List UInt8×Nat)),(NaD a es).1.1=0→NaD (a++b) es=NaD b (NaD a es).2
 |[],b,es,_=>by rw[NaD];rfl
 |d::r,b,es,h=>by
   obtain⟨h1,h2⟩:=Nbq h;have e:NaD (d::r++b) es=NaD (r++b) (putN d.S d.K.toNat es):=by
    show NaD (d::(r++b)) es=_;rw[NaD,if_pos h1]
   rw[e,h2];rw[h2]at h;exact Nfg r b _ h
theorem Nfi{n0:List UInt8}:∀ (l:List Dc) (es:List (List UInt8×Nat)),(NaD l es).1.1=0→(getN n0 es).isSome=true→(getN n0 (NaD l es).2).isSome=true
 |[],es,_,h=>by rw[NaD];exact h
 |d::r,es,hz,h=>by
   obtain⟨h1,h2⟩:=Nbq hz;rw[h2]at hz ⊢;refine Nfi r _ hz ?_;rw[NbA];split
   ·rfl
   ·exact h
theorem Nh3:∀ (l:List Dc) (es:List (List UInt8×Nat)),(NaD l es).1.1=0→∀ d∈l,d.K.toNat=4→(getN d.O (NaD l es).2).isSome=true
 |[],es,_,d,hd,_=>by simp at hd
 |a::r,es,hz,d,hd,h4=>by
   obtain⟨h1,h2⟩:=Nbq hz;rw[h2]at hz ⊢;rcases List.mem_cons.1 hd with rfl|hd
   ·refine Nfi r _ hz ?_;have:=(Ncu h1).2 h4;rw[NbA];split
    ·rfl
    ·cases h:getN d.O es with
     |none=>rw[Nep h]at this;cases this
     |some x=>rfl
   ·exact Nh3 r _ hz d hd h4
end
mutual
def Sm.asks(n0:List UInt8):Sm→Bool
 |.mk k o j i n za a zb b ze e r=>(decide (k.toNat=1)&&decide (n0=j))||(Sms.asks n0 b||Sms.asks n0 e)
def Sms.asks(n0:List UInt8):List Sm→Bool
 |[]=>false
 |s::r=>s.asks n0||Sms.asks n0 r
end
theorem Nit{n0:List UInt8}{es es':List (List UInt8×Nat)}(h:Less n0 es es')(s:Sm)(ls:List (List UInt8)):Nby es' ls s=if s.K.toNat=1∧n0=s.J then(110,ls)else Nby es ls s:=by
 unfold Nby Nmk;by_cases h1:s.K.toNat=1
 ·rw[if_pos h1,if_pos h1,Neo h];by_cases h2:n0=s.J
  ·have h3:s.K.toNat=1∧n0=s.J:=⟨h1,h2⟩;have h4:¬ ((110:Int)=0):=(by decide);rw[if_pos h2.symm,if_pos h3,if_neg h4]
  ·have h3:¬ (s.K.toNat=1∧n0=s.J):=fun x=>h2 x.2;rw[if_neg (Ne.symm h2),if_neg h3]
 ·have h3:¬ (s.K.toNat=1∧n0=s.J):=fun x=>h1 x.1;rw[if_neg h1,if_neg h1,if_neg h3]
mutual
theorem Sm.chk_less{n0:List UInt8}{es es':List (List UInt8×Nat)}(h:Less n0 es es'):∀ (s:Sm) (ls:List (List UInt8)),(s.chk es ls).1.1=0→(s.asks n0=true∧(s.chk es' ls).1.1=110)∨(s.asks n0=false∧s.chk es' ls=s.chk es ls)
 |.mk k o j i n za a zb b ze e r,ls,hz=>by
   have hs:Nby es' ls (.mk k o j i n za a zb b ze e r)=if k.toNat=1∧n0=j then(110,ls)else Nby es ls (.mk k o j i n za a zb b ze e r):=Nit h (.mk k o j i n za a zb b ze e r) ls;rw[Sm.chk]at hz ⊢;rw[Sm.chk,Sm.asks];obtain⟨w,hw⟩:∃ w,Nby es ls (.mk k o j i n za a zb b ze e r)=w:=⟨_,rfl⟩;rw[hw]at hz hs ⊢;rw[hs];split at hz
   ·rename_i hw0;rw[if_pos hw0];by_cases hc:k.toNat=1∧n0=j
    ·left;rw[if_pos hc];refine⟨by simp[hc.1,hc.2],?_⟩;have h110:¬ (((110:Int),ls).1=0):=(by simp);rw[if_neg h110]
    ·rw[if_neg hc,if_pos hw0];have hc':(decide (k.toNat=1)&&decide (n0=j))=false:=by
      by_cases h1:k.toNat=1<;>by_cases h2:n0=j<;>simp[h1,h2]<;>exact hc ⟨h1,h2⟩
     rw[hc',Bool.false_or];have hzb:(Sms.chk es b w.2).1.1=0:=by
      by_cases h3:(Sms.chk es b w.2).1.1=0
      ·exact h3
      ·rw[if_neg h3]at hz;exact hz
     rw[if_pos hzb]at hz ⊢;rcases Sms.chk_less h b w.2 hzb with⟨h4,h5⟩|⟨h4,h5⟩
     ·left;refine⟨by rw[h4];rfl,?_⟩;rw[if_neg (by rw[h5];decide)];exact h5
     ·rw[h4,h5,Bool.false_or,if_pos hzb];exact Sms.chk_less h e _ hz
   ·rename_i hw0;exact absurd hz hw0
theorem Sms.chk_less{n0:List UInt8}{es es':List (List UInt8×Nat)}(h:Less n0 es es'):∀ (l:List Sm) (ls:List (List UInt8)),(Sms.chk es l ls).1.1=0→(Sms.asks n0 l=true∧(Sms.chk es' l ls).1.1=110)∨(Sms.asks n0 l=false∧Sms.chk es' l ls=Sms.chk es l ls)
 |[],ls,_=>by right;exact⟨by rw[Sms.asks],by rw[Sms.chk,Sms.chk]⟩
 |s::r,ls,hz=>by
   rw[Sms.chk]at hz ⊢;rw[Sms.chk,Sms.asks];have hzs:(s.chk es ls).1.1=0:=by
    by_cases h3:(s.chk es ls).1.1=0
    ·exact h3
    ·rw[if_neg h3]at hz;exact hz
   rw[if_pos hzs]at hz ⊢;rcases Sm.chk_less h s ls hzs with⟨h4,h5⟩|⟨h4,h5⟩
   ·left;refine⟨by rw[h4];rfl,?_⟩;rw[if_neg (by rw[h5];decide)];exact h5
   ·rw[h4,h5,Bool.false_or,if_pos hzs];exact Sms.chk_less h r _ hz
end
theorem Nfv{n0:List UInt8}{es es':List (List UInt8×Nat)}(h:Less n0 es es'):∀ (T:List Td) (seen:List (List UInt8)),(NcT es T seen).1=0→(NcT es' T seen).1=if(T.any fun t=>Sms.asks n0 t.B)=true then 110 else 0
 |[],seen,_=>by rw[NcT];rfl
 |t::r,seen,hz=>by
   rw[NcT]at hz ⊢;split at hz
   ·cases hz
   rename_i h1;rw[if_neg h1];split at hz
   ·rename_i h2;split at hz
    ·cases hz
    rename_i h3;rw[List.any_cons];rcases Sms.chk_less h t.B [] h2 with⟨h4,h5⟩|⟨h4,h5⟩
    ·rw[h4,if_neg (by rw[h5];decide),Bool.true_or,if_pos rfl];exact h5
    ·rw[h4,h5,if_pos h2,if_neg h3,Bool.false_or];exact Nfv h r _ hz
   ·rename_i h2;exact absurd hz h2
mutual
def Sm.nm:Sm→List (List UInt8)→List (List UInt8)
 |.mk k o j i n za a zb b ze e r,ls=>Sms.nm e (Sms.nm b (if k.toNat=1 then NdV j ls else ls))
def Sms.nm:List Sm→List (List UInt8)→List (List UInt8)
 |[],ls=>ls
 |s::r,ls=>Sms.nm r (s.nm ls)
end
theorem Sm.nm_eq(s:Sm)(ls:List (List UInt8)):s.nm ls=Sms.nm s.E (Sms.nm s.B (if s.K.toNat=1 then NdV s.J ls else ls)):=by
 cases s;rw[Sm.nm];rfl
mutual
theorem Sm.nm_has(n:List UInt8):∀ (s:Sm) (ls:List (List UInt8)),Nbv n (s.nm ls)=(s.asks n||Nbv n ls)
 |.mk k o j i n' za a zb b ze e r,ls=>by
   rw[Sm.nm,Sm.asks,Sms.nm_has n e,Sms.nm_has n b];by_cases h:k.toNat=1
   ·rw[if_pos h,NeK];simp only[h,decide_true,Bool.true_and];cases decide (n=j)<;>cases Sms.asks n b<;>cases Sms.asks n e<;>simp
   ·rw[if_neg h];simp only[h,decide_false,Bool.false_and,Bool.false_or];cases Sms.asks n b<;>cases Sms.asks n e<;>simp
theorem Sms.nm_has(n:List UInt8):∀ (l:List Sm) (ls:List (List UInt8)),Nbv n (Sms.nm l ls)=(Sms.asks n l||Nbv n ls)
 |[],ls=>by rw[Sms.nm,Sms.asks,Bool.false_or]
 |s::r,ls=>by
   rw[Sms.nm,Sms.asks,Sms.nm_has n r,Sm.nm_has n s];cases s.asks n<;>cases Sms.asks n r<;>simp
end
def Tds.nm:List Td→List (List UInt8)→List (List UInt8)
 |[],ls=>ls
 |t::r,ls=>Tds.nm r (Sms.nm t.B ls)
def Dcs.nm:List Dc→List (List UInt8)→List (List UInt8)
 |[],ls=>ls
 |d::r,ls=>Dcs.nm r (if d.O=[]then ls else NdV d.O ls)
theorem Tds.nm_has(n:List UInt8):∀ (T:List Td) (ls:List (List UInt8)),Nbv n (Tds.nm T ls)=((T.any fun t=>Sms.asks n t.B)||Nbv n ls)
 |[],ls=>by rw[Tds.nm];rfl
 |t::r,ls=>by
   rw[Tds.nm,Tds.nm_has n r,Sms.nm_has,List.any_cons];cases Sms.asks n t.B<;>simp
theorem Dcs.nm_has(n:List UInt8):∀ (D:List Dc) (ls:List (List UInt8)),Nbv n (Dcs.nm D ls)=((D.any fun d=>decide (d.O≠[]∧n=d.O))||Nbv n ls)
 |[],ls=>by rw[Dcs.nm];rfl
 |d::r,ls=>by
   rw[Dcs.nm,Dcs.nm_has n r,List.any_cons];by_cases h:d.O=[]
   ·rw[if_pos h];simp[h]
   ·rw[if_neg h,NeK];simp only[ne_eq,h,not_false_eq_true,true_and];cases decide (n=d.O)<;>simp
theorem Nlw{b r:Bool}(h:Nke true b r=false):b=false∧r=true:=by
 unfold Nke at h;cases b<;>cases r<;>simp_all
theorem Nh2:∀ (l:List Dc) (b:Bool),Ncy true l b=false→b=false∧∀ d∈l,d.ok=true
 |[],b,h=>by rw[Ncy]at h;exact⟨h,by simp⟩
 |d::r,b,h=>by
   rw[Ncy]at h;obtain⟨h1,h2⟩:=Nh2 r _ h;obtain⟨h3,h4⟩:=Nlw h1;refine⟨h3,fun x hx=>?_⟩;rcases List.mem_cons.1 hx with rfl|hx
   ·exact h4
   ·exact h2 x hx
theorem NfW:∀ (l:List Dc),(∀ d∈l,d.ok=true)→Ncy true l false=false
 |[],_=>rfl
 |d::r,h=>by
   rw[Ncy,h d (List.mem_cons_self ..)];exact NfW r fun x hx=>h x (List.mem_cons_of_mem _ hx)
theorem NjX{d:Nat}{r:Bool}{w:Nat×Bool}(h:(NcI true d r w).2=false):w.2=false∧r=true:=by
 unfold NcI at h;simp only at h;split at h
 ·cases h
 rename_i h1;split at h
 ·cases h
 split at h
 ·cases h
 exact⟨by simpa using h1,by simpa using h⟩
mutual
theorem Ex.walk_f:∀ (e:Ex) (d:Nat) (w:Nat×Bool),(e.walk true d w).2=false→w.2=false
 |.mk k s n z l,d,w,h=>by
   rw[Ex.walk]at h;split at h
   ·rename_i h1;rw[h1]at h;cases h
   ·exact(NjX (Exs.walk_f l _ _ h)).1
theorem Exs.walk_f:∀ (l:List Ex) (d:Nat) (w:Nat×Bool),(Exs.walk true l d w).2=false→w.2=false
 |[],d,w,h=>by rw[Exs.walk]at h;exact h
 |e::r,d,w,h=>by
   rw[Exs.walk]at h;split at h
   ·rename_i h1;rw[h1]at h;cases h
   ·exact Ex.walk_f e d w (Exs.walk_f r _ _ h)
end
mutual
def Sm.ops:Sm→Bool
 |.mk k o j i n za a zb b ze e r=>(if k.toNat=1 then decide (1≤o.toNat)&&decide (o.toNat≤23)else true)&&(Sms.ops b&&Sms.ops e)
def Sms.ops:List Sm→Bool
 |[]=>true
 |s::r=>s.ops&&Sms.ops r
end
theorem Sm.ops_eq(s:Sm):s.ops=((if s.K.toNat=1 then decide (1≤s.O.toNat)&&decide (s.O.toNat≤23)else true)&&(Sms.ops s.B&&Sms.ops s.E)):=by
 cases s;rw[Sm.ops];rfl
theorem Nio{k o:Nat}{j i:List UInt8}{n:Int}{a b e:Nat}(h:NbL k o j i n a b e=true):(if k=1 then decide (1≤o)&&decide (o≤23)else true)=true:=by
 by_cases hk:k=1
 ·rw[if_pos hk];unfold NbL at h;rw[if_pos hk]at h;split at h
  ·cases h
  rename_i h1;unfold doT at h1;split at h1
  ·exact absurd rfl h1
  split at h1
  ·exact absurd rfl h1
  rename_i h2 h3;simp;omega
 ·rw[if_neg hk]
mutual
theorem Sm.walk_f:∀ (s:Sm) (d:Nat) (w:Nat×Bool),(s.walk true d w).2=false→w.2=false∧s.ops=true
 |.mk k o j i n za a zb b ze e r,d,w,h=>by
   rw[Sm.walk]at h;rw[Sm.ops];split at h
   ·rename_i h1;rw[h1]at h;cases h
   ·obtain⟨h2,h3⟩:=Sms.walk_f e _ _ h;obtain⟨h4,h5⟩:=Sms.walk_f b _ _ h2;obtain⟨h6,h7⟩:=NjX (Exs.walk_f a _ _ h4);exact⟨h6,by rw[Nio h7,h5,h3];rfl⟩
theorem Sms.walk_f:∀ (l:List Sm) (d:Nat) (w:Nat×Bool),(Sms.walk true l d w).2=false→w.2=false∧Sms.ops l=true
 |[],d,w,h=>by rw[Sms.walk]at h;exact⟨h,by rw[Sms.ops]⟩
 |s::r,d,w,h=>by
   rw[Sms.walk]at h;split at h
   ·rename_i h1;rw[h1]at h;cases h
   ·obtain⟨h2,h3⟩:=Sms.walk_f r _ _ h;obtain⟨h4,h5⟩:=Sm.walk_f s d w h2;exact⟨h4,by rw[Sms.ops,h5,h3];rfl⟩
end
theorem Nj6:∀ (T:List Td) (w:Nat×Bool),(Nhe true T w).2=false→w.2=false∧∀ t∈T,Sms.ops t.B=true
 |[],w,h=>by rw[Nhe]at h;exact⟨h,by simp⟩
 |t::r,w,h=>by
   rw[Nhe]at h;obtain⟨h1,h2⟩:=Nj6 r _ h;split at h1
   ·cases h1
   rename_i h3;obtain⟨h4,h5⟩:=Sms.walk_f _ _ _ h1;refine⟨?_,fun x hx=>?_⟩
   ·cases hw:w.2 with
    |false=>rfl
    |true=>rw[hw]at h3;exact absurd rfl h3
   ·rcases List.mem_cons.1 hx with rfl|hx
    ·exact h5
    ·exact h2 x hx
theorem NhT{p:Pg}:Nc3 p=false↔p.D.length≤64∧p.T.length≤16:=by
 unfold Nc3;split
 ·simp;omega
 ·simp;omega
theorem Nf2{p:Pg}(h:Ncm p=true):(p.D.length≤64∧p.T.length≤16)∧(∀ d∈p.D,d.ok=true)∧∀ t∈p.T,Sms.ops t.B=true:=by
 unfold Ncm Ng6 at h;have h':(Nhe true p.T (0,Ncy true p.D (Nc3 p))).2=false:=by simpa using h
 obtain⟨h1,h2⟩:=Nj6 _ _ h';obtain⟨h3,h4⟩:=Nh2 _ _ h1;exact⟨NhT.1 h3,h4,h2⟩
theorem Ng9{p:Pg}{z:Bool}{D:List Dc}(h:Ncm p=true)(hl:D.length≤p.D.length)(hm:∀ d∈D,d∈p.D):Ncm ⟨z,D,p.zt,p.T⟩=true:=by
 obtain⟨⟨h1,h2⟩,h3,h4⟩:=Nf2 h;have e1:Ncy true p.D (Nc3 p)=false:=by rw[NhT.2 ⟨h1,h2⟩];exact NfW _ h3
 have e2:Ncy true D (Nc3 ⟨z,D,p.zt,p.T⟩)=false:=by rw[show Nc3 ⟨z,D,p.zt,p.T⟩=false from NhT.2 ⟨by show D.length≤64;omega,h2⟩];exact NfW _ fun d hd=>h3 d (hm d hd)
 unfold Ncm Ng6 at h ⊢;simp only;rw[e1]at h;rw[e2];exact h
theorem Njn{d:Dc}(h:d.ok=true):(d.K.toNat=4∧Nbp d.O=true)∨d.O=[]:=by
 unfold Dc.ok Nma at h;split at h
 ·cases h
 split at h
 ·rename_i h1;exact Or.inl ⟨h1,h⟩
 ·exact Or.inr (by simpa using h)
theorem Ngv:Nbp []=false:=by decide
theorem NfP{p:Pg}(hz:(Nb5 p).1=0){k:Nat}(hk:k<p.D.length)(z:Bool):decide ((Nb5 ⟨z,p.D.take k++p.D.drop (k+1),p.zt,p.T⟩).1=110)=Nbv p.D[k].S (Dcs.nm p.D (Tds.nm p.T [])):=by
 unfold Nb5 at hz;split at hz
 ·rename_i hr;split at hz
  ·rename_i ho;obtain⟨-,hok,hops⟩:=Nf2 hr;have hsub:∀ d∈p.D.take k++p.D.drop (k+1),d∈p.D:=fun d hd=>by
    rcases List.mem_append.1 hd with h|h
    ·exact List.mem_of_mem_take h
    ·exact List.mem_of_mem_drop h
   unfold Nb5;simp only;rw[Ng9 (z:=z) hr (by rw[List.length_append,List.length_take,List.length_drop];omega) hsub,if_pos rfl];obtain⟨A,hA⟩:∃ A,p.D.take k=A:=⟨_,rfl⟩;obtain⟨B,hB⟩:∃ B,p.D.drop (k+1)=B:=⟨_,rfl⟩;obtain⟨d,hd⟩:∃ d,p.D[k]=d:=⟨_,rfl⟩;have hD:p.D=A++d::B:=(by rw[←hA,←hB,←hd,←List.drop_eq_getElem_cons hk,List.take_append_drop]);rw[hA,hB,hd];rw[hD]at ho hz hok ⊢;rw[Dcs.nm_has,Tds.nm_has];obtain⟨hoA,eA⟩:=Ngx A (d::B) [] ho;rw[eA]at ho hz;obtain⟨esA,hesA⟩:∃ esA,(NaD A []).2=esA:=⟨_,rfl⟩;rw[hesA]at ho hz;obtain⟨hkn,eB⟩:=Nbq ho;rw[eB]at ho hz;have hnone:=(Ncu hkn).1;have hL:Less d.S (putN d.S d.K.toNat esA) esA:=⟨hnone,fun s hs=>by rw[NbA,if_neg hs]⟩;have hAO:∀ x∈A,¬ (x.O≠[]∧d.S=x.O):=fun x hx hc=>by
    rcases Njn (hok x (List.mem_append_left _ hx))with h|h
    ·have:=Nh3 A [] hoA x hx h.1;rw[hesA,←hc.2,hnone]at this;cases this
    ·exact hc.1 h
   have hdO:¬ (d.O≠[]∧d.S=d.O):=fun hc=>by
    rcases Njn (hok d (List.mem_append_right _ (List.mem_cons_self ..)))with h|h
    ·have:=(Ncu hkn).2 h.1;rw[←hc.2,Nep hnone]at this;cases this
    ·exact hc.1 h
   have hany:((A++d::B).any fun x=>decide (x.O≠[]∧d.S=x.O))=(B.any fun x=>decide (x.O≠[]∧d.S=x.O)):=by
    rw[List.any_append,List.any_cons];have e1:(A.any fun x=>decide (x.O≠[]∧d.S=x.O))=false:=by
     rw[List.any_eq_false];intro x hx;have:=hAO x hx;simpa using this
    rw[e1,decide_eq_false hdO];rfl
   rw[hany,Nfg A B [] hoA,hesA];rcases Nfh B _ _ hL (by rw[NbA,if_pos rfl];rfl) ho with⟨⟨x,hx,hx4,hxO⟩,h3⟩|⟨h3,h4,h5⟩
   ·rw[if_neg (by rw[h3];decide)];have:(B.any fun x=>decide (x.O≠[]∧d.S=x.O))=true:=by
     rw[List.any_eq_true];refine⟨x,hx,?_⟩;have hne:x.O≠[]:=fun e=>by
      rcases Njn (hok x (List.mem_append_right _ (List.mem_cons_of_mem _ hx)))with h|h
      ·rw[e,Ngv]at h;cases h.2
      ·unfold Dc.ok Nma at hok;have h6:=hok x (List.mem_append_right _ (List.mem_cons_of_mem _ hx));split at h6
       ·cases h6
       try rw[if_pos hx4]at h6
       rw[e,Ngv]at h6;cases h6
     exact decide_eq_true ⟨hne,hxO.symm⟩
    rw[this,Bool.true_or,h3];rfl
   ·have:(B.any fun x=>decide (x.O≠[]∧d.S=x.O))=false:=by
     rw[List.any_eq_false];intro x hx;have:¬ (x.O≠[]∧d.S=x.O):=fun hc=>by
      rcases Njn (hok x (List.mem_append_right _ (List.mem_cons_of_mem _ hx)))with h|h
      ·exact h3 ⟨x,hx,h.1,hc.2.symm⟩
      ·exact hc.1 h
     simpa using this
    rw[this,Bool.false_or,if_pos h4,Nfv h5 p.T [] hz];cases (p.T.any fun t=>Sms.asks d.S t.B)<;>simp[Nbv]
  ·rename_i ho;exact absurd hz ho
 ·cases hz
theorem NdZ{es:List (List UInt8×Nat)}{ls:List (List UInt8)}{s:Sm}(h:(Nby es ls s).1=0):(s.K.toNat=1→getN s.J es=some (ofN s.O.toNat))∧Exs.told (Nbv · ls) s.A=true∧(Nby es ls s).2=lsP s.I ls∧(lsP s.I ls).length≤20:=by
 unfold Nby at h ⊢;split at h
 ·rename_i h1;rw[if_pos h1];split at h
  ·rename_i h2;rw[if_pos h2];refine⟨fun hk=>?_,h2,rfl,?_⟩
   ·unfold Nmk at h1;rw[if_pos hk]at h1;unfold NbD at h1;split at h1
    ·cases h1
    ·rename_i k hg;rw[hg];split at h1
     ·rename_i e;rw[e]
     ·cases h1
   ·simp only at h;unfold Nnp at h;split at h
    ·cases h
    ·omega
  ·cases h
 ·rename_i h1;exact absurd h h1
mutual
theorem Sm.chk_len(es:List (List UInt8×Nat)):∀ (s:Sm) (ls:List (List UInt8)),(s.chk es ls).1.1=0→(s.chk es ls).2.length≤20
 |.mk k o j i n za a zb b ze e r,ls,h=>by
   rw[Sm.chk]at h ⊢;split at h
   ·rename_i h1;rw[if_pos h1];obtain⟨-,-,h3,h4⟩:=NdZ h1;rw[←h3]at h4;split at h
    ·rename_i h2;rw[if_pos h2];exact Sms.chk_len es e _ (Sms.chk_len es b _ h4 h2) h
    ·rename_i h2;exact absurd h h2
   ·rename_i h1;exact absurd h h1
theorem Sms.chk_len(es:List (List UInt8×Nat)):∀ (l:List Sm) (ls:List (List UInt8)),ls.length≤20→(Sms.chk es l ls).1.1=0→(Sms.chk es l ls).2.length≤20
 |[],ls,hl,h=>by rw[Sms.chk];exact hl
 |s::r,ls,hl,h=>by
   rw[Sms.chk]at h ⊢;split at h
   ·rename_i h1;rw[if_pos h1];exact Sms.chk_len es r _ (Sm.chk_len es s ls h1) h
   ·rename_i h1;exact absurd h h1
end
theorem Nht{es:List (List UInt8×Nat)}{s:Sm}{r:List Sm}{ls:List (List UInt8)}(h:(Sms.chk es (s::r) ls).1.1=0) :
 (Nby es ls s).1=0∧(Sms.chk es s.B (lsP s.I ls)).1.1=0∧(Sms.chk es s.E (Sms.chk es s.B (lsP s.I ls)).2).1.1=0∧Sms.chk es (s::r) ls=Sms.chk es r (Sms.chk es s.E (Sms.chk es s.B (lsP s.I ls)).2).2:=by
 rw[Sms.chk]at h ⊢;split at h
 ·rename_i h1;rw[if_pos h1];have he:=Sm.chk_eq es s ls;rw[he]at h1 ⊢;split at h1
  ·rename_i h2;rw[if_pos h2];have h3:=(NdZ h2).2.2.1;rw[h3]at h1 ⊢;have hi:∀ l,inI es s 0 l=if(Sms.chk es s.B l).1.1=0 then Sms.chk es s.E (Sms.chk es s.B l).2 else Sms.chk es s.B l:=fun _=>rfl;rw[hi]at h1 ⊢;split at h1
   ·rename_i h4;rw[if_pos h4];exact⟨h2,h4,h1,rfl⟩
   ·rename_i h4;exact absurd h1 h4
  ·rename_i h2;exact absurd h1 h2
 ·rename_i h1;exact absurd h h1
end Go.Pe
