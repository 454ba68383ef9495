/-
 The document's tree and the program's: a program is right by the one just if it is by the other. No condition.
-/
import Derived.Test.YtjnofhibldppoaaZRigG
set_option linter.unusedVariables false
namespace Go.Pe
open Go
mutual
def Ex.dp:Ex→Nat
 |.mk k s n z l=>Exs.dp l
def Exs.dp:List Ex→Nat
 |[]=>0
 |e::r=>max (e.dp+1) (Exs.dp r)
end
theorem Ex.dp_eq(e:Ex):e.dp=Exs.dp e.L:=by cases e;rw[Ex.dp];rfl
mutual
def Sm.dp:Sm→Nat
 |.mk k o j i n za a zb b ze e r=>max (Exs.dp a) (max (Sms.dp b) (Sms.dp e))
def Sms.dp:List Sm→Nat
 |[]=>0
 |s::r=>max (s.dp+1) (Sms.dp r)
end
theorem Sm.dp_eq(s:Sm):s.dp=max (Exs.dp s.A) (max (Sms.dp s.B) (Sms.dp s.E)):=by cases s;rw[Sm.dp];rfl
theorem Nm1{f:List Ex→Nat×Nat}{v:Nat}(h:∀ l,(f l).2=min v (Exs.dp l)):∀ (l:List Ex) (w:Nat×Nat),(Exs.szW f l w).2+1=max (w.2+1) (min (v+1) (Exs.dp l))
 |[],w=>by rw[Exs.szW,Exs.dp];omega
 |e::r,w=>by
   rw[Exs.szW,Exs.dp,Nm1 h r,h,Ex.dp_eq];show max (max w.2 (min v (Exs.dp e.L))+1) _=_;omega
theorem NpZ:∀ (v:Nat) (l:List Ex),(Exs.sz v l).2=min v (Exs.dp l)
 |0,l=>by rw[Exs.sz];simp
 |v+1,[]=>by rw[Exs.sz,if_pos List.length_nil,Exs.dp];simp
 |v+1,e::r=>by
   rw[Exs.sz,if_neg Zaf];show(Exs.szW (Exs.sz v) (e::r) ((e::r).length,0)).2+1=_;rw[Nm1 (NpZ v)];have:1≤Exs.dp (e::r):=(by rw[Exs.dp];omega);simp only;omega
theorem Nm3{f:List Ex→Nat×Nat}{v:Nat}(h:∀ l,Exs.dp l≤v→(f l).1=Exs.size l):∀ (l:List Ex) (w:Nat×Nat),Exs.dp l≤v+1→(Exs.szW f l w).1+l.length=w.1+Exs.size l
 |[],w,_=>by rw[Exs.szW,Exs.size];simp
 |e::r,w,hd=>by
   rw[Exs.dp,Ex.dp_eq]at hd;have:=Nm3 h r (w.1+(f e.L).1,Nat.max w.2 (f e.L).2) Zaa;rw[Exs.szW,Exs.size,List.length_cons,Ex.size_eq];have h2:=h e.L Zaa;simp only at this;omega
theorem Np0:∀ (v:Nat) (l:List Ex),Exs.dp l≤v→(Exs.sz v l).1=Exs.size l
 |0,[],_=>by rw[Exs.sz,Exs.size]
 |0,e::r,h=>by rw[Exs.dp]at h;omega
 |v+1,[],h=>by rw[Exs.sz,if_pos List.length_nil,Exs.size]
 |v+1,e::r,h=>by
   rw[Exs.sz,if_neg Zaf];have:=Nm3 (Np0 v) (e::r) ((e::r).length,0) h;simp only at this ⊢;omega
theorem NmX{f:List Sm→Nat×Nat}{v:Nat}(h:∀ l,(f l).2=min v (Sms.dp l)):∀ (l:List Sm) (w:Nat×Nat),(Sms.szW v f l w).2+1=max (w.2+1) (min (v+1) (Sms.dp l))
 |[],w=>by rw[Sms.szW,Sms.dp];omega
 |e::r,w=>by
   rw[Sms.szW,Sms.dp,NmX h r,h,h,NpZ,Sm.dp_eq];show max (max (max (max w.2 (min v (Exs.dp e.A))) (min v (Sms.dp e.B))) (min v (Sms.dp e.E))+1) _=_;omega
theorem Nm4:∀ (v:Nat) (l:List Sm),(Sms.sz v l).2=min v (Sms.dp l)
 |0,l=>by rw[Sms.sz];simp
 |v+1,[]=>by rw[Sms.sz,if_pos List.length_nil,Sms.dp];simp
 |v+1,e::r=>by
   rw[Sms.sz,if_neg Zaf];show(Sms.szW v (Sms.sz v) (e::r) ((e::r).length,0)).2+1=_;rw[NmX (Nm4 v)];have:1≤Sms.dp (e::r):=(by rw[Sms.dp];omega);simp only;omega
theorem NmZ{f:List Sm→Nat×Nat}{v:Nat}(h:∀ l,Sms.dp l≤v→(f l).1=Sms.size l):∀ (l:List Sm) (w:Nat×Nat),Sms.dp l≤v+1→(Sms.szW v f l w).1+l.length=w.1+Sms.size l
 |[],w,_=>by rw[Sms.szW,Sms.size];simp
 |e::r,w,hd=>by
   rw[Sms.dp,Sm.dp_eq]at hd;have:=NmZ h r (w.1+(Exs.sz v e.A).1+(f e.B).1+(f e.E).1,Nat.max (Nat.max (Nat.max w.2 (Exs.sz v e.A).2) (f e.B).2) (f e.E).2) Zaa;rw[Sms.szW,Sms.size,List.length_cons,Sm.size_eq];have h2:=h e.B Zaa;have h3:=h e.E Zaa;have h4:=Np0 v e.A Zaa;simp only at this;omega
theorem Nm6:∀ (v:Nat) (l:List Sm),Sms.dp l≤v→(Sms.sz v l).1=Sms.size l
 |0,[],_=>by rw[Sms.sz,Sms.size]
 |0,e::r,h=>by rw[Sms.dp]at h;omega
 |v+1,[],h=>by rw[Sms.sz,if_pos List.length_nil,Sms.size]
 |v+1,e::r,h=>by
   rw[Sms.sz,if_neg Zaf];have:=NmZ (Nm6 v) (e::r) ((e::r).length,0) h;simp only at this ⊢;omega
theorem Nga(d:Nat)(r:Bool)(w:Nat×Bool)(h0:w.2=false):(NcK true d r w).2=false↔w.1+1≤1000∧d≤20∧r=true:=by
 unfold NcK;rw[h0,if_neg Zaf];simp only;split
 ·simp;omega
 split
 ·simp;omega
 constructor
 ·intro h;exact⟨by omega,by omega,by simpa using h⟩
 ·rintro⟨_,_,h⟩;simp[h]
mutual
theorem Ex.walk_i:∀ (e:Ex) (d:Nat) (w:Nat×Bool),w.2=false→w.1≤1000→((e.walk true d w).2=false↔w.1+e.size≤1000∧d+e.dp≤20∧e.rt=true)∧((e.walk true d w).2=false→(e.walk true d w).1=w.1+e.size)
 |.mk k s n z l,d,w,h0,h1=>by
   rw[Ex.walk,Ex.size,Ex.dp,Ex.rt];have ho:=Nga d (Nbd k.toNat s n l.length) w h0;have hn:=NgT true d (Nbd k.toNat s n l.length) w;obtain⟨o,hoo⟩:∃ o,NcK true d (Nbd k.toNat s n l.length) w=o:=⟨_,rfl⟩;rw[hoo]at ho hn ⊢;cases hb:o.2 with
   |true =>
     rw[if_pos rfl];have hno:¬ (w.1+1≤1000∧d≤20∧Nbd k.toNat s n l.length=true):=fun h=>by rw[ho.2 h]at hb;cases hb
     refine⟨⟨fun h=>(Bool.noConfusion (hb.symm.trans h)),fun h=>(hno ⟨by omega,by omega,?_⟩).elim⟩,fun h=>(Bool.noConfusion (hb.symm.trans h))⟩;simp only[Bool.and_eq_true]at h;exact h.2.2.2
   |false =>
     rw[if_neg Zaf];obtain⟨a1,a2,a3⟩:=ho.1 hb;obtain⟨i1,i2⟩:=Exs.walk_i l (d+1) o hb Zaa;rw[a3];refine⟨?_,fun h=>?_⟩
     ·rw[i1,hn];simp only[Bool.and_true];constructor
      ·rintro⟨b1,b2,b3⟩;exact⟨by omega,by omega,b3⟩
      ·rintro⟨b1,b2,b3⟩;exact⟨by omega,by omega,b3⟩
     ·rw[i2 h,hn];omega
theorem Exs.walk_i:∀ (l:List Ex) (d:Nat) (w:Nat×Bool),w.2=false→w.1≤1000→((Exs.walk true l d w).2=false↔w.1+Exs.size l≤1000∧(Exs.dp l=0∨d+Exs.dp l≤21)∧Exs.rt l=true)∧((Exs.walk true l d w).2=false→(Exs.walk true l d w).1=w.1+Exs.size l)
 |[],d,w,h0,h1=>by
   rw[Exs.walk,Exs.size,Exs.dp,Exs.rt];exact⟨⟨fun _=>⟨by omega,Or.inl rfl,rfl⟩,fun _=>h0⟩,fun _=>rfl⟩
 |e::r,d,w,h0,h1=>by
   rw[Exs.walk,Exs.size,Exs.dp,Exs.rt];have ho:=Nga d (Nbd e.K.toNat e.S e.N e.L.length) w h0;obtain⟨i1,i2⟩:=Ex.walk_i e d w h0 h1;have hz:=Ex.size_eq e;cases hb:(NcK true d (Nbd e.K.toNat e.S e.N e.L.length) w).2 with
   |true =>
     rw[if_pos rfl];have hno:¬ (w.1+1≤1000∧d≤20∧Nbd e.K.toNat e.S e.N e.L.length=true):=fun h=>by rw[ho.2 h]at hb;cases hb
     refine⟨⟨fun h=>(Bool.noConfusion (hb.symm.trans h)),fun h=>(hno ⟨by omega,by omega,?_⟩).elim⟩,fun h=>(Bool.noConfusion (hb.symm.trans h))⟩;have:=h.2.2;rw[Ex.rt_eq]at this;simp only[Bool.and_eq_true]at this;exact this.1.2
   |false =>
     rw[if_neg Zaf];cases hx:(e.walk true d w).2 with
     |true =>
       have hn:¬ (w.1+e.size≤1000∧d+e.dp≤20∧e.rt=true):=fun h=>by rw[i1.2 h]at hx;cases hx
       have hf:¬ (Exs.walk true r d (e.walk true d w)).2=false:=fun h=>by rw[Exs.walk_f r d _ h]at hx;cases hx
       refine⟨⟨fun h=>(hf h).elim,fun h=>(hn ⟨by omega,by omega,?_⟩).elim⟩,fun h=>(hf h).elim⟩;have:=h.2.2;simp only[Bool.and_eq_true]at this;exact this.1
     |false =>
       obtain⟨a1,a2,a3⟩:=i1.1 hx;have hw:=i2 hx;obtain⟨j1,j2⟩:=Exs.walk_i r d (e.walk true d w) hx Zaa;rw[a3,Bool.true_and];refine⟨?_,fun h=>?_⟩
       ·rw[j1,hw];constructor
        ·rintro⟨b1,b2,b3⟩;exact⟨by omega,by omega,b3⟩
        ·rintro⟨b1,b2,b3⟩;exact⟨by omega,by omega,b3⟩
       ·rw[j2 h,hw];omega
end
mutual
theorem Sm.walk_i:∀ (e:Sm) (d:Nat) (w:Nat×Bool),w.2=false→w.1≤1000→((e.walk true d w).2=false↔w.1+e.size≤1000∧d+e.dp≤20∧e.rt=true)∧((e.walk true d w).2=false→(e.walk true d w).1=w.1+e.size)
 |.mk k o j i n za a zb b ze e r,d,w,h0,h1=>by
   rw[Sm.walk,Sm.size,Sm.dp,Sm.rt];have ho:=Nga d (Na0 k.toNat o.toNat j i n a.length b.length e.length) w h0;have hn:=NgT true d (Na0 k.toNat o.toNat j i n a.length b.length e.length) w;obtain⟨q,hq⟩:∃ q,NcK true d (Na0 k.toNat o.toNat j i n a.length b.length e.length) w=q:=⟨_,rfl⟩;rw[hq]at ho hn ⊢;cases hb:q.2 with
   |true =>
     rw[if_pos rfl];have hno:¬ (w.1+1≤1000∧d≤20∧Na0 k.toNat o.toNat j i n a.length b.length e.length=true):=fun h=>by rw[ho.2 h]at hb;cases hb
     refine⟨⟨fun h=>(Bool.noConfusion (hb.symm.trans h)),fun h=>(hno ⟨by omega,by omega,?_⟩).elim⟩,fun h=>(Bool.noConfusion (hb.symm.trans h))⟩;simp only[Bool.and_eq_true]at h;exact h.2.2.1.1
   |false =>
     rw[if_neg Zaf];obtain⟨a1,a2,a3⟩:=ho.1 hb;obtain⟨i1,i2⟩:=Exs.walk_i a (d+1) q hb Zaa;obtain⟨X,hX⟩:∃ X,Exs.walk true a (d+1) q=X:=⟨_,rfl⟩;rw[hX]at i1 i2 ⊢;rw[a3,Bool.true_and];simp only[Bool.and_eq_true];cases hx:X.2 with
     |true =>
       have hf:¬ (Sms.walk true e (d+1) (Sms.walk true b (d+1) X)).2=false:=fun h=>by rw[(Sms.walk_f b (d+1) _ (Sms.walk_f e (d+1) _ h).1).1]at hx;cases hx
       have hn':¬ (q.1+Exs.size a≤1000∧(Exs.dp a=0∨d+1+Exs.dp a≤21)∧Exs.rt a=true):=fun h=>by rw[i1.2 h]at hx;cases hx
       exact⟨⟨fun h=>(hf h).elim,fun h=>(hn' ⟨by omega,by omega,h.2.2.2⟩).elim⟩,fun h=>(hf h).elim⟩
     |false =>
       obtain⟨b1,b2,b3⟩:=i1.1 hx;have hX1:=i2 hx;obtain⟨j1,j2⟩:=Sms.walk_i b (d+1) X hx Zaa;obtain⟨Y,hY⟩:∃ Y,Sms.walk true b (d+1) X=Y:=⟨_,rfl⟩;rw[hY]at j1 j2 ⊢;cases hy:Y.2 with
       |true =>
         have hf:¬ (Sms.walk true e (d+1) Y).2=false:=fun h=>by rw[(Sms.walk_f e (d+1) _ h).1]at hy;cases hy
         have hn':¬ (X.1+Sms.size b≤1000∧(Sms.dp b=0∨d+1+Sms.dp b≤21)∧Sms.rt b=true):=fun h=>by rw[j1.2 h]at hy;cases hy
         exact⟨⟨fun h=>(hf h).elim,fun h=>(hn' ⟨by omega,by omega,h.2.2.1.1⟩).elim⟩,fun h=>(hf h).elim⟩
       |false =>
         obtain⟨c1,c2,c3⟩:=j1.1 hy;have hY1:=j2 hy;obtain⟨k1,k2⟩:=Sms.walk_i e (d+1) Y hy Zaa;refine⟨?_,fun h=>?_⟩
         ·rw[k1];constructor
          ·rintro⟨e1,e2,e3⟩;exact⟨by omega,by omega,⟨c3,e3⟩,b3⟩
          ·rintro⟨e1,e2,⟨_,e3⟩,_⟩;exact⟨by omega,by omega,e3⟩
         ·rw[k2 h];omega
theorem Sms.walk_i:∀ (l:List Sm) (d:Nat) (w:Nat×Bool),w.2=false→w.1≤1000→((Sms.walk true l d w).2=false↔w.1+Sms.size l≤1000∧(Sms.dp l=0∨d+Sms.dp l≤21)∧Sms.rt l=true)∧((Sms.walk true l d w).2=false→(Sms.walk true l d w).1=w.1+Sms.size l)
 |[],d,w,h0,h1=>by
   rw[Sms.walk,Sms.size,Sms.dp,Sms.rt];exact⟨⟨fun _=>⟨by omega,Or.inl rfl,rfl⟩,fun _=>h0⟩,fun _=>rfl⟩
 |e::r,d,w,h0,h1=>by
   rw[Sms.walk,Sms.size,Sms.dp,Sms.rt];have ho:=Nga d e.sh w h0;obtain⟨i1,i2⟩:=Sm.walk_i e d w h0 h1;have hz:=Sm.size_eq e;cases hb:(NcK true d e.sh w).2 with
   |true =>
     rw[if_pos rfl];have hno:¬ (w.1+1≤1000∧d≤20∧e.sh=true):=fun h=>by rw[ho.2 h]at hb;cases hb
     refine⟨⟨fun h=>(Bool.noConfusion (hb.symm.trans h)),fun h=>(hno ⟨by omega,by omega,?_⟩).elim⟩,fun h=>(Bool.noConfusion (hb.symm.trans h))⟩;have:=h.2.2;rw[Sm.rt_eq]at this;simp only[Bool.and_eq_true]at this;exact this.1.1.1
   |false =>
     rw[if_neg Zaf];cases hx:(e.walk true d w).2 with
     |true =>
       have hn:¬ (w.1+e.size≤1000∧d+e.dp≤20∧e.rt=true):=fun h=>by rw[i1.2 h]at hx;cases hx
       have hf:¬ (Sms.walk true r d (e.walk true d w)).2=false:=fun h=>by rw[(Sms.walk_f r d _ h).1]at hx;cases hx
       refine⟨⟨fun h=>(hf h).elim,fun h=>(hn ⟨by omega,by omega,?_⟩).elim⟩,fun h=>(hf h).elim⟩;have:=h.2.2;simp only[Bool.and_eq_true]at this;exact this.1
     |false =>
       obtain⟨a1,a2,a3⟩:=i1.1 hx;have hw:=i2 hx;obtain⟨j1,j2⟩:=Sms.walk_i r d (e.walk true d w) hx Zaa;rw[a3,Bool.true_and];refine⟨?_,fun h=>?_⟩
       ·rw[j1,hw];constructor
        ·rintro⟨b1,b2,b3⟩;exact⟨by omega,by omega,b3⟩
        ·rintro⟨b1,b2,b3⟩;exact⟨by omega,by omega,b3⟩
       ·rw[j2 h,hw];omega
end
def Tds.sum:List Td→Nat
 |[]=>0
 |t::r=>Sms.size t.B+Tds.sum r
theorem NkX:∀ (T:List Td) (w:Nat×Bool),w.2=false→w.1≤1000→((Nhd true T w).2=false↔w.1+Tds.sum T≤1000∧(∀ t∈T,Sms.dp t.B≤20)∧Tds.rt T=true)
 |[],w,h0,h1=>by
   rw[Nhd,Tds.sum,Tds.rt];exact⟨fun _=>⟨by omega,by simp,rfl⟩,fun _=>h0⟩
 |t::r,w,h0,h1=>by
   rw[Nhd,Tds.sum,Tds.rt,h0];cases hn:NaJ t.S with
   |false =>
     rw[if_pos (by rfl)];refine⟨fun h=>?_,fun h=>by simp at h⟩;have:=(NiD r _ h).1;cases this
   |true =>
     rw[if_neg (by simp[NmC])];obtain⟨i1,i2⟩:=Sms.walk_i t.B 1 (w.1,false) rfl h1;obtain⟨X,hX⟩:∃ X,Sms.walk true t.B 1 (w.1,false)=X:=⟨_,rfl⟩;rw[hX]at i1 i2 ⊢;simp only at i1 i2;rw[Bool.true_and];cases hx:X.2 with
     |true =>
       have hf:¬ (Nhd true r X).2=false:=fun h=>by rw[(NiD r X h).1]at hx;cases hx
       have hno:¬ (w.1+Sms.size t.B≤1000∧(Sms.dp t.B=0∨1+Sms.dp t.B≤21)∧Sms.rt t.B=true):=fun h=>by rw[i1.2 h]at hx;cases hx
       refine⟨fun h=>(hf h).elim,fun h=>(hno ⟨by omega,?_,?_⟩).elim⟩
       ·have:=h.2.1 t (List.mem_cons_self ..);omega
       ·have:=h.2.2;simp only[Bool.and_eq_true]at this;exact this.1
     |false =>
       obtain⟨a1,a2,a3⟩:=i1.1 hx;have hw:=i2 hx;rw[NkX r X hx Zaa,hw,a3,Bool.true_and];constructor
       ·rintro⟨b1,b2,b3⟩;refine⟨by omega,fun x hxm=>?_,b3⟩;rcases List.mem_cons.1 hxm with rfl|hxm
        ·omega
        ·exact b2 x hxm
       ·rintro⟨b1,b2,b3⟩;exact⟨by omega,fun x hxm=>b2 x (List.mem_cons_of_mem _ hxm),b3⟩
theorem Nr0:∀ (T:List Td) (n:Nat),((Tds.ft T n).2=false↔∀ t∈T,Sms.dp t.B≤20)∧((Tds.ft T n).2=false→(Tds.ft T n).1=n+Tds.sum T)
 |[],n=>by rw[Tds.ft,Tds.sum];exact⟨by simp,fun _=>rfl⟩
 |t::r,n=>by
   rw[Tds.ft,Tds.sum,Nm4];split
   ·rename_i h;refine⟨⟨fun h=>(by cases h),fun h2=>?_⟩,fun h=>(by cases h)⟩;have:=h2 t (List.mem_cons_self ..);omega
   ·rename_i h;obtain⟨i1,i2⟩:=Nr0 r (n+(Sms.sz 21 t.B).1);have hs:=Nm6 21 t.B Zaa;refine⟨?_,fun h=>?_⟩
    ·rw[i1];constructor
     ·intro h2 x hx;rcases List.mem_cons.1 hx with rfl|hx
      ·omega
      ·exact h2 x hx
     ·intro h2 x hx;exact h2 x (List.mem_cons_of_mem _ hx)
    ·rw[i2 h,hs];omega
theorem Nnq:∀ (D:List Dc),Dcs.rt D=true↔∀ d∈D,d.ok=true
 |[]=>by rw[Dcs.rt];simp
 |d::r=>by
   rw[Dcs.rt,Bool.and_eq_true,Nnq r];simp
theorem Ng2(p:Pg):Njo p=Ndp p:=by
 apply Bool.eq_iff_iff.2;obtain⟨f1,f2⟩:=Nr0 p.T 0;constructor
 ·intro h;unfold Njo NmI at h;simp only[Bool.and_eq_true,Bool.not_eq_true',decide_eq_true_eq]at h;obtain⟨⟨h1,h2,h3,h4⟩,h5,h6⟩:=h;unfold Ndp NhG;have e1:Ndj true p.D (Nef p)=false:=by rw[Nkc.2 ⟨h3,h4⟩];exact NhA _ ((Nnq _).1 h5)
  rw[e1];have:=(NkX p.T (0,false) rfl Zaf).2 ⟨by rw[f2 h1]at h2;simpa using h2,f1.1 h1,h6⟩;rw[this];rfl
 ·intro h;obtain⟨⟨h1,h2⟩,h3,-⟩:=Nox h;unfold Ndp NhG at h;have e1:Ndj true p.D (Nef p)=false:=by rw[Nkc.2 ⟨h1,h2⟩];exact NhA _ h3
  rw[e1]at h;have h':(Nhd true p.T (0,false)).2=false:=by simpa using h
  obtain⟨i1,i2,i3⟩:=(NkX p.T (0,false) rfl Zaf).1 h';have hd:=f1.2 i2;unfold Njo NmI;simp only[Bool.and_eq_true,Bool.not_eq_true',decide_eq_true_eq];exact⟨⟨hd,by rw[f2 hd];simpa using i1,h1,h2⟩,(Nnq _).2 h3,i3⟩
end Go.Pe
