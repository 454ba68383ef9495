/-
 Epochs: what little is kept of a variable is enough: plain mathematics. No condition; nothing of the program.
-/
import Derived.Test.YtafdphmhbnjfaaaGreatDoorZRacK
set_option linter.unusedVariables false
set_option linter.unusedSimpArgs false
namespace Go.Pe
open Go Go.Am Go.RowKit
structure Sn where
 W:Int
 wn:Int
 R:Int
 rn:Int
 Rs:List Int
def sn0:Sn:=⟨-1,0,-1,0,[]⟩
def NcK(l:List Int)(t:Nat)(k:Int):List Int:=(l++List.replicate (t+1 - l.length) 0).set t k
theorem Nce(l:List Int)(t:Nat)(k:Int):(NcK l t k).length=max l.length (t+1):=by
 unfold NcK;rw[List.length_set,List.length_append,List.length_replicate];omega
theorem Nph(l:List Int)(m u:Nat):gi (l++List.replicate m 0) u=gi l u:=by
 unfold gi;by_cases h:u<l.length
 ·rw[List.getD_eq_getElem?_getD,List.getD_eq_getElem?_getD,List.getElem?_append_left h]
 ·rw[List.getD_eq_getElem?_getD,List.getD_eq_getElem?_getD,List.getElem?_append_right Zaa,List.getElem?_eq_none (by omega:l.length≤u),List.getElem?_replicate];split<;>rfl
theorem Nhz(l:List Int)(t:Nat)(k:Int)(u:Nat):gi (NcK l t k) u=if u=t then k else gi l u:=by
 have hl:t<(l++List.replicate (t+1 - l.length) 0).length:=by rw[List.length_append,List.length_replicate];omega
 by_cases h:u=t
 ·subst h;rw[if_pos rfl];unfold NcK gi;rw[List.getD_eq_getElem?_getD,List.getElem?_set_self hl];rfl
 ·rw[if_neg h,←Nph l (t+1 - l.length) u];unfold NcK gi;rw[List.getD_eq_getElem?_getD,List.getD_eq_getElem?_getD,List.getElem?_set_ne (Ne.symm h)]
def NdT(sees:Int→Int→Bool)(t n:Int)(s:Sn):Sn×Bool :=
 if sees s.W s.wn=false then(s,false)
 else if s.Rs≠[]then({ s with Rs:=NcK s.Rs t.toNat n },true)
 else if s.R<0∨sees s.R s.rn=true then({ s with R:=t,rn:=n },true)
 else({ s with Rs:=NcK (NcK [] s.R.toNat s.rn) t.toNat n,R:=-1,rn:=0 },true)
def Nct(sees:Int→Int→Bool)(t n:Int)(s:Sn):Sn×Bool :=
 if sees s.W s.wn=false∨sees s.R s.rn=false then(s,false)
 else if(List.range s.Rs.length).all (fun u=>sees (u:Int) (gi s.Rs u))=false then(s,false)
 else({ sn0 with W:=t,wn:=n },true)
section
variable (th:Nat→Int) (ac:Nat→Bool) (ob:Nat→Int) (wr:Nat→Bool) (sees:Nat→Int→Int→Bool)
def NcH(i:Nat):Int:=cn th (th i) (i+1)
def NmG(j:Nat)(s:Sn):Sn×Bool:=if wr j=true then Nct (sees j) (th j) (NcH th j) s else NdT (sees j) (th j) (NcH th j) s
def Nfv:Nat→(Int→Sn)×(Int→Option Nat)
 |0=>(fun _=>sn0,fun _=>none)
 |j+1=>if ac j=true then(if((Nfv j).2 (ob j)).isSome then Nfv j else(fun o=>if o=ob j then(NmG th wr sees j ((Nfv j).1 o)).1 else(Nfv j).1 o,fun o=>if o=ob j∧(NmG th wr sees j ((Nfv j).1 o)).2=false then some j else(Nfv j).2 o))else Nfv j
end
section
variable {th:Nat→Int}{ac:Nat→Bool}{ob:Nat→Int}{wr:Nat→Bool}{sees:Nat→Int→Int→Bool}{A:Nat→Nat→Prop}{n:Nat}
theorem Ngg(i:Nat):1≤NcH th i:=by
 unfold NcH;have:=NgA (th:=th) (th i) i;rw[cn,if_pos rfl];omega
theorem Nl6{i i':Nat}(h:th i=th i')(hn:NcH th i=NcH th i'):i=i':=by
 unfold NcH at hn;rw[←h]at hn;have key:∀ a b:Nat,a<b→th b=th i→cn th (th i) (a+1)<cn th (th i) (b+1):=by
  intro a b hab hb;have:=NeC (th:=th) (t:=th i) (show a+1≤b by omega);have e:cn th (th i) (b+1)=cn th (th i) b+1:=by rw[cn,if_pos hb]
  omega
 rcases Nat.lt_trichotomy i i' with h1|h1|h1
 ·have:=key i i' h1 h.symm;omega
 ·exact h1
 ·have:=key i' i h1 rfl;omega
structure EpH(th:Nat→Int)(sees:Nat→Int→Int→Bool)(A:Nat→Nat→Prop)(n:Nat):Prop where
 t0:∀ i,i<n→0≤th i
 same:∀ i j,i<j→j<n→th i=th j→A i j
 trans:∀ i j k,A i j→A j k→A i k
 see:∀ j,j<n→∀ u k,sees j u k=true↔(u<0∨u=th j∨k<1∨∃ i,i<j∧th i=u∧NcH th i=k∧A i j)
theorem EpH.of(h:EpH th sees A n){i j:Nat}(hij:i<j)(hj:j<n):sees j (th i) (NcH th i)=true↔A i j:=by
 rw[h.see j hj];have h1:=Ngg (th:=th) i;have h0:=h.t0 i Zaa;constructor
 ·rintro(a|a|a|⟨m,m1,m2,m3,m4⟩)
  ·omega
  ·exact h.same i j hij hj a
  ·omega
  ·have:=Nl6 m2 m3;subst this;exact m4
 ·intro a;exact .inr (.inr (.inr ⟨i,hij,rfl,rfl,a⟩))
theorem EpH.none(h:EpH th sees A n){j:Nat}(hj:j<n)(k:Int):sees j (-1) k=true:=(h.see j hj _ _).2 (.inl Zaa)
theorem EpH.zero(h:EpH th sees A n){j:Nat}(hj:j<n)(u:Int):sees j u 0=true:=(h.see j hj _ _).2 (.inr (.inr (.inl Zaa)))
def PaE(ac:Nat→Bool)(ob:Nat→Int)(j:Nat)(o:Int)(i:Nat):Prop:=i<j∧ac i=true∧ob i=o
def QaE(ac:Nat→Bool)(ob:Nat→Int)(wr:Nat→Bool)(j:Nat)(o:Int)(i:Nat):Prop:=PaE ac ob j o i∧wr i=false∧∀ w,PaE ac ob j o w→wr w=true→w<i
structure Inv(th:Nat→Int)(ac:Nat→Bool)(ob:Nat→Int)(wr:Nat→Bool)(A:Nat→Nat→Prop)(j:Nat)(o:Int)(s:Sn):Prop where
 w:(s.W=-1∧s.wn=0∧∀ i,PaE ac ob j o i→wr i=false)∨∃ w,PaE ac ob j o w∧wr w=true∧s.W=th w∧s.wn=NcH th w∧(∀ i,PaE ac ob j o i→i<w→A i w)∧∀ i,PaE ac ob j o i→wr i=true→i≤w
 r:(s.Rs=[]∧s.R=-1∧s.rn=0∧∀ i,¬ QaE ac ob wr j o i)∨(s.Rs=[]∧∃ r,QaE ac ob wr j o r∧s.R=th r∧s.rn=NcH th r∧∀ i,QaE ac ob wr j o i→i=r∨A i r)∨(s.Rs≠[]∧s.R=-1∧s.rn=0∧(∀ i,QaE ac ob wr j o i→∃ r,QaE ac ob wr j o r∧(i=r∨A i r)∧(th r).toNat<s.Rs.length∧gi s.Rs (th r).toNat=NcH th r)∧∀ u,u<s.Rs.length→gi s.Rs u=0∨∃ r,QaE ac ob wr j o r∧th r=(u:Int)∧gi s.Rs u=NcH th r)
theorem Inv.zero(o:Int):Inv th ac ob wr A 0 o sn0 :=
 ⟨.inl ⟨rfl,rfl,fun i h=>absurd h.1 Zaa⟩,.inl ⟨rfl,rfl,rfl,fun i h=>absurd h.1.1 Zaa⟩⟩
theorem PaE.next{j:Nat}{o:Int}{i:Nat}(h:¬ (ac j=true∧ob j=o)):PaE ac ob (j+1) o i↔PaE ac ob j o i:=by
 unfold PaE;constructor
 ·rintro⟨a,b,c⟩;refine⟨?_,b,c⟩;by_cases e:i=j
  ·subst e;exact absurd ⟨b,c⟩ h
  ·omega
 ·rintro⟨a,b,c⟩;exact⟨by omega,b,c⟩
theorem PaE.step{j:Nat}{o:Int}{i:Nat}(ha:ac j=true)(ho:ob j=o):PaE ac ob (j+1) o i↔PaE ac ob j o i∨i=j:=by
 unfold PaE;constructor
 ·rintro⟨a,b,c⟩;by_cases e:i=j
  ·exact .inr e
  ·exact .inl ⟨by omega,b,c⟩
 ·rintro(⟨a,b,c⟩|rfl)
  ·exact⟨by omega,b,c⟩
  ·exact⟨by omega,ha,ho⟩
theorem Inv.sawW(H:EpH th sees A n){j:Nat}{o:Int}{s:Sn}(hi:Inv th ac ob wr A j o s)(hj:j<n):sees j s.W s.wn=true↔∀ i,PaE ac ob j o i→wr i=true→A i j:=by
 rcases hi.w with⟨h1,h2,h3⟩|⟨w,h1,h2,h3,h4,h5,h6⟩
 ·rw[h1];exact⟨fun _ i hp hw=>(by rw[h3 i hp]at hw;cases hw),fun _=>H.none hj _⟩
 ·rw[h3,h4,H.of h1.1 hj];constructor
  ·intro a i hp hw;by_cases e:i=w
   ·subst e;exact a
   ·exact H.trans _ _ _ (h5 i hp (by have:=h6 i hp hw;omega)) a
  ·intro a;exact a w h1 h2
theorem QaE.readStep{j:Nat}{o:Int}(ha:ac j=true)(ho:ob j=o)(hw:wr j=false){i:Nat}:QaE ac ob wr (j+1) o i↔QaE ac ob wr j o i∨i=j:=by
 unfold QaE;simp only[PaE.step ha ho];constructor
 ·rintro⟨h1|h1,h2,h3⟩
  ·exact .inl ⟨h1,h2,fun w hp hh=>h3 w (.inl hp) hh⟩
  ·exact .inr h1
 ·rintro(⟨h1,h2,h3⟩|rfl)
  ·exact⟨.inl h1,h2,fun w hp hh=>by
    rcases hp with hp|rfl
    ·exact h3 w hp hh
    ·rw[hw]at hh;cases hh⟩
  ·exact⟨.inr rfl,hw,fun w hp hh=>by
    rcases hp with hp|rfl
    ·exact hp.1
    ·rw[hw]at hh;cases hh⟩
theorem Inv.wRead{j:Nat}{o:Int}{s:Sn}(hi:Inv th ac ob wr A j o s)(ha:ac j=true)(ho:ob j=o)(hw:wr j=false):(s.W=-1∧s.wn=0∧∀ i,PaE ac ob (j+1) o i→wr i=false)∨∃ w,PaE ac ob (j+1) o w∧wr w=true∧s.W=th w∧s.wn=NcH th w∧(∀ i,PaE ac ob (j+1) o i→i<w→A i w)∧∀ i,PaE ac ob (j+1) o i→wr i=true→i≤w:=by
 simp only[PaE.step ha ho];rcases hi.w with⟨h1,h2,h3⟩|⟨w,h1,h2,h3,h4,h5,h6⟩
 ·exact .inl ⟨h1,h2,fun i hp=>by
   rcases hp with hp|rfl
   ·exact h3 i hp
   ·exact hw⟩
 ·refine .inr ⟨w,.inl h1,h2,h3,h4,fun i hp hlt=>?_,fun i hp hh=>?_⟩
  ·rcases hp with hp|rfl
   ·exact h5 i hp hlt
   ·have:=h1.1;omega
  ·rcases hp with hp|rfl
   ·exact h6 i hp hh
   ·rw[hw]at hh;cases hh
theorem Inv.read(H:EpH th sees A n){j:Nat}{o:Int}{s:Sn}(hi:Inv th ac ob wr A j o s)(hj:j<n)(ha:ac j=true)(ho:ob j=o)(hw:wr j=false):((NdT (sees j) (th j) (NcH th j) s).2=true↔∀ i,PaE ac ob j o i→wr i=true→A i j)∧((NdT (sees j) (th j) (NcH th j) s).2=true→Inv th ac ob wr A (j+1) o (NdT (sees j) (th j) (NcH th j) s).1)∧((NdT (sees j) (th j) (NcH th j) s).2=false→(NdT (sees j) (th j) (NcH th j) s).1=s):=by
 have hsaw:=hi.sawW H hj;have t0:=H.t0 j hj;unfold NdT;by_cases hs:sees j s.W s.wn=false
 ·rw[if_pos hs];refine⟨?_,(fun h=>by cases h),fun _=>rfl⟩;rw[←hsaw,hs]
 rw[if_neg hs];have hs1:sees j s.W s.wn=true:=by simpa using hs
 have hwR:=hi.wRead ha ho hw;have hQ:∀ i,QaE ac ob wr (j+1) o i↔QaE ac ob wr j o i∨i=j:=fun i=>QaE.readStep ha ho hw;have all:=hsaw.1 hs1;rcases hi.r with⟨r1,r2,r3,r4⟩|⟨r1,r,r2,r3,r4,r5⟩|⟨r1,r2,r3,r4,r5⟩
 ·rw[if_neg (by simp[r1]),if_pos (.inl Zaa)];refine⟨⟨fun _=>all,fun _=>rfl⟩,fun _=>⟨hwR,.inr (.inl ⟨r1,j,(hQ j).2 (.inr rfl),rfl,rfl,fun i hq=>?_⟩)⟩,fun h=>by cases h⟩;rcases(hQ i).1 hq with hq|hq
  ·exact absurd hq (r4 i)
  ·exact .inl hq
 ·rw[if_neg (by simp[r1])];have hr:=H.of r2.1.1 hj;rw[←r3,←r4]at hr;by_cases hc:s.R<0∨sees j s.R s.rn=true
  ·rw[if_pos hc];have hA:A r j:=by
    rcases hc with hc|hc
    ·have:=H.t0 r (by have:=r2.1.1;omega);omega
    ·exact hr.1 hc
   refine⟨⟨fun _=>all,fun _=>rfl⟩,fun _=>⟨hwR,.inr (.inl ⟨r1,j,(hQ j).2 (.inr rfl),rfl,rfl,fun i hq=>?_⟩)⟩,fun h=>by cases h⟩;rcases(hQ i).1 hq with hq|hq
   ·rcases r5 i hq with rfl|h
    ·exact .inr hA
    ·exact .inr (H.trans _ _ _ h hA)
   ·exact .inl hq
  ·rw[if_neg hc];have hne:th r≠th j:=fun e=>hc (.inr (by rw[hr];exact H.same r j r2.1.1 hj e));have tr0:=H.t0 r (by have:=r2.1.1;omega);have hg:∀ u,gi (NcK (NcK [] s.R.toNat s.rn) (th j).toNat (NcH th j)) u=if u=(th j).toNat then NcH th j else if u=(th r).toNat then NcH th r else 0:=fun u=>by
    rw[Nhz,Nhz,r3,r4];split
    ·rfl
    ·split
     ·rfl
     ·simp[gi]
   have hl:(NcK (NcK [] s.R.toNat s.rn) (th j).toNat (NcH th j)).length=max (max 0 ((th r).toNat+1)) ((th j).toNat+1):=(by rw[Nce,Nce,r3];rfl);refine⟨⟨fun _=>all,fun _=>rfl⟩,fun _=>⟨hwR,.inr (.inr ⟨fun h=>?_,rfl,rfl,fun i hq=>?_,fun u hu=>?_⟩)⟩,fun h=>by cases h⟩
   ·have:=congrArg List.length h;rw[hl]at this;simp at this
   ·rcases(hQ i).1 hq with hq|rfl
    ·refine⟨r,(hQ r).2 (.inl r2),r5 i hq,by show _<List.length (NcK _ _ _);rw[hl];omega,?_⟩;show gi (NcK _ _ _) _=_;rw[hg,if_neg Zaa,if_pos rfl]
    ·refine⟨i,(hQ i).2 (.inr rfl),.inl rfl,by show _<List.length (NcK _ _ _);rw[hl];omega,?_⟩;show gi (NcK _ _ _) _=_;rw[hg,if_pos rfl]
   ·show gi (NcK _ _ _) u=0∨∃ r,_∧_∧gi (NcK _ _ _) u=_;rw[hg];by_cases e1:u=(th j).toNat
    ·rw[if_pos e1];exact .inr ⟨j,(hQ j).2 (.inr rfl),by omega,rfl⟩
    ·rw[if_neg e1];by_cases e2:u=(th r).toNat
     ·rw[if_pos e2];exact .inr ⟨r,(hQ r).2 (.inl r2),by omega,rfl⟩
     ·rw[if_neg e2];exact .inl rfl
 ·rw[if_pos (by simpa using r1)];have hg:=Nhz s.Rs (th j).toNat (NcH th j);have hl:=Nce s.Rs (th j).toNat (NcH th j);refine⟨⟨fun _=>all,fun _=>rfl⟩,fun _=>⟨hwR,.inr (.inr ⟨fun h=>?_,r2,r3,fun i hq=>?_,fun u hu=>?_⟩)⟩,fun h=>by cases h⟩
  ·have:=congrArg List.length h;rw[hl]at this;simp at this
  ·have me:∃ r,QaE ac ob wr (j+1) o r∧(j=r∨A j r)∧(th r).toNat<(NcK s.Rs (th j).toNat (NcH th j)).length∧gi (NcK s.Rs (th j).toNat (NcH th j)) (th r).toNat=NcH th r:=⟨j,(hQ j).2 (.inr rfl),.inl rfl,by rw[hl];omega,by rw[hg,if_pos rfl]⟩;rcases(hQ i).1 hq with hq|rfl
   ·obtain⟨r,q1,q2,q3,q4⟩:=r4 i hq;by_cases e:th r=th j
    ·refine⟨j,(hQ j).2 (.inr rfl),.inr ?_,by show _<List.length (NcK _ _ _);rw[hl];omega,by show gi (NcK _ _ _) _=_;rw[hg,if_pos rfl]⟩;have hA:=H.same r j q1.1.1 hj e;rcases q2 with rfl|q2
     ·exact hA
     ·exact H.trans _ _ _ q2 hA
    ·have:=H.t0 r (by have:=q1.1.1;omega);refine⟨r,(hQ r).2 (.inl q1),q2,by show _<List.length (NcK _ _ _);rw[hl];omega,by show gi (NcK _ _ _) _=_;rw[hg,if_neg Zaa];exact q4⟩
   ·exact me
  ·show gi (NcK _ _ _) u=0∨∃ r,_∧_∧gi (NcK _ _ _) u=_;rw[hg];by_cases e1:u=(th j).toNat
   ·rw[if_pos e1];exact .inr ⟨j,(hQ j).2 (.inr rfl),by omega,rfl⟩
   ·rw[if_neg e1];by_cases hul:u<s.Rs.length
    ·rcases r5 u hul with h|⟨r,h1,h2,h3⟩
     ·exact .inl h
     ·exact .inr ⟨r,(hQ r).2 (.inl h1),h2,h3⟩
    ·left;unfold gi;rw[List.getD_eq_getElem?_getD,List.getElem?_eq_none Zaa];rfl
theorem Inv.write(H:EpH th sees A n){j:Nat}{o:Int}{s:Sn}(hi:Inv th ac ob wr A j o s)(hj:j<n)(ha:ac j=true)(ho:ob j=o)(hw:wr j=true):((Nct (sees j) (th j) (NcH th j) s).2=true↔∀ i,PaE ac ob j o i→A i j)∧((Nct (sees j) (th j) (NcH th j) s).2=true→Inv th ac ob wr A (j+1) o (Nct (sees j) (th j) (NcH th j) s).1)∧((Nct (sees j) (th j) (NcH th j) s).2=false→(Nct (sees j) (th j) (NcH th j) s).1=s):=by
 have hsaw:=hi.sawW H hj;have t0:=H.t0 j hj
 -- every access is a write, or a read since the last write, or ahead of the last write
 have three:∀ i,PaE ac ob j o i→(∀ w,PaE ac ob j o w→wr w=true→A w j)→(∀ r,QaE ac ob wr j o r→A r j)→A i j:=by
  intro i hp hW hQ;cases hwi:wr i with
  |true=>exact hW i hp hwi
  |false =>
    rcases hi.w with⟨_,_,h3⟩|⟨w,h1,h2,h3,h4,h5,h6⟩
    ·exact hQ i ⟨hp,hwi,fun w hpw hww=>by rw[h3 w hpw]at hww;cases hww⟩
    ·by_cases hlt:i<w
     ·exact H.trans _ _ _ (h5 i hp hlt) (hW w h1 h2)
     ·refine hQ i ⟨hp,hwi,fun w' hp' hw'=>?_⟩;have:=h6 w' hp' hw';by_cases e:i=w
      ·subst e;rw[hwi]at h2;cases h2
      ·omega
 have new:(∀ i,PaE ac ob j o i→A i j)→Inv th ac ob wr A (j+1) o { sn0 with W:=th j,wn:=NcH th j }:=by
  intro hall;refine⟨.inr ⟨j,(PaE.step ha ho).2 (.inr rfl),hw,rfl,rfl,fun i hp hlt=>?_,fun i hp _=>?_⟩,.inl ⟨rfl,rfl,rfl,fun i hq=>?_⟩⟩
  ·rcases(PaE.step ha ho).1 hp with hp|rfl
   ·exact hall i hp
   ·omega
  ·have:=hp.1;omega
  ·have h1:=hq.2.2 j ((PaE.step ha ho).2 (.inr rfl)) hw;have h2:=hq.1.1;omega
 have hQs:(sees j s.R s.rn=true∧(List.range s.Rs.length).all (fun u=>sees j (u:Int) (gi s.Rs u))=true)↔∀ r,QaE ac ob wr j o r→A r j:=by
  rcases hi.r with⟨r1,r2,r3,r4⟩|⟨r1,r,r2,r3,r4,r5⟩|⟨r1,r2,r3,r4,r5⟩
  ·rw[r1,r2];exact⟨fun _ r hq=>absurd hq (r4 r),fun _=>⟨H.none hj _,rfl⟩⟩
  ·rw[r1,r3,r4,H.of r2.1.1 hj];constructor
   ·rintro⟨h1,-⟩ i hq;rcases r5 i hq with rfl|h
    ·exact h1
    ·exact H.trans _ _ _ h h1
   ·intro h;exact⟨h r r2,rfl⟩
  ·rw[r2];simp only[List.all_eq_true,List.mem_range];constructor
   ·rintro⟨-,h2⟩ i hq;obtain⟨r,q1,q2,q3,q4⟩:=r4 i hq;have h3:=h2 _ q3;rw[q4,show(((th r).toNat:Nat):Int)=th r by have:=H.t0 r (by have:=q1.1.1;omega);omega,H.of q1.1.1 hj]at h3;rcases q2 with rfl|q2
    ·exact h3
    ·exact H.trans _ _ _ q2 h3
   ·intro h;refine⟨H.none hj _,fun u hu=>?_⟩;rcases r5 u hu with h0|⟨r,h1,h2,h3⟩
    ·rw[h0];exact H.zero hj _
    ·rw[h3,←h2,H.of h1.1.1 hj];exact h r h1
 unfold Nct;by_cases h1:sees j s.W s.wn=false∨sees j s.R s.rn=false
 ·rw[if_pos h1];refine⟨⟨(fun h=>by cases h),fun h=>?_⟩,(fun h=>by cases h),fun _=>rfl⟩;exfalso;rcases h1 with h1|h1
  ·have:=hsaw.2 fun i hp _=>h i hp;rw[h1]at this;cases this
  ·have:=(hQs.2 fun r hq=>h r hq.1).1;rw[h1]at this;cases this
 rw[if_neg h1];simp only[not_or,Bool.not_eq_false]at h1;by_cases h2:(List.range s.Rs.length).all (fun u=>sees j (u:Int) (gi s.Rs u))=false
 ·rw[if_pos h2];refine⟨⟨(fun h=>by cases h),fun h=>?_⟩,(fun h=>by cases h),fun _=>rfl⟩;have:=(hQs.2 fun r hq=>h r hq.1).2;rw[h2]at this;cases this
 ·rw[if_neg h2];simp only[Bool.not_eq_false]at h2;have hall:∀ i,PaE ac ob j o i→A i j:=fun i hp=>three i hp (hsaw.1 h1.1) (hQs.1 ⟨h1.2,h2⟩);exact⟨⟨fun _=>hall,fun _=>rfl⟩,fun _=>new hall,fun h=>by cases h⟩
end
end Go.Pe
