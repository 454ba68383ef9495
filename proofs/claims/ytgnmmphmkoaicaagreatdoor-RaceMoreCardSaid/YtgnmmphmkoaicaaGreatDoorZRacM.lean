/-
 Clocks of events, and what is ahead: plain mathematics. No condition; nothing of the program.
-/
import Derived.Test.YtgnmmphmkoaicaaGreatDoorZCdeA
import Derived.Test.YtgnmmphmkoaicaaGreatDoorZClockM
set_option linter.unusedVariables false
set_option linter.unusedSimpArgs false
namespace Go.Pe
open Go Go.Am

abbrev Ch:=Int × Int
section
variable (th:Nat → Int) (gv tk:Nat → List Ch)
def Hd (i j:Nat):Prop:=i < j ∧ (th i = th j ∨ ∃ k,k ∈ gv i ∧ k ∈ tk j)
inductive Ah:Nat → Nat → Prop
 | one {i j}:Hd th gv tk i j → Ah i j
 | step {i k j}:Ah i k → Hd th gv tk k j → Ah i j
def cn (t:Int):Nat → Int
 | 0 => 0
 | j + 1 => cn t j + if th j = t then 1 else 0
end
section
variable {th:Nat → Int} {gv tk:Nat → List Ch}
theorem Ah.lt {i j:Nat} (h:Ah th gv tk i j):i < j:=by
 induction h with
 | one h => exact h.1
 | step _ h ih => exact Nat.lt_trans ih h.1
theorem Ah.trans {i j k:Nat} (h:Ah th gv tk i j) (g:Ah th gv tk j k):Ah th gv tk i k:=by
 induction g with
 | one g => exact .step h g
 | step _ g ih => exact .step ih g
theorem NdU {t:Int} {i:Nat}:∀ {j:Nat},i ≤ j → cn th t i ≤ cn th t j
 | 0,h => by rw [show i = 0 by omega]; exact Int.le_refl _
 | j + 1,h => by
   by_cases e:i = j + 1
   ·rw [e]; exact Int.le_refl _
   ·have:=NdU (t:=t) (show i ≤ j by omega)
    rw [cn]
    split <;> omega
theorem NiP (t:Int) (j:Nat):0 ≤ cn th t j:=by
 have:=NdU (th:=th) (t:=t) (Nat.zero_le j)
 simpa [cn] using this
theorem NnQ (t:Int):∀ j:Nat,cn th t j ≤ j
 | 0 => by simp [cn]
 | j + 1 => by have:=NnQ t j; rw [cn]; split <;> omega
structure Ck (th:Nat → Int) (gv tk:Nat → List Ch) (N:Nat) (V:Nat → Int → Int):Prop where
 lo:∀ i j,j < N → Hd th gv tk i j → ∀ t,V i t ≤ V j t
 own:∀ j,j < N → V j (th j) = cn th (th j) (j + 1)
 up:∀ j,j < N → ∀ t,0 < V j t → t = th j ∨ ∃ i,Hd th gv tk i j ∧ V j t = V i t
theorem Ck.last {N:Nat} {V:Nat → Int → Int} (h:Ck th gv tk N V):∀ (n j:Nat),j < n → j < N → ∀ t,0 < V j t → ∃ i,th i = t ∧ V j t = cn th t (i + 1) ∧ (i = j ∨ Ah th gv tk i j)
 | 0,j,hn,_,_,_ => by omega
 | n + 1,j,hn,hj,t,hp => by
   rcases h.up j hj t hp with rfl | ⟨i,hi,he⟩
   ·exact ⟨j,rfl,h.own j hj,.inl rfl⟩
   ·obtain ⟨m,h1,h2,h3⟩:=h.last n i (by have:=hi.1; omega) (by have:=hi.1; omega) t Zaa
    refine ⟨m,h1,by omega,.inr ?_⟩
    rcases h3 with rfl | h3
    ·exact .one hi
    ·exact .step h3 hi
theorem Ck.ahead {N:Nat} {V:Nat → Int → Int} (h:Ck th gv tk N V) {i j:Nat} (hij:i < j) (hj:j < N):V i (th i) ≤ V j (th i) ↔ Ah th gv tk i j:=by
 have hi:=h.own i Zaa
 constructor
 ·intro hle
  have h0:=NiP (th:=th) (th i) i
  have h1:cn th (th i) (i + 1) = cn th (th i) i + 1:=by rw [cn,if_pos rfl]
  obtain ⟨m,e1,e2,e3⟩:=h.last (j + 1) j Zaa hj (th i) Zaa
  have him:i ≤ m:=by
   by_cases hm:m < i
   ·have:=NdU (th:=th) (t:=th i) (show m + 1 ≤ i by omega)
    omega
   ·omega
  by_cases hq:i = m
  ·subst hq
   rcases e3 with rfl | e3
   ·omega
   ·exact e3
  ·have hA:Ah th gv tk i m:=.one ⟨by omega,.inl e1.symm⟩
   rcases e3 with rfl | e3
   ·exact hA
   ·exact hA.trans e3
 ·intro hA
  have:∀ {j},Ah th gv tk i j → j < N → ∀ t,V i t ≤ V j t:=by
   intro j hA
   induction hA with
   | one hh => exact fun hj t => h.lo _ _ hj hh t
   | step ha hh ih => exact fun hj t => Int.le_trans (ih (by have:=hh.1; omega) t) (h.lo _ _ hj hh t)
  exact this hA hj _
end
structure Wt where
 T:Int → List Int
 C:Ch → List Int
def aT (a:List Int) (t:Int):Int:=if 0 ≤ t then gi a t.toNat else 0
def NaR (C:Ch → List Int):List Ch → List Int → List Int
 | [],n => n
 | k :: r,n => NaR C r (Nbq n (C k))
def Ng6 (T:Int → List Int) (t:Int) (v:List Int):Int → List Int:=fun u => if u = t then v else T u
def NjM (C:Ch → List Int) (k:Ch) (v:List Int):Ch → List Int:=fun u => if u = k then v else C u
def NbZ:List Ch → List Int → (Ch → List Int) → (Ch → List Int)
 | [],_,C => C
 | k :: r,n,C => NbZ r n (NjM C k (Nbq (C k) n))
def Nhd (t:Int) (tk gv:List Ch) (w:Wt):List Int × Wt :=
 let n:=NaR w.C tk (NbQ (w.T t) t)
 (n,⟨Ng6 w.T t n,NbZ gv n w.C⟩)
def Nev (th:Nat → Int) (gv tk:Nat → List Ch):Nat → Wt
 | 0 => ⟨fun _ => [],fun _ => []⟩
 | j + 1 => (Nhd (th j) (tk j) (gv j) (Nev th gv tk j)).2
def NdD (th:Nat → Int) (gv tk:Nat → List Ch) (j:Nat):List Int:=(Nhd (th j) (tk j) (gv j) (Nev th gv tk j)).1
section
variable {th:Nat → Int} {gv tk:Nat → List Ch}
theorem NiB (a b:List Int) (t:Int):aT (Nbq a b) t = max (aT a t) (aT b t):=by
 unfold aT
 split
 ·exact NkS _ _ _
 ·simp
theorem Nmb {a:List Int} {t u:Int} (ht:0 ≤ t) (h64:t < 64) (hb:aT a t < 9223372036854775807):aT (NbQ a t) u = if u = t then aT a t + 1 else aT a u:=by
 unfold aT at hb ⊢
 rw [if_pos ht] at hb
 rw [Nc6 ht Zaa,if_pos ht]
 by_cases hu:0 ≤ u
 ·rw [if_pos hu,if_pos hu,Nf2]
  by_cases he:u = t
  ·subst he; rw [if_pos ⟨rfl,hb⟩,if_pos rfl]
  ·rw [if_neg (fun h => he Zaa),if_neg he]
 ·rw [if_neg hu,if_neg hu,if_neg Zaa]
theorem Nhi (C:Ch → List Int):∀ (l:List Ch) (n:List Int) (t:Int),aT n t ≤ aT (NaR C l n) t ∧ (∀ k,k ∈ l → aT (C k) t ≤ aT (NaR C l n) t) ∧ (aT (NaR C l n) t = aT n t ∨ ∃ k,k ∈ l ∧ aT (NaR C l n) t = aT (C k) t)
 | [],n,t => ⟨Int.le_refl _,by simp,.inl rfl⟩
 | k :: r,n,t => by
   obtain ⟨h1,h2,h3⟩:=Nhi C r (Nbq n (C k)) t
   rw [NiB] at h1 h3
   rw [NaR]
   refine ⟨by omega,fun q hq => ?_,?_⟩
   ·rcases List.mem_cons.1 hq with rfl | hq
    ·omega
    ·exact h2 q hq
   ·rcases h3 with h3 | ⟨q,hq,h3⟩
    ·by_cases hm:aT (C k) t ≤ aT n t
     ·left; omega
     ·right; exact ⟨k,by simp,by omega⟩
    ·right; exact ⟨q,by simp [hq],h3⟩
theorem Nhh:∀ (l:List Ch) (n:List Int) (C:Ch → List Int) (q:Ch) (t:Int),aT (C q) t ≤ aT (NbZ l n C q) t ∧ (q ∈ l → aT n t ≤ aT (NbZ l n C q) t) ∧ (aT (NbZ l n C q) t = aT (C q) t ∨ q ∈ l ∧ aT (NbZ l n C q) t = aT n t)
 | [],n,C,q,t => ⟨Int.le_refl _,by simp,.inl rfl⟩
 | k :: r,n,C,q,t => by
   obtain ⟨h1,h2,h3⟩:=Nhh r n (NjM C k (Nbq (C k) n)) q t
   rw [NbZ]
   by_cases hq:q = k
   ·subst hq
    have he:aT (NjM C q (Nbq (C q) n) q) t = max (aT (C q) t) (aT n t):=by unfold NjM; rw [if_pos rfl,NiB]
    rw [he] at h1 h3
    refine ⟨by omega,fun _ => by omega,?_⟩
    rcases h3 with h3 | ⟨hm,h3⟩
    ·by_cases hm:aT n t ≤ aT (C q) t
     ·left; omega
     ·right; exact ⟨by simp,by omega⟩
    ·right; exact ⟨by simp,h3⟩
   ·have he:NjM C k (Nbq (C k) n) q = C q:=by unfold NjM; rw [if_neg hq]
    rw [he] at h1 h3
    refine ⟨h1,fun hm => h2 (by simpa [hq] using hm),?_⟩
    rcases h3 with h3 | ⟨hm,h3⟩
    ·left; exact h3
    ·right; exact ⟨by simp [hm],h3⟩
structure Kn (th:Nat → Int) (gv tk:Nat → List Ch) (j:Nat) (w:Wt):Prop where
 tlo:∀ i,i < j → ∀ t,aT (NdD th gv tk i) t ≤ aT (w.T (th i)) t
 tup:∀ u t,aT (w.T u) t = 0 ∨ ∃ i,i < j ∧ th i = u ∧ aT (w.T u) t = aT (NdD th gv tk i) t
 town:∀ u,0 ≤ u → aT (w.T u) u = cn th u j
 tle:∀ u t,0 ≤ aT (w.T u) t ∧ aT (w.T u) t ≤ cn th t j
 clo:∀ i,i < j → ∀ k,k ∈ gv i → ∀ t,aT (NdD th gv tk i) t ≤ aT (w.C k) t
 cup:∀ k t,aT (w.C k) t = 0 ∨ ∃ i,i < j ∧ k ∈ gv i ∧ aT (w.C k) t = aT (NdD th gv tk i) t
 cle:∀ k t,0 ≤ aT (w.C k) t ∧ aT (w.C k) t ≤ cn th t j
theorem NfK (t:Int):aT [] t = 0:=by unfold aT; split <;> simp [gi]
theorem Kn.zero:Kn th gv tk 0 ⟨fun _ => [],fun _ => []⟩ where
 tlo:=fun i h => by omega
 tup:=fun u t => .inl (NfK t)
 town:=fun u _ => by rw [NfK]; rfl
 tle:=fun u t => by rw [NfK]; exact ⟨by omega,by rw [cn]; omega⟩
 clo:=fun i h => by omega
 cup:=fun k t => .inl (NfK t)
 cle:=fun k t => by rw [NfK]; exact ⟨by omega,by rw [cn]; omega⟩
structure Nw (th:Nat → Int) (gv tk:Nat → List Ch) (j:Nat):Prop where
 lo:∀ i,Hd th gv tk i j → ∀ t,aT (NdD th gv tk i) t ≤ aT (NdD th gv tk j) t
 own:aT (NdD th gv tk j) (th j) = cn th (th j) (j + 1)
 le:∀ t,0 ≤ aT (NdD th gv tk j) t ∧ aT (NdD th gv tk j) t ≤ cn th t (j + 1)
 up:∀ t,t = th j ∨ aT (NdD th gv tk j) t = 0 ∨ ∃ i,Hd th gv tk i j ∧ aT (NdD th gv tk j) t = aT (NdD th gv tk i) t
 tge:∀ t,aT ((Nev th gv tk j).T (th j)) t ≤ aT (NdD th gv tk j) t
theorem Kn.now {j:Nat} (h:Kn th gv tk j (Nev th gv tk j)) (h0:0 ≤ th j) (h64:th j < 64) (hj:j < 4611686018427387904):Nw th gv tk j:=by
 obtain ⟨w,hw⟩:∃ w,Nev th gv tk j = w:=⟨_,rfl⟩
 have hcj:=NnQ (th:=th) (th j) j
 have hcs:cn th (th j) (j + 1) = cn th (th j) j + 1:=by rw [cn,if_pos rfl]
 have ht:∀ u,aT (NbQ (w.T (th j)) (th j)) u = if u = th j then aT (w.T (th j)) (th j) + 1 else aT (w.T (th j)) u:=fun u => Nmb h0 h64 (by rw [← hw,h.town _ h0]; omega)
 have hJ:=fun t => Nhi w.C (tk j) (NbQ (w.T (th j)) (th j)) t
 have hc:NdD th gv tk j = NaR w.C (tk j) (NbQ (w.T (th j)) (th j)):=by unfold NdD; rw [hw]; rfl
 rw [hw] at h
 have hmono:∀ t,cn th t j ≤ cn th t (j + 1):=fun t => NdU Zaa
 have hge:∀ t,aT (w.T (th j)) t ≤ aT (NbQ (w.T (th j)) (th j)) t:=fun t => by
  rw [ht]; split
  ·rename_i e; rw [e]; omega
  ·exact Int.le_refl _
 have hown:=h.town _ h0
 refine ⟨?_,?_,?_,?_,?_⟩
 ·intro i hi t
  rw [hc]
  rcases hi.2 with e | ⟨k,k1,k2⟩
  ·have a1:=h.tlo i hi.1 t
   rw [e] at a1
   have a2:=hge t
   have a3:=(hJ t).1
   omega
  ·have a1:=h.clo i hi.1 k k1 t
   have a2:=(hJ t).2.1 k k2
   omega
 ·rw [hc]
  have a1:=(hJ (th j)).1
  rw [ht,if_pos rfl] at a1
  rcases (hJ (th j)).2.2 with a2 | ⟨k,k1,a2⟩
  ·rw [a2,ht,if_pos rfl]; omega
  ·have:=(h.cle k (th j)).2
   omega
 ·intro t
  rw [hc]
  have a0:=(h.tle (th j) t)
  have a1:=(hJ t).1
  have a3:=hge t
  have am:=hmono t
  refine ⟨by omega,?_⟩
  rcases (hJ t).2.2 with a2 | ⟨k,k1,a2⟩
  ·rw [a2,ht]
   split
   ·rename_i e; subst e; omega
   ·omega
  ·have:=(h.cle k t).2
   omega
 ·intro t
  by_cases e:t = th j
  ·exact .inl e
  right
  rw [hc]
  rcases (hJ t).2.2 with a2 | ⟨k,k1,a2⟩
  ·rw [a2,ht,if_neg e]
   rcases h.tup (th j) t with a3 | ⟨i,i1,i2,i3⟩
   ·exact .inl a3
   ·exact .inr ⟨i,⟨i1,.inl i2⟩,i3⟩
  ·rw [a2]
   rcases h.cup k t with a3 | ⟨i,i1,i2,i3⟩
   ·exact .inl a3
   ·exact .inr ⟨i,⟨i1,.inr ⟨k,i2,k1⟩⟩,i3⟩
 ·intro t
  rw [hc,hw]
  have a1:=(hJ t).1
  have a3:=hge t
  omega
theorem Kn.next {j:Nat} (h:Kn th gv tk j (Nev th gv tk j)) (n:Nw th gv tk j):Kn th gv tk (j + 1) (Nev th gv tk (j + 1)):=by
 have hc:NdD th gv tk j = NaR (Nev th gv tk j).C (tk j) (NbQ ((Nev th gv tk j).T (th j)) (th j)):=rfl
 have hT:(Nev th gv tk (j + 1)).T = Ng6 (Nev th gv tk j).T (th j) (NdD th gv tk j):=rfl
 have hC:(Nev th gv tk (j + 1)).C = NbZ (gv j) (NdD th gv tk j) (Nev th gv tk j).C:=rfl
 have hmono:∀ t,cn th t j ≤ cn th t (j + 1):=fun t => NdU Zaa
 have hG:=fun q t => Nhh (gv j) (NdD th gv tk j) (Nev th gv tk j).C q t
 refine ⟨?_,?_,?_,?_,?_,?_,?_⟩
 ·intro i hi t
  rw [hT]; unfold Ng6
  by_cases e:th i = th j
  ·rw [if_pos e]
   by_cases hij:i = j
   ·subst hij; exact Int.le_refl _
   ·exact n.lo i ⟨by omega,.inl e⟩ t
  ·rw [if_neg e]
   exact h.tlo i (by rcases Nat.lt_succ_iff_lt_or_eq.1 hi with a | a; exact a; subst a; exact absurd rfl e) t
 ·intro u t
  rw [hT]; unfold Ng6
  by_cases e:u = th j
  ·rw [if_pos e]
   exact .inr ⟨j,by omega,e.symm,rfl⟩
  ·rw [if_neg e]
   rcases h.tup u t with a | ⟨i,i1,i2,i3⟩
   ·exact .inl a
   ·exact .inr ⟨i,by omega,i2,i3⟩
 ·intro u h0
  rw [hT]; unfold Ng6
  by_cases e:u = th j
  ·rw [if_pos e,e]; exact n.own
  ·rw [if_neg e,h.town u h0,cn,if_neg (Ne.symm e)]; omega
 ·intro u t
  rw [hT]; unfold Ng6
  have:=hmono t
  split
  ·exact n.le t
  ·have:=h.tle u t; omega
 ·intro i hi k hk t
  rw [hC]
  obtain ⟨g1,g2,-⟩:=hG k t
  by_cases hij:i = j
  ·subst hij; exact g2 hk
  ·have:=h.clo i Zaa k hk t; omega
 ·intro k t
  rw [hC]
  rcases (hG k t).2.2 with a | ⟨hm,a⟩
  ·rw [a]
   rcases h.cup k t with b | ⟨i,i1,i2,i3⟩
   ·exact .inl b
   ·exact .inr ⟨i,by omega,i2,i3⟩
  ·exact .inr ⟨j,by omega,hm,a⟩
 ·intro k t
  rw [hC]
  have:=hmono t
  have hn:=n.le t
  have hk:=h.cle k t
  rcases (hG k t).2.2 with a | ⟨hm,a⟩ <;> rw [a] <;> omega
theorem NlS {N:Nat} (hN:N < 4611686018427387904) (ht:∀ j,j < N → 0 ≤ th j ∧ th j < 64):∀ j,j ≤ N → Kn th gv tk j (Nev th gv tk j)
 | 0,_ => Kn.zero
 | j + 1,h => by
   have k:=NlS hN ht j Zaa
   exact k.next (k.now (ht j Zaa).1 (ht j Zaa).2 Zaa)
theorem NnL {N:Nat} (hN:N < 4611686018427387904) (ht:∀ j,j < N → 0 ≤ th j ∧ th j < 64):Ck th gv tk N fun j t => aT (NdD th gv tk j) t:=by
 have hn:∀ j,j < N → Nw th gv tk j:=fun j hj => (NlS hN ht j Zaa).now (ht j hj).1 (ht j hj).2 Zaa
 refine ⟨fun i j hj hh t => (hn j hj).lo i hh t,fun j hj => (hn j hj).own,fun j hj t hp => ?_⟩
 rcases (hn j hj).up t with a | a | a
 ·exact .inl a
 ·omega
 ·exact .inr a
theorem NiC {N:Nat} (hN:N < 4611686018427387904) (ht:∀ j,j < N → 0 ≤ th j ∧ th j < 64) {i j:Nat} (hij:i < j) (hj:j < N):aT (NdD th gv tk i) (th i) ≤ aT (NdD th gv tk j) (th i) ↔ Ah th gv tk i j:=(NnL hN ht).ahead hij hj
end
end Go.Pe
