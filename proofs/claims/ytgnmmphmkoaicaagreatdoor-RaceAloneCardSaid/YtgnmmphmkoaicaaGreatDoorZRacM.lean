/-
 Clocks of events, and what is ahead: plain mathematics. No condition; nothing of the program.
-/
import Derived.Test.YtgnmmphmkoaicaaGreatDoorZCdeA
import Derived.Test.YtgnmmphmkoaicaaGreatDoorZClockM
set_option linter.unusedVariables false
set_option linter.unusedSimpArgs false
namespace Go.Pe
open Go Go.Am

abbrev Ch:=Int × Int
section
variable (th : Nat → Int) (gv tk : Nat → List Ch)
def Hd (i j : Nat) : Prop:=i < j ∧ (th i = th j ∨ ∃ k,k ∈ gv i ∧ k ∈ tk j)
inductive Ah : Nat → Nat → Prop
 | one {i j} : Hd th gv tk i j → Ah i j
 | step {i k j} : Ah i k → Hd th gv tk k j → Ah i j
def cn (t : Int) : Nat → Int
 | 0 => 0
 | j + 1 => cn t j + if th j = t then 1 else 0
end
section
variable {th : Nat → Int} {gv tk : Nat → List Ch}
theorem Ah.lt {i j : Nat} (h : Ah th gv tk i j) : i < j:=by
 induction h with
 | one h => exact h.1
 | step _ h ih => exact Nat.lt_trans ih h.1
theorem Ah.trans {i j k : Nat} (h : Ah th gv tk i j) (g : Ah th gv tk j k) : Ah th gv tk i k:=by
 induction g with
 | one g => exact .step h g
 | step _ g ih => exact .step ih g
theorem Nfd {t : Int} {i : Nat} : ∀ {j : Nat},i ≤ j → cn th t i ≤ cn th t j
 | 0,h => by rw [show i = 0 by omega]; exact Int.le_refl _
 | j + 1,h => by
   by_cases e : i = j + 1
   ·rw [e]; exact Int.le_refl _
   ·have:=Nfd (t:=t) (show i ≤ j by omega)
    rw [cn]
    split <;> omega
theorem NiH (t : Int) (j : Nat) : 0 ≤ cn th t j:=by
 have:=Nfd (th:=th) (t:=t) (Nat.zero_le j)
 simpa [cn] using this
structure Ck (th : Nat → Int) (gv tk : Nat → List Ch) (N : Nat) (V : Nat → Int → Int) : Prop where
 lo : ∀ i j,j < N → Hd th gv tk i j → ∀ t,V i t ≤ V j t
 own : ∀ j,j < N → V j (th j) = cn th (th j) (j + 1)
 up : ∀ j,j < N → ∀ t,0 < V j t → t = th j ∨ ∃ i,Hd th gv tk i j ∧ V j t = V i t
theorem Ck.last {N : Nat} {V : Nat → Int → Int} (h : Ck th gv tk N V) : ∀ (n j : Nat),j < n → j < N → ∀ t,0 < V j t → ∃ i,th i = t ∧ V j t = cn th t (i + 1) ∧ (i = j ∨ Ah th gv tk i j)
 | 0,j,hn,_,_,_ => by omega
 | n + 1,j,hn,hj,t,hp => by
   rcases h.up j hj t hp with rfl | ⟨i,hi,he⟩
   ·exact ⟨j,rfl,h.own j hj,.inl rfl⟩
   ·obtain ⟨m,h1,h2,h3⟩:=h.last n i (by have:=hi.1; omega) (by have:=hi.1; omega) t Zab
    refine ⟨m,h1,by omega,.inr ?_⟩
    rcases h3 with rfl | h3
    ·exact .one hi
    ·exact .step h3 hi
theorem Ck.ahead {N : Nat} {V : Nat → Int → Int} (h : Ck th gv tk N V) {i j : Nat} (hij : i < j) (hj : j < N) : V i (th i) ≤ V j (th i) ↔ Ah th gv tk i j:=by
 have hi:=h.own i Zab
 constructor
 ·intro hle
  have h0:=NiH (th:=th) (th i) i
  have h1 : cn th (th i) (i + 1) = cn th (th i) i + 1:=by rw [cn,if_pos rfl]
  obtain ⟨m,e1,e2,e3⟩:=h.last (j + 1) j Zab hj (th i) Zab
  have him : i ≤ m:=by
   by_cases hm : m < i
   ·have:=Nfd (th:=th) (t:=th i) (show m + 1 ≤ i by omega)
    omega
   ·omega
  by_cases hq : i = m
  ·subst hq
   rcases e3 with rfl | e3
   ·omega
   ·exact e3
  ·have hA : Ah th gv tk i m:=.one ⟨by omega,.inl e1.symm⟩
   rcases e3 with rfl | e3
   ·exact hA
   ·exact hA.trans e3
 ·intro hA
  have : ∀ {j},Ah th gv tk i j → j < N → ∀ t,V i t ≤ V j t:=by
   intro j hA
   induction hA with
   | one hh => exact fun hj t => h.lo _ _ hj hh t
   | step ha hh ih => exact fun hj t => Int.le_trans (ih (by have:=hh.1; omega) t) (h.lo _ _ hj hh t)
  exact this hA hj _
end
structure Wt where
 T : Int → List Int
 C : Ch → List Int
def aT (a : List Int) (t : Int) : Int:=if 0 ≤ t then gi a t.toNat else 0
def NaR (C : Ch → List Int) : List Ch → List Int → List Int
 | [],n => n
 | k :: r,n => NaR C r (Nbl n (C k))
def Ng0 (T : Int → List Int) (t : Int) (v : List Int) : Int → List Int:=fun u => if u = t then v else T u
def NjG (C : Ch → List Int) (k : Ch) (v : List Int) : Ch → List Int:=fun u => if u = k then v else C u
def NbT : List Ch → List Int → (Ch → List Int) → (Ch → List Int)
 | [],_,C => C
 | k :: r,n,C => NbT r n (NjG C k (Nbl (C k) n))
def Ng4 (t : Int) (tk gv : List Ch) (w : Wt) : List Int × Wt :=
 let n:=NaR w.C tk (Nce (w.T t) t)
 (n,⟨Ng0 w.T t n,NbT gv n w.C⟩)
def Ne1 (th : Nat → Int) (gv tk : Nat → List Ch) : Nat → Wt
 | 0 => ⟨fun _ => [],fun _ => []⟩
 | j + 1 => (Ng4 (th j) (tk j) (gv j) (Ne1 th gv tk j)).2
def Nfa (th : Nat → Int) (gv tk : Nat → List Ch) (j : Nat) : List Int:=(Ng4 (th j) (tk j) (gv j) (Ne1 th gv tk j)).1
section
variable {th : Nat → Int} {gv tk : Nat → List Ch}
theorem NlY (a b : List Int) (t : Int) : aT (Nbl a b) t = max (aT a t) (aT b t):=by
 unfold aT
 split
 ·exact NkK _ _ _
 ·simp
theorem Ng8 : ∀ (l : List Ch) (n : List Int) (C : Ch → List Int) (q : Ch) (t : Int),aT (C q) t ≤ aT (NbT l n C q) t ∧ (q ∈ l → aT n t ≤ aT (NbT l n C q) t) ∧ (aT (NbT l n C q) t = aT (C q) t ∨ q ∈ l ∧ aT (NbT l n C q) t = aT n t)
 | [],n,C,q,t => ⟨Int.le_refl _,by simp,.inl rfl⟩
 | k :: r,n,C,q,t => by
   obtain ⟨h1,h2,h3⟩:=Ng8 r n (NjG C k (Nbl (C k) n)) q t
   rw [NbT]
   by_cases hq : q = k
   ·subst hq
    have he : aT (NjG C q (Nbl (C q) n) q) t = max (aT (C q) t) (aT n t):=by unfold NjG; rw [if_pos rfl,NlY]
    rw [he] at h1 h3
    refine ⟨by omega,fun _ => by omega,?_⟩
    rcases h3 with h3 | ⟨hm,h3⟩
    ·by_cases hm : aT n t ≤ aT (C q) t
     ·left; omega
     ·right; exact ⟨by simp,by omega⟩
    ·right; exact ⟨by simp,h3⟩
   ·have he : NjG C k (Nbl (C k) n) q = C q:=by unfold NjG; rw [if_neg hq]
    rw [he] at h1 h3
    refine ⟨h1,fun hm => h2 (by simpa [hq] using hm),?_⟩
    rcases h3 with h3 | ⟨hm,h3⟩
    ·left; exact h3
    ·right; exact ⟨by simp [hm],h3⟩
structure Kn (th : Nat → Int) (gv tk : Nat → List Ch) (j : Nat) (w : Wt) : Prop where
 tlo : ∀ i,i < j → ∀ t,aT (Nfa th gv tk i) t ≤ aT (w.T (th i)) t
 tup : ∀ u t,aT (w.T u) t = 0 ∨ ∃ i,i < j ∧ th i = u ∧ aT (w.T u) t = aT (Nfa th gv tk i) t
 town : ∀ u,0 ≤ u → aT (w.T u) u = cn th u j
 tle : ∀ u t,0 ≤ aT (w.T u) t ∧ aT (w.T u) t ≤ cn th t j
 clo : ∀ i,i < j → ∀ k,k ∈ gv i → ∀ t,aT (Nfa th gv tk i) t ≤ aT (w.C k) t
 cup : ∀ k t,aT (w.C k) t = 0 ∨ ∃ i,i < j ∧ k ∈ gv i ∧ aT (w.C k) t = aT (Nfa th gv tk i) t
 cle : ∀ k t,0 ≤ aT (w.C k) t ∧ aT (w.C k) t ≤ cn th t j
theorem NfE (t : Int) : aT [] t = 0:=by unfold aT; split <;> simp [gi]
theorem Kn.zero : Kn th gv tk 0 ⟨fun _ => [],fun _ => []⟩ where
 tlo:=fun i h => by omega
 tup:=fun u t => .inl (NfE t)
 town:=fun u _ => by rw [NfE]; rfl
 tle:=fun u t => by rw [NfE]; exact ⟨by omega,by rw [cn]; omega⟩
 clo:=fun i h => by omega
 cup:=fun k t => .inl (NfE t)
 cle:=fun k t => by rw [NfE]; exact ⟨by omega,by rw [cn]; omega⟩
structure Nw (th : Nat → Int) (gv tk : Nat → List Ch) (j : Nat) : Prop where
 lo : ∀ i,Hd th gv tk i j → ∀ t,aT (Nfa th gv tk i) t ≤ aT (Nfa th gv tk j) t
 own : aT (Nfa th gv tk j) (th j) = cn th (th j) (j + 1)
 le : ∀ t,0 ≤ aT (Nfa th gv tk j) t ∧ aT (Nfa th gv tk j) t ≤ cn th t (j + 1)
 up : ∀ t,t = th j ∨ aT (Nfa th gv tk j) t = 0 ∨ ∃ i,Hd th gv tk i j ∧ aT (Nfa th gv tk j) t = aT (Nfa th gv tk i) t
 tge : ∀ t,aT ((Ne1 th gv tk j).T (th j)) t ≤ aT (Nfa th gv tk j) t
theorem Kn.next {j : Nat} (h : Kn th gv tk j (Ne1 th gv tk j)) (n : Nw th gv tk j) : Kn th gv tk (j + 1) (Ne1 th gv tk (j + 1)):=by
 have hc : Nfa th gv tk j = NaR (Ne1 th gv tk j).C (tk j) (Nce ((Ne1 th gv tk j).T (th j)) (th j)):=rfl
 have hT : (Ne1 th gv tk (j + 1)).T = Ng0 (Ne1 th gv tk j).T (th j) (Nfa th gv tk j):=rfl
 have hC : (Ne1 th gv tk (j + 1)).C = NbT (gv j) (Nfa th gv tk j) (Ne1 th gv tk j).C:=rfl
 have hmono : ∀ t,cn th t j ≤ cn th t (j + 1):=fun t => Nfd Zab
 have hG:=fun q t => Ng8 (gv j) (Nfa th gv tk j) (Ne1 th gv tk j).C q t
 refine ⟨?_,?_,?_,?_,?_,?_,?_⟩
 ·intro i hi t
  rw [hT]; unfold Ng0
  by_cases e : th i = th j
  ·rw [if_pos e]
   by_cases hij : i = j
   ·subst hij; exact Int.le_refl _
   ·exact n.lo i ⟨by omega,.inl e⟩ t
  ·rw [if_neg e]
   exact h.tlo i (by rcases Nat.lt_succ_iff_lt_or_eq.1 hi with a | a; exact a; subst a; exact absurd rfl e) t
 ·intro u t
  rw [hT]; unfold Ng0
  by_cases e : u = th j
  ·rw [if_pos e]
   exact .inr ⟨j,by omega,e.symm,rfl⟩
  ·rw [if_neg e]
   rcases h.tup u t with a | ⟨i,i1,i2,i3⟩
   ·exact .inl a
   ·exact .inr ⟨i,by omega,i2,i3⟩
 ·intro u h0
  rw [hT]; unfold Ng0
  by_cases e : u = th j
  ·rw [if_pos e,e]; exact n.own
  ·rw [if_neg e,h.town u h0,cn,if_neg (Ne.symm e)]; omega
 ·intro u t
  rw [hT]; unfold Ng0
  have:=hmono t
  split
  ·exact n.le t
  ·have:=h.tle u t; omega
 ·intro i hi k hk t
  rw [hC]
  obtain ⟨g1,g2,-⟩:=hG k t
  by_cases hij : i = j
  ·subst hij; exact g2 hk
  ·have:=h.clo i Zab k hk t; omega
 ·intro k t
  rw [hC]
  rcases (hG k t).2.2 with a | ⟨hm,a⟩
  ·rw [a]
   rcases h.cup k t with b | ⟨i,i1,i2,i3⟩
   ·exact .inl b
   ·exact .inr ⟨i,by omega,i2,i3⟩
  ·exact .inr ⟨j,by omega,hm,a⟩
 ·intro k t
  rw [hC]
  have:=hmono t
  have hn:=n.le t
  have hk:=h.cle k t
  rcases (hG k t).2.2 with a | ⟨hm,a⟩ <;> rw [a] <;> omega
end
end Go.Pe
