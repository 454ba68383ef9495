/-
 Words: what is told at a place hangs on what stands from there on; pieces cut out. No condition.
-/
import Derived.Test.YtjnofhibldppoaaGreatZWordsQ
set_option linter.unusedVariables false
set_option linter.unusedSimpArgs false
namespace Go.Pe
open Go Go.Am Go.RowKit
def Nr6(t:List UInt8):Option (Int×List UInt8×Int×Nat) :=
 let s:=t.take (endL t)
 let c:=cls (t.getD 0 0)
 if c=3 then match Nen 0 s with
  |some n=>some (1,[],(n:Int),endL t)
  |none=>none
 else if c=4 then some (if Nga (32::s++[32]) NcK then 3 else 2,s,0,endL t)
 else if c=5∧s≠[61]then some (4,s,0,endL t)
 else none
def NoK(d:List UInt8):Option (Int×List UInt8×Int×Nat):=if NbV false d=d.length then some (5,[],0,0)else Nr6 (d.drop (NbV false d))
def Nln(r:Option (Int×List UInt8×Int×Nat))(line:Int)(a:Nat):PV:=match r with
 |some (k,s,n,l)=>NcE k s n line a ((a+l:Nat):Int)
 |none=>NbD 100 line
def Nca(text:List UInt8)(a:Nat):Int:=Nek 10 (text.take a) 0+1
theorem Nmr{text:List UInt8}{at0:Nat}(h:at0≤text.length):Ndn text at0=Nln (NoK (text.drop at0)) (Nca text (at0+NbV false (text.drop at0))) (at0+NbV false (text.drop at0)):=by
 have hp:=NcM false (text.drop at0);rw[List.length_drop]at hp;unfold Ndn NoK;simp only[];have hl:(text.drop at0).length=text.length - at0:=List.length_drop;by_cases he:at0+NbV false (text.drop at0)=text.length
 ·have he':NbV false (text.drop at0)=(text.drop at0).length:=by omega
  rw[if_pos he,if_pos he'];simp[Nln,Nca]
 ·have he':¬ NbV false (text.drop at0)=(text.drop at0).length:=by omega
  rw[if_neg he,if_neg he'];have e1:(text.drop at0).drop (NbV false (text.drop at0))=text.drop (at0+NbV false (text.drop at0)):=by rw[List.drop_drop]
  rw[e1];generalize at0+NbV false (text.drop at0)=a;have e2:(text.drop a).getD 0 0=text.getD a 0:=by simp[List.getD_eq_getElem?_getD]
  unfold Nr6;simp only[e2];generalize cls (text.getD a 0)=c;generalize (text.drop a).take (endL (text.drop a))=s;by_cases c3:c=3
  ·simp only[c3,if_true];cases hn:Nen 0 s<;>simp[Nln,Nca]
  ·simp only[c3,if_false];by_cases c4:c=4
   ·simp[c4,Nln,Nca]
   ·simp only[c4,if_false];split<;>simp[Nln,Nca]
theorem Nh7(c:UInt8):∀ (l:List UInt8) (n m:Nat),Nek c l (n+m)=Nek c l n+m
 |[],_,_=>rfl
 |b::l,n,m=>by
   unfold Nek;rw[show(if b=c then n+m+1 else n+m)=(if b=c then n+1 else n)+m by split<;>omega];exact Nh7 c l _ m
theorem Nf2:∀ l,endL l≤l.length
 |[]=>Nat.le_refl _
 |c::r=>by
   have:=NhS (cls c) r;simp only[endL,List.length_cons];split
   ·split
    ·rename_i h;rcases r with _|⟨d,r⟩
     ·simp at h
     ·simp
    ·omega
   ·omega
theorem Nid{l:List UInt8}(h:l≠[]):0<endL l:=by
 cases l with
 |nil=>exact absurd rfl h
 |cons c r =>
   simp only[endL];split
   ·split<;>omega
   ·omega
end Go.Pe
