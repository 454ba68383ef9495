/-
 Words: what is told at a place hangs on what stands from there on; pieces cut out. No condition.
-/
import Derived.Test.YtjnofhibldppoaaZWordsQ
set_option linter.unusedVariables false
set_option linter.unusedSimpArgs false
namespace Go.Pe
open Go Go.Am Go.RowKit
def Np1(t:List UInt8):Option (Int×List UInt8×Int×Nat) :=
 let s:=t.take (endL t)
 let c:=cls (t.getD 0 0)
 if c=3 then match Neh 0 s with
  |some n=>some (1,[],(n:Int),endL t)
  |none=>none
 else if c=4 then some (if Nep (32::s++[32]) keyText then 3 else 2,s,0,endL t)
 else if c=5∧s≠[61]then some (4,s,0,endL t)
 else none
def Nf7(d:List UInt8):Option (Int×List UInt8×Int×Nat):=if pass false d=d.length then some (5,[],0,0)else Np1 (d.drop (pass false d))
def NkA(r:Option (Int×List UInt8×Int×Nat))(line:Int)(a:Nat):PV:=match r with
 |some (k,s,n,l)=>Nck k s n line a ((a+l:Nat):Int)
 |none=>Nbm 100 line
def Nb1(text:List UInt8)(a:Nat):Int:=Ned 10 (text.take a) 0+1
theorem Nin{text:List UInt8}{at0:Nat}(h:at0≤text.length):Ndh text at0=NkA (Nf7 (text.drop at0)) (Nb1 text (at0+pass false (text.drop at0))) (at0+pass false (text.drop at0)):=by
 have hp:=Nch false (text.drop at0);rw[List.length_drop]at hp;unfold Ndh Nf7;simp only[];have hl:(text.drop at0).length=text.length - at0:=List.length_drop;by_cases he:at0+pass false (text.drop at0)=text.length
 ·have he':pass false (text.drop at0)=(text.drop at0).length:=by omega
  rw[if_pos he,if_pos he'];simp[NkA,Nb1]
 ·have he':¬ pass false (text.drop at0)=(text.drop at0).length:=by omega
  rw[if_neg he,if_neg he'];have e1:(text.drop at0).drop (pass false (text.drop at0))=text.drop (at0+pass false (text.drop at0)):=by rw[List.drop_drop]
  rw[e1];generalize at0+pass false (text.drop at0)=a;have e2:(text.drop a).getD 0 0=text.getD a 0:=by simp[List.getD_eq_getElem?_getD]
  unfold Np1;simp only[e2];generalize cls (text.getD a 0)=c;generalize (text.drop a).take (endL (text.drop a))=s;by_cases c3:c=3
  ·simp only[c3,if_true];cases hn:Neh 0 s<;>simp[NkA,Nb1]
  ·simp only[c3,if_false];by_cases c4:c=4
   ·simp[c4,NkA,Nb1]
   ·simp only[c4,if_false];split<;>simp[NkA,Nb1]
theorem NhY(c:UInt8):∀ (l:List UInt8) (n m:Nat),Ned c l (n+m)=Ned c l n+m
 |[],_,_=>rfl
 |b::l,n,m=>by
   unfold Ned;rw[show(if b=c then n+m+1 else n+m)=(if b=c then n+1 else n)+m by split<;>omega];exact NhY c l _ m
theorem NeI:∀ l,endL l≤l.length
 |[]=>Nat.le_refl _
 |c::r=>by
   have:=NhI (cls c) r;simp only[endL,List.length_cons];split
   ·split
    ·rename_i h;rcases r with _|⟨d,r⟩
     ·simp at h
     ·simp
    ·omega
   ·omega
theorem Nh3{l:List UInt8}(h:l≠[]):0<endL l:=by
 cases l with
 |nil=>exact absurd rfl h
 |cons c r =>
   simp only[endL];split
   ·split<;>omega
   ·omega
end Go.Pe
