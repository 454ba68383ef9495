/-
 The plain mathematics of clocks: lists of numbers, read as 0 behind their end. No condition; nothing of the program.
-/
import Derived.Test.YtafdphmhbnjfaaaGreatDoorZLib
namespace Go.Am
def NbD(xs ys:List Int):List Int:=(List.range (max xs.length ys.length)).map fun i=>max (gi xs i) (gi ys i)
def Ndu(xs:List Int)(t:Nat):List Int:=xs++List.replicate (t+1 - xs.length) 0
def Nde(xs:List Int)(t:Nat):List Int:=if gi (Ndu xs t) t<9223372036854775807 then(Ndu xs t).set t (gi (Ndu xs t) t+1)else Ndu xs t
def Nb8(xs:List Int)(t:Int):List Int:=if t<0∨63<t then xs else Nde xs t.toNat
theorem NbC(xs ys:List Int):(NbD xs ys).length=max xs.length ys.length:=by simp[NbD]
theorem NlP(xs ys:List Int)(i:Nat):gi (NbD xs ys) i=max (gi xs i) (gi ys i):=by
 by_cases h:i<max xs.length ys.length
 ·rw[Nea (by rw[NbC];exact h)];simp[NbD]
 ·rw[NdF (by rw[NbC];omega),NdF (by omega),NdF (by omega)];rfl
theorem NeY(xs ys:List Int)(k:Nat)(h:k<max xs.length ys.length):(NbD xs ys).take (k+1)=(NbD xs ys).take k++[max (gi xs k) (gi ys k)]:=by
 rw[List.take_succ_eq_append_getElem (by rw[NbC];exact h)]
 congr 2
 simp[NbD]
theorem Nfs(xs ys:List Int):(NbD xs ys).take (max xs.length ys.length)=NbD xs ys:=by
 rw[List.take_of_length_le];rw[NbC];exact Nat.le_refl _
theorem Nd6(xs:List Int)(t:Nat):(Ndu xs t).length=max xs.length (t+1):=by simp[Ndu];omega
theorem NeS(xs:List Int)(n i:Nat):gi (xs++List.replicate n 0) i=gi xs i:=by
 by_cases h:i<xs.length
 ·rw[Nea (by simp;omega),Nea h,List.getElem_append_left]
 ·rw[NdF (xs:=xs) (by omega)];by_cases h2:i<xs.length+n
  ·rw[Nea (by simp;omega),List.getElem_append_right (by omega)];simp
  ·exact NdF (by simp;omega)
theorem Nee(xs:List Int)(t i:Nat):gi (Ndu xs t) i=gi xs i:=NeS _ _ _
theorem Npi(xs:List Int)(t:Nat)(v:Int)(i:Nat)(h:t<xs.length):gi (xs.set t v) i=if i=t then v else gi xs i:=by
 by_cases hi:i<xs.length
 ·rw[Nea (by simpa using hi),List.getElem_set];by_cases e:t=i
  ·subst e;simp
  ·rw[if_neg e,if_neg (fun h=>e h.symm),Nea hi]
 ·rw[NdF (by simp;omega),NdF (xs:=xs) (by omega),if_neg (by omega)]
theorem NcF(xs:List Int)(t:Nat):(Nde xs t).length=max xs.length (t+1):=by
 unfold Nde;split<;>simp[Nd6]
theorem NgK(xs:List Int)(t i:Nat):gi (Nde xs t) i=if i=t∧gi xs t<9223372036854775807 then gi xs t+1 else gi xs i:=by
 unfold Nde;rw[Nee];split
 ·rename_i h;rw[Npi _ _ _ _ (by rw[Nd6];omega),Nee];by_cases e:i=t<;>simp[e,h]
 ·rename_i h;rw[Nee];by_cases e:i=t
  ·subst e;simp[h]
  ·simp[e]
theorem Nc9{xs:List Int}{t:Int}(h0:0≤t)(h1:t≤63):Nb8 xs t=Nde xs t.toNat:=by unfold Nb8;rw[if_neg (by omega)]
theorem NkS{xs:List Int}{t:Int}(h:t<0∨63<t):Nb8 xs t=xs:=by unfold Nb8;rw[if_pos h]
end Go.Am
