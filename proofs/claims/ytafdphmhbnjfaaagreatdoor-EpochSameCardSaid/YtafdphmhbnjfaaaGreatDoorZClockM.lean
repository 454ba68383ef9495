/-
 The plain mathematics of clocks: lists of numbers, read as 0 behind their end. No condition; nothing of the program.
-/
import Derived.Test.YtafdphmhbnjfaaaGreatDoorZLib
namespace Go.Am
def NbB(xs ys:List Int):List Int:=(List.range (max xs.length ys.length)).map fun i=>max (gi xs i) (gi ys i)
def Ndy(xs:List Int)(t:Nat):List Int:=xs++List.replicate (t+1 - xs.length) 0
def Ndf(xs:List Int)(t:Nat):List Int:=if gi (Ndy xs t) t<9223372036854775807 then(Ndy xs t).set t (gi (Ndy xs t) t+1)else Ndy xs t
def Nb1(xs:List Int)(t:Int):List Int:=if t<0∨63<t then xs else Ndf xs t.toNat
theorem NbC(xs ys:List Int):(NbB xs ys).length=max xs.length ys.length:=by simp[NbB]
theorem Nl5(xs ys:List Int)(i:Nat):gi (NbB xs ys) i=max (gi xs i) (gi ys i):=by
 by_cases h:i<max xs.length ys.length
 ·rw[Nee (by rw[NbC];exact h)];simp[NbB]
 ·rw[NdM (by rw[NbC];omega),NdM (by omega),NdM (by omega)];rfl
theorem Ne1(xs ys:List Int)(k:Nat)(h:k<max xs.length ys.length):(NbB xs ys).take (k+1)=(NbB xs ys).take k++[max (gi xs k) (gi ys k)]:=by
 rw[List.take_succ_eq_append_getElem (by rw[NbC];exact h)]
 congr 2
 simp[NbB]
theorem Nfu(xs ys:List Int):(NbB xs ys).take (max xs.length ys.length)=NbB xs ys:=by
 rw[List.take_of_length_le];rw[NbC];exact Nat.le_refl _
theorem Neb(xs:List Int)(t:Nat):(Ndy xs t).length=max xs.length (t+1):=by simp[Ndy];omega
theorem NeW(xs:List Int)(n i:Nat):gi (xs++List.replicate n 0) i=gi xs i:=by
 by_cases h:i<xs.length
 ·rw[Nee (by simp;omega),Nee h,List.getElem_append_left]
 ·rw[NdM (xs:=xs) (by omega)];by_cases h2:i<xs.length+n
  ·rw[Nee (by simp;omega),List.getElem_append_right (by omega)];simp
  ·exact NdM (by simp;omega)
theorem Nem(xs:List Int)(t i:Nat):gi (Ndy xs t) i=gi xs i:=NeW _ _ _
theorem Npy(xs:List Int)(t:Nat)(v:Int)(i:Nat)(h:t<xs.length):gi (xs.set t v) i=if i=t then v else gi xs i:=by
 by_cases hi:i<xs.length
 ·rw[Nee (by simpa using hi),List.getElem_set];by_cases e:t=i
  ·subst e;simp
  ·rw[if_neg e,if_neg (fun h=>e h.symm),Nee hi]
 ·rw[NdM (by simp;omega),NdM (xs:=xs) (by omega),if_neg (by omega)]
theorem NcD(xs:List Int)(t:Nat):(Ndf xs t).length=max xs.length (t+1):=by
 unfold Ndf;split<;>simp[Neb]
theorem NgK(xs:List Int)(t i:Nat):gi (Ndf xs t) i=if i=t∧gi xs t<9223372036854775807 then gi xs t+1 else gi xs i:=by
 unfold Ndf;rw[Nem];split
 ·rename_i h;rw[Npy _ _ _ _ (by rw[Neb];omega),Nem];by_cases e:i=t<;>simp[e,h]
 ·rename_i h;rw[Nem];by_cases e:i=t
  ·subst e;simp[h]
  ·simp[e]
theorem Nc9{xs:List Int}{t:Int}(h0:0≤t)(h1:t≤63):Nb1 xs t=Ndf xs t.toNat:=by unfold Nb1;rw[if_neg (by omega)]
theorem Nle{xs:List Int}{t:Int}(h:t<0∨63<t):Nb1 xs t=xs:=by unfold Nb1;rw[if_pos h]
end Go.Am
