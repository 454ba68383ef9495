/-
 Programs as plain data: expressions, statements, objects, threads; their cells. No condition; nothing of the program.
-/
import Derived.Test.YtjnofhibldppoaaZPe9
set_option linter.unusedVariables false
set_option linter.unusedSimpArgs false
namespace Go.Pe
open Go
def slV(z:Bool)(n:Nat)(cs:List PV):PV:=if z=true∧n=0 then .nsl else .fsl n cs
theorem Nas{z:Bool}{n i:Nat}{cs:List PV}(h:i<n):slV z n cs=.fsl n cs:=by
 unfold slV;rw[if_neg Zaa]
theorem NaF(z:Bool)(n:Nat)(cs:List PV):Nd7 (slV z n cs)=some (.i .i64 n):=by
 unfold slV;split
 ·rename_i h;rw[h.2];rfl
 ·rfl
theorem Nag(z:Bool)(n:Nat)(cs:List PV):(slV z n cs).one=true:=by
 unfold slV;split<;>rfl
theorem Nbr(z:Bool)(n:Nat)(cs:List PV):(slV z n cs).flat=true:=by
 unfold slV;split<;>rfl
theorem Naf(z:Bool)(n:Nat)(cs:List PV):(slV z n cs).cells=[slV z n cs]:=by
 unfold slV;split<;>rfl
theorem NiB(st:St)(f:Nat)(z:Bool)(n:Nat)(cs:List PV):deep st (f+1) (slV z n cs)=some (slV z n cs):=by
 unfold slV;split<;>rfl
inductive Ex where
 |mk (K:UInt8) (S:List UInt8) (N:Int) (z:Bool) (L:List Ex)
def Ex.K:Ex→UInt8|.mk k _ _ _ _=>k
def Ex.S:Ex→List UInt8|.mk _ s _ _ _=>s
def Ex.N:Ex→Int|.mk _ _ n _ _=>n
def Ex.z:Ex→Bool|.mk _ _ _ z _=>z
def Ex.L:Ex→List Ex|.mk _ _ _ _ l=>l
mutual
def Ex.cs:Ex→List PV
 |.mk k s n z l=>[.i .u8 (k.toNat:Int),.s s,.i .i64 n,slV z l.length (Exs.cs l)]
def Exs.cs:List Ex→List PV
 |[]=>[]
 |e::r=>e.cs++Exs.cs r
end
theorem Ex.cs_eq(e:Ex):e.cs=[.i .u8 (e.K.toNat:Int),.s e.S,.i .i64 e.N,slV e.z e.L.length (Exs.cs e.L)]:=by
 cases e;rw[Ex.cs];rfl
theorem Exs.flat:∀ l:List Ex,Exs.cs l=l.flatMap Ex.cs
 |[]=>by rw[Exs.cs];rfl
 |e::r=>by rw[Exs.cs,Exs.flat r];rfl
inductive Sm where
 |mk (K O:UInt8) (J I:List UInt8) (N:Int) (za:Bool) (A:List Ex) (zb:Bool) (B:List Sm) (ze:Bool) (E:List Sm) (R:Int)
def Sm.K:Sm→UInt8|.mk k _ _ _ _ _ _ _ _ _ _ _=>k
def Sm.O:Sm→UInt8|.mk _ o _ _ _ _ _ _ _ _ _ _=>o
def Sm.J:Sm→List UInt8|.mk _ _ j _ _ _ _ _ _ _ _ _=>j
def Sm.I:Sm→List UInt8|.mk _ _ _ i _ _ _ _ _ _ _ _=>i
def Sm.N:Sm→Int|.mk _ _ _ _ n _ _ _ _ _ _ _=>n
def Sm.za:Sm→Bool|.mk _ _ _ _ _ z _ _ _ _ _ _=>z
def Sm.A:Sm→List Ex|.mk _ _ _ _ _ _ a _ _ _ _ _=>a
def Sm.zb:Sm→Bool|.mk _ _ _ _ _ _ _ z _ _ _ _=>z
def Sm.B:Sm→List Sm|.mk _ _ _ _ _ _ _ _ b _ _ _=>b
def Sm.ze:Sm→Bool|.mk _ _ _ _ _ _ _ _ _ z _ _=>z
def Sm.E:Sm→List Sm|.mk _ _ _ _ _ _ _ _ _ _ e _=>e
def Sm.R:Sm→Int|.mk _ _ _ _ _ _ _ _ _ _ _ r=>r
mutual
def Sm.cs:Sm→List PV
 |.mk k o j i n za a zb b ze e r=>[.i .u8 (k.toNat:Int),.i .u8 (o.toNat:Int),.s j,.s i,.i .i64 n,slV za a.length (Exs.cs a),slV zb b.length (Sms.cs b),slV ze e.length (Sms.cs e),.i .i64 r]
def Sms.cs:List Sm→List PV
 |[]=>[]
 |s::r=>s.cs++Sms.cs r
end
section
variable {st:St}{i:Nat}
theorem Sm.cs_eq(s:Sm):s.cs=[.i .u8 (s.K.toNat:Int),.i .u8 (s.O.toNat:Int),.s s.J,.s s.I,.i .i64 s.N,slV s.za s.A.length (Exs.cs s.A),slV s.zb s.B.length (Sms.cs s.B),slV s.ze s.E.length (Sms.cs s.E),.i .i64 s.R]:=by
 cases s;rw[Sm.cs];rfl
theorem Sms.flat:∀ l:List Sm,Sms.cs l=l.flatMap Sm.cs
 |[]=>by rw[Sms.cs];rfl
 |e::r=>by rw[Sms.cs,Sms.flat r];rfl
structure Dc where
 K:UInt8
 S:List UInt8
 N:Int
 O:List UInt8
 R:Int
def Dc.cs(d:Dc):List PV:=[.i .u8 (d.K.toNat:Int),.s d.S,.i .i64 d.N,.s d.O,.i .i64 d.R]
structure Td where
 S:List UInt8
 z:Bool
 B:List Sm
 R:Int
def Td.cs(t:Td):List PV:=[.s t.S,slV t.z t.B.length (Sms.cs t.B),.i .i64 t.R]
structure Pg where
 zd:Bool
 D:List Dc
 zt:Bool
 T:List Td
def Pg.cs(p:Pg):List PV:=[slV p.zd p.D.length (p.D.flatMap Dc.cs),slV p.zt p.T.length (p.T.flatMap Td.cs)]
theorem NaM{α:Type}{f:α→List PV}{w:Nat}(hw:∀ a,(f a).length=w):∀ l:List α,(l.flatMap f).length=l.length * w
 |[]=>by simp
 |a::r=>by
   rw[List.flatMap_cons,List.length_append,hw,NaM hw r,List.length_cons,Nat.add_mul,Nat.one_mul];omega
theorem NjW{α:Type}{f:α→List PV}{w:Nat}(hw:∀ a,(f a).length=w):∀ {l:List α}{i:Nat}(h:i<l.length),((l.flatMap f).drop (i * w)).take w=f l[i]
 |[],i,h=>by simp at h
 |a::r,0,_=>by
   rw[List.flatMap_cons,Nat.zero_mul,List.drop_zero,List.take_append_of_le_length (by rw[hw];omega),←hw a,List.take_length];rfl
 |a::r,i+1,h=>by
   rw[List.flatMap_cons,List.drop_append,hw,List.drop_of_length_le (by rw[hw,Nat.add_mul];omega),List.nil_append,show(i+1) * w - w=i * w by rw[Nat.add_mul];omega,NjW hw (l:=r) (i:=i) (by simpa using h)];rfl
theorem NdE{α:Type}{f:α→List PV}{w:Nat}(hw:∀ a,(f a).length=w){l:List α}(h:i<l.length):NaX st w (.fptr ((l.flatMap f).drop (i * w)))=some (f l[i]):=by
 show cut? _ 0 w=_;unfold cut?;have h2:i * w+w≤l.length * w:=by
  have:=Nat.mul_le_mul_right w (show i+1≤l.length from h);rwa[Nat.add_mul,Nat.one_mul]at this
 rw[if_pos (by rw[List.length_drop,NaM hw];omega),List.drop_zero,NjW hw h]
theorem Ex.cs_len(e:Ex):e.cs.length=4:=by rw[Ex.cs_eq];rfl
theorem Sm.cs_len(e:Sm):e.cs.length=9:=by rw[Sm.cs_eq];rfl
theorem Dc.cs_len(e:Dc):e.cs.length=5:=rfl
theorem Td.cs_len(e:Td):e.cs.length=3:=rfl
theorem Exs.len(l:List Ex):(Exs.cs l).length=l.length * 4:=by rw[Exs.flat,NaM Ex.cs_len]
theorem Sms.len(l:List Sm):(Sms.cs l).length=l.length * 9:=by rw[Sms.flat,NaM Sm.cs_len]
theorem NeY{l:List Ex}(h:i<l.length):NaX st 4 (.fptr ((Exs.cs l).drop (i * 4)))=some [.i .u8 (l[i].K.toNat:Int),.s l[i].S,.i .i64 l[i].N,slV l[i].z l[i].L.length (Exs.cs l[i].L)]:=by
 rw[Exs.flat,NdE Ex.cs_len h,Ex.cs_eq]
theorem NeZ{l:List Sm}(h:i<l.length):NaX st 9 (.fptr ((Sms.cs l).drop (i * 9)))=some [.i .u8 (l[i].K.toNat:Int),.i .u8 (l[i].O.toNat:Int),.s l[i].J,.s l[i].I,.i .i64 l[i].N,slV l[i].za l[i].A.length (Exs.cs l[i].A),slV l[i].zb l[i].B.length (Sms.cs l[i].B),slV l[i].ze l[i].E.length (Sms.cs l[i].E),.i .i64 l[i].R]:=by
 rw[Sms.flat,NdE Sm.cs_len h,Sm.cs_eq]
theorem Nhw{l:List Dc}(h:i<l.length):NaX st 5 (.fptr ((l.flatMap Dc.cs).drop (i * 5)))=some [.i .u8 (l[i].K.toNat:Int),.s l[i].S,.i .i64 l[i].N,.s l[i].O,.i .i64 l[i].R]:=NdE Dc.cs_len h
theorem Nhx{l:List Td}(h:i<l.length):NaX st 3 (.fptr ((l.flatMap Td.cs).drop (i * 3)))=some [.s l[i].S,slV l[i].z l[i].B.length (Sms.cs l[i].B),.i .i64 l[i].R]:=NdE Td.cs_len h
end
mutual
def Ex.size:Ex→Nat
 |.mk _ _ _ _ l=>Exs.size l+1
def Exs.size:List Ex→Nat
 |[]=>0
 |e::r=>e.size+Exs.size r
end
mutual
def Sm.size:Sm→Nat
 |.mk _ _ _ _ _ _ a _ b _ e _=>Exs.size a+Sms.size b+Sms.size e+1
def Sms.size:List Sm→Nat
 |[]=>0
 |e::r=>e.size+Sms.size r
end
theorem Ex.size_eq(e:Ex):e.size=Exs.size e.L+1:=by cases e;rw[Ex.size];rfl
theorem Sm.size_eq(s:Sm):s.size=Exs.size s.A+Sms.size s.B+Sms.size s.E+1:=by cases s;rw[Sm.size];rfl
theorem Exs.size_mem:∀ {l:List Ex}{e:Ex},e∈l→e.size≤Exs.size l
 |[],_,h=>by simp at h
 |a::r,e,h=>by
   rw[Exs.size];rcases List.mem_cons.1 h with rfl|h
   ·omega
   ·have:=Exs.size_mem h;omega
theorem Sms.size_mem:∀ {l:List Sm}{e:Sm},e∈l→e.size≤Sms.size l
 |[],_,h=>by simp at h
 |a::r,e,h=>by
   rw[Sms.size];rcases List.mem_cons.1 h with rfl|h
   ·omega
   ·have:=Sms.size_mem h;omega
theorem Exs.len_le:∀ l:List Ex,l.length≤Exs.size l
 |[]=>by simp
 |a::r=>by
   have:=Exs.len_le r;rw[Exs.size,Ex.size_eq,List.length_cons];omega
theorem Sms.len_le:∀ l:List Sm,l.length≤Sms.size l
 |[]=>by simp
 |a::r=>by
   have:=Sms.len_le r;rw[Sms.size,Sm.size_eq,List.length_cons];omega
end Go.Pe
