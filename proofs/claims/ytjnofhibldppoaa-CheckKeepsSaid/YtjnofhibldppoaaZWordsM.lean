/-
 Words, as plain functions of bytes: what is passed over, where a token ends, numbers. No condition; nothing of the program.
-/
import Derived.Test.YtjnofhibldppoaaZPe4
set_option linter.unusedVariables false
set_option linter.unusedSimpArgs false
namespace Go.Pe
open Go
def Nc1(c:UInt8):Bool:=c==9||c==10||c==13||c==32
def NkP(c:UInt8):Bool:=decide (48≤c.toNat)&&decide (c.toNat≤57)
def Ni9(c:UInt8):Bool:=(decide (97≤c.toNat)&&decide (c.toNat≤122))||(decide (65≤c.toNat)&&decide (c.toNat≤90))||c==95
def Nl0(c:UInt8):Bool:=c==60||c==43||c==45||c==42||c==40||c==41||c==123||c==125||c==59||c==61
def cls(c:UInt8):Nat:=if Nc1 c then 1 else if c==35 then 2 else if NkP c then 3 else if Ni9 c then 4 else if Nl0 c then 5 else 0
def clsCells:List PV:=(List.range 256).map fun i=>.i .u8 (cls (UInt8.ofNat i))
def NcJ:Bool→List UInt8→Nat
 |_,[]=>0
 |true,c::r=>1+(if c=10 then NcJ false r else NcJ true r)
 |false,c::r=>if Nc1 c then 1+NcJ false r else if c=35 then 1+NcJ true r else 0
theorem NdS:∀ (b:Bool) (l:List UInt8),NcJ b l≤l.length
 |true,[]=>Nat.le_refl _
 |false,[]=>Nat.le_refl _
 |true,c::r=>by
   simp only[NcJ,List.length_cons];have:=NdS true r;have:=NdS false r;split<;>omega
 |false,c::r=>by
   simp only[NcJ,List.length_cons];have:=NdS true r;have:=NdS false r;split
   ·omega
   ·split<;>omega
theorem NeN(c:UInt8):∀ (l:List UInt8) (n:Nat),NeS c l n=-1∨(n:Int)≤NeS c l n
 |[],n=>.inl rfl
 |b::l,n=>by
   unfold NeS;split
   ·exact .inr (Int.le_refl _)
   ·rcases NeN c l (n+1)with h|h
    ·exact .inl h
    ·right;omega
theorem Nfn:∀ (l:List UInt8) (n:Nat),NeS 10 l n=-1→NcJ true l=l.length
 |[],n,_=>rfl
 |b::l,n,h=>by
   unfold NeS at h;split at h
   ·omega
   ·rename_i hb;simp only[NcJ,if_neg hb,List.length_cons];rw[Nfn l _ h];omega
theorem Nfo:∀ (l:List UInt8) (n:Nat) (p:Nat),NeS 10 l n=(n+p:Nat)→NcJ true l=p+NcJ false (l.drop p)∧p<l.length
 |[],n,p,h=>by simp[NeS]at h;omega
 |b::l,n,p,h=>by
   unfold NeS at h;split at h
   ·rename_i hb;have:p=0:=(by omega);subst this;subst hb;simp[NcJ,Nc1]
   ·rename_i hb;rcases NeN 10 l (n+1)with h1|h1
    ·rw[h1]at h;omega
    ·obtain⟨q,rfl⟩:∃ q,p=q+1:=⟨p - 1,by omega⟩;obtain⟨h2,h3⟩:=Nfo l (n+1) q (by rw[h];omega);simp only[NcJ,if_neg hb,List.drop_succ_cons,List.length_cons,h2];omega
theorem Nnl{c:UInt8}(h:Nc1 c=true):cls c=1:=by simp[cls,h]
theorem Nnm{c:UInt8}(h:c=35):cls c=2:=by subst h;decide
theorem Nnk{c:UInt8}(h:¬ Nc1 c=true)(h2:¬ c=35):cls c≠1∧cls c≠2:=by
 unfold cls;rw[if_neg h,if_neg (by simpa using h2)];constructor<;>(repeat' split)<;>decide
theorem NbT{text:List UInt8}{i:Nat}(h:i<text.length):text.drop i=text.getD i 0::text.drop (i+1):=by
 rw[List.drop_eq_getElem_cons h];simp[List.getD_eq_getElem?_getD,List.getElem?_eq_getElem h]
def NjA(first:Nat):List UInt8→Nat
 |[]=>0
 |c::r=>if cls c=3∨(cls c=4∧first=4)then 1+NjA first r else 0
theorem Nik(first:Nat):∀ l,NjA first l≤l.length
 |[]=>Nat.le_refl _
 |c::r=>by
   simp only[NjA,List.length_cons];have:=Nik first r
   split<;>omega
def Nhc:List UInt8→Nat
 |[]=>0
 |c::r=>if cls c=5 then(if(c::r).take 2=[45,62]∨(c::r).take 2=[61,61]then 2 else 1)else 1+NjA (cls c) r
def NhZ:Nat→List UInt8→Option Nat
 |n,[]=>some n
 |n,c::r=>if(9223372036854775807 - (c.toNat+208) % 256) / 10<n then none else NhZ (n * 10+(c.toNat+208) % 256) r
end Go.Pe
