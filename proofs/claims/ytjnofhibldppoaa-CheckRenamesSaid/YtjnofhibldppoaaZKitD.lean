/-
 The kit: is there much of a program? No condition.
-/
import Derived.Test.YtjnofhibldppoaaZKitC
import Derived.Test.YtjnofhibldppoaaZPrgD
import Derived.Test.YtjnofhibldppoaaZChkMf
set_option linter.unusedVariables false
set_option linter.unusedSimpArgs false
namespace Go.Pe
open Go Go.Am Go.RowKit
def Nf8:List Dc→Bool
 |[]=>false
 |d::r=>if 1000<d.S.length+d.O.length then true else Nf8 r
def NdY(many lv:Int):List Td→Int→Bool×Int
 |[],c=>(false,c)
 |t::r,c=>if 1000<t.S.length then(true,c)else if many<c then(true,c)else if(Sms.hug many t.B lv c).1=true then Sms.hug many t.B lv c else NdY many lv r (Sms.hug many t.B lv c).2
def NmK(lv many:Int)(p:Pg):Bool:=if Nf8 p.D=true then true else if(NdY many lv p.T ((p.D.length:Int)+p.T.length)).1=true then true else decide (many<(NdY many lv p.T ((p.D.length:Int)+p.T.length)).2)
theorem NkY(many lv:Int):∀ (l:List Td) (c:Int),(NdY many lv l c).1=false→(NdY many lv l c).2+l.length=c+Tds.size l
 |[],c,h=>by rw[NdY,Tds.size];simp
 |t::r,c,h=>by
   rw[NdY]at h ⊢;rw[Tds.size,List.length_cons];split at h
   ·cases h
   rename_i h1;rw[if_neg h1];split at h
   ·cases h
   rename_i h2;rw[if_neg h2];split at h
   ·rename_i h3;rw[h3]at h;cases h
   rename_i h3;rw[if_neg h3];have e1:=Sms.hug_n many t.B lv c Zaa (by simpa using h3);have e2:=NkY many lv r _ h;omega
theorem Npr{lv many:Int}{p:Pg}(h:NmK lv many p=false):(Tds.size p.T:Int)+p.D.length≤many:=by
 unfold NmK at h;split at h
 ·cases h
 split at h
 ·cases h
 rename_i h1 h2;have:=NkY many lv p.T _ (by simpa using h2);simp only[decide_eq_false_iff_not]at h;omega
theorem NlW{st:St}{l:List Dc}{i:Nat}(h:i<l.length):NaX st 1 (.fptr (((l.flatMap Dc.cs).drop (i * 5)).drop 1))=some [.s l[i].S]∧NaX st 1 (.fptr (((l.flatMap Dc.cs).drop (i * 5)).drop 3))=some [.s l[i].O]:=by
 rw[Nco Dc.cs_len h];refine⟨?_,?_⟩<;>(show cut? _ 0 1=_;unfold cut?;rw[if_pos (by simp[Dc.cs])];rfl)
theorem Nf4{st:St}{l:List Td}{i:Nat}(h:i<l.length):NaX st 1 (.fptr ((l.flatMap Td.cs).drop (i * 3)))=some [.s l[i].S]∧NaX st 1 (.fptr (((l.flatMap Td.cs).drop (i * 3)).drop 1))=some [slV l[i].z l[i].B.length (Sms.cs l[i].B)]:=by
 rw[Nco Td.cs_len h];refine⟨?_,?_⟩<;>(show cut? _ 0 1=_;unfold cut?;rw[if_pos (by simp[Td.cs])];rfl)
end Go.Pe
