/-
 The kit: is there much of statements? What the walk is to show. No condition.
-/
import Derived.Test.YtjnofhibldppoaaZKitA
set_option linter.unusedVariables false
set_option linter.unusedSimpArgs false
namespace Go.Pe
open Go Go.Am Go.RowKit
mutual
def Sm.hug(many:Int):Sm→Int→Int→Bool×Int
 |.mk k o j i n za a zb b ze e r,lv,c=>if many<c+1 then(true,c+1)else if lv<1 then(true,c+1)else if 1000<j.length+i.length then(true,c+1)else
  if(Exs.hug many a (lv - 1) (c+1)).1=true then Exs.hug many a (lv - 1) (c+1)else
  if(Sms.hug many b (lv - 1) (Exs.hug many a (lv - 1) (c+1)).2).1=true then Sms.hug many b (lv - 1) (Exs.hug many a (lv - 1) (c+1)).2 else
   Sms.hug many e (lv - 1) (Sms.hug many b (lv - 1) (Exs.hug many a (lv - 1) (c+1)).2).2
def Sms.hug(many:Int):List Sm→Int→Int→Bool×Int
 |[],_,c=>(false,c)
 |e::r,lv,c=>if(e.hug many lv c).1=true then e.hug many lv c else Sms.hug many r lv (e.hug many lv c).2
end
theorem Sm.hug_eq(many:Int)(s:Sm)(lv c:Int):s.hug many lv c=if many<c+1 then(true,c+1)else if lv<1 then(true,c+1)else if 1000<s.J.length+s.I.length then(true,c+1)else
 if(Exs.hug many s.A (lv - 1) (c+1)).1=true then Exs.hug many s.A (lv - 1) (c+1)else
 if(Sms.hug many s.B (lv - 1) (Exs.hug many s.A (lv - 1) (c+1)).2).1=true then Sms.hug many s.B (lv - 1) (Exs.hug many s.A (lv - 1) (c+1)).2 else
  Sms.hug many s.E (lv - 1) (Sms.hug many s.B (lv - 1) (Exs.hug many s.A (lv - 1) (c+1)).2).2:=by
 cases s;rw[Sm.hug];rfl
mutual
theorem Sm.hug_n(many:Int):∀ (s:Sm) (lv c:Int),(s.hug many lv c).1=false→(s.hug many lv c).2=c+s.size∧c+s.size≤many
 |.mk k o j i n za a zb b ze e r,lv,c,h=>by
   rw[Sm.hug]at h ⊢;rw[Sm.size];split at h
   ·simp at h
   rename_i h1;rw[if_neg h1];split at h
   ·simp at h
   rename_i h2;rw[if_neg h2];split at h
   ·simp at h
   rename_i h3;rw[if_neg h3];split at h
   ·rename_i h4;rw[h4]at h;cases h
   rename_i h4;rw[if_neg h4];have e1:=Exs.hug_n many a (lv - 1) (c+1) Zaa (by simpa using h4);split at h
   ·rename_i h5;rw[h5]at h;cases h
   rename_i h5;rw[if_neg h5];have e2:=Sms.hug_n many b (lv - 1) (Exs.hug many a (lv - 1) (c+1)).2 Zaa (by simpa using h5);have e3:=Sms.hug_n many e (lv - 1) (Sms.hug many b (lv - 1) (Exs.hug many a (lv - 1) (c+1)).2).2 Zaa h;omega
theorem Sms.hug_n(many:Int):∀ (l:List Sm) (lv c:Int),c≤many→(Sms.hug many l lv c).1=false→(Sms.hug many l lv c).2=c+Sms.size l∧c+Sms.size l≤many
 |[],lv,c,hc,h=>by rw[Sms.hug,Sms.size];simp;exact hc
 |e::r,lv,c,hc,h=>by
   rw[Sms.hug]at h ⊢;rw[Sms.size];split at h
   ·rename_i h1;rw[h1]at h;cases h
   ·rename_i h1;rw[if_neg h1];have h2:=Sm.hug_n many e lv c (by simpa using h1);have h3:=Sms.hug_n many r lv _ (by rw[h2.1];exact h2.2) h;rw[h2.1]at h3 ⊢;omega
end
theorem Njh{st:St}{l:List Sm}{i:Nat}(h:i<l.length) :
 NaS st 1 (.fptr (((Sms.cs l).drop (i * 9)).drop 2))=some [.s l[i].J]∧NaS st 1 (.fptr (((Sms.cs l).drop (i * 9)).drop 3))=some [.s l[i].I] ∧
 NaS st 1 (.fptr (((Sms.cs l).drop (i * 9)).drop 5))=some [slV l[i].za l[i].A.length (Exs.cs l[i].A)]∧NaS st 1 (.fptr (((Sms.cs l).drop (i * 9)).drop 6))=some [slV l[i].zb l[i].B.length (Sms.cs l[i].B)] ∧
 NaS st 1 (.fptr (((Sms.cs l).drop (i * 9)).drop 7))=some [slV l[i].ze l[i].E.length (Sms.cs l[i].E)]:=by
 rw[Sms.flat,NbU Sm.cs_len h,Sm.cs_eq];refine⟨?_,?_,?_,?_,?_⟩<;>(show cut? _ 0 1=_;unfold cut?;rw[if_pos Zaf];rfl)
end Go.Pe
