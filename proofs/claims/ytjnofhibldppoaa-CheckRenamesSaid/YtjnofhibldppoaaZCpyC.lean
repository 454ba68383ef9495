/-
 The kit: copies of programs: walked. No condition.
-/
import Derived.Test.YtjnofhibldppoaaZCpyB
set_option linter.unusedVariables false
set_option linter.unusedSimpArgs false
namespace Go.Pe
open Go Go.Am Go.RowKit
def Td.cp(t:Td):Td:=⟨t.S,true,Sms.cp t.B,t.R⟩
theorem Nmt(l:List Td):((l.flatMap Td.cs).all PV.flat)=true:=by
 rw[List.all_eq_true];intro p hp;obtain⟨e,-,he⟩:=List.mem_flatMap.1 hp;simp only[Td.cs,List.mem_cons,List.not_mem_nil,or_false]at he;rcases he with rfl|rfl|rfl<;>first|rfl|exact Nbr _ _ _
theorem Njd{st:St}{f:Nat}{v:PV}{l:List Td}{n:Nat}(h:Own st 3 v n (l.flatMap Td.cs))(hn:n=l.length):∃ z,Go.Pe.deep st (f+2) v=some (slV z l.length (l.flatMap Td.cs)):=by
 subst hn;rcases h with⟨rfl,h0,h1⟩|⟨k,rfl,h1,h2,_⟩
 ·exact⟨true,by rw[h0];rfl⟩
 ·exact⟨false,by rw[NpW];exact NgD h1 h2 (Nmt l)⟩
theorem Nmi{x:Now}{t F:Nat}{a b:PV}(h1:x.env.get t=.ptr F 0)(h2:x.st.get F=some (.cells [a,b] false)):mapO (Nej x) [.cell t true 2]=some [.agg [a,b]]:=by
 simp only[mapO,Nej,h1,NbU,h2,NbV];rfl
end Go.Pe
