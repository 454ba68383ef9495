/-
 Lists of objects, cut and put together; rules for a drawn order. No condition; nothing of the program.
-/
import Derived.Test.YtjnofhibldppoaaZPrgA
import Derived.Test.YtjnofhibldppoaaZPe8
set_option linter.unusedVariables false
set_option linter.unusedSimpArgs false
namespace Go.Pe
open Go
section
variable {st:St}{n k key:Nat}{v:PV}{T:List Nat}{m:MOp}
theorem Top.putN{sto:Trie PObj}{c c':Nat}{o:Option PObj}(h:Top ⟨sto,c⟩)(hk:k<c')(hc:c≤c'):Top ⟨(St.put ⟨sto,n⟩ k o).sto,c'⟩:=fun j hj=>by
 show St.get (St.put ⟨sto,n⟩ k o) j=none;simp only at hj;rw[Yae Zaa];exact h j Zae
theorem Top.put{o:Option PObj}(h:Top st)(hk:k<st.cnt):Top (St.put st k o):=fun j hj=>by
 have hj':st.cnt≤j:=hj;rw[Yae Zaa];exact h j hj'
theorem Ndg(k o:Nat):PV.same NbK (.ptr k o) (.ptr k o)=true:=by simp[NbK,PV.same]
theorem Ngh(k:IntKind)(n:Int):PV.same NbK (.i k n) (.i k n)=true:=by simp[NbK,PV.same]
theorem Ne7{k0:Nat}{ρ:Arg→PV}(h:key∉T):Nko false T k0 key ρ st m:=fun _=>⟨fun _=>h,nofun⟩
theorem Ngd{st':St}(hq:NaB m=true)(h1:PV.same NbK v v=true)(h2:st'.get key=none):NcG true T key m st v st':=by
 rw[Na6 _ _ _ _ _ _ _ hq,Na9,h2];exact⟨h1,rfl⟩
theorem NbT{st':St}(hq:NaB m=true):NcG false T key m st v st':=by
 rw[Na6 _ _ _ _ _ _ _ hq,Na8];trivial
theorem Nml(n:Nat)(cs:List PV):PV.same NbK (.fsl n cs) (.fsl n cs)=true:=PV.same_fslR n cs
theorem Nfd(z:Bool)(n:Nat)(cs:List PV):PV.same NbK (slV z n cs) (slV z n cs)=true:=by
 unfold slV;split
 ·rfl
 ·exact Nml n cs
theorem NpW(n:Nat)(cs:List PV):slV false n cs=.fsl n cs:=by unfold slV;rw[if_neg Zaf]
theorem Nlh(st:St)(l:List Dc):cellsOf st 5 (.fsl l.length (l.flatMap Dc.cs))=some (l.length,l.flatMap Dc.cs):=by
 have:=NaM Dc.cs_len l;unfold cellsOf;simp only[this,if_true]
theorem NoY(l:List Dc):(l.flatMap Dc.cs).all PV.one=true:=by
 rw[List.all_eq_true];intro p hp;obtain⟨e,-,he⟩:=List.mem_flatMap.1 hp;simp only[Dc.cs,List.mem_cons,List.not_mem_nil,or_false]at he;rcases he with rfl|rfl|rfl|rfl|rfl<;>rfl
theorem Nno(l:List Dc):((l.flatMap Dc.cs).all PV.flat)=true:=by
 rw[List.all_eq_true];intro p hp;obtain⟨e,-,he⟩:=List.mem_flatMap.1 hp;simp only[Dc.cs,List.mem_cons,List.not_mem_nil,or_false]at he;rcases he with rfl|rfl|rfl|rfl|rfl<;>rfl
theorem NfA{st:St}{f:Nat}:∀ {cs:List PV},cs.all PV.flat=true→mapO (Go.Pe.deep st (f+1)) cs=some cs
 |[],_=>rfl
 |c::r,h=>by
   simp only[List.all_cons,Bool.and_eq_true]at h;have e:Go.Pe.deep st (f+1) c=some c:=(by cases c<;>first|rfl|(simp[PV.flat]at h;done));simp only[mapO,e,NfA h.2]
theorem NgD{f sz:Nat}{cs:List PV}(hk:st.get k=some (.cells cs false))(hl:cs.length=n * sz)(hf:cs.all PV.flat=true):Go.Pe.deep st (f+2) (.rsl k sz 0 n)=some (.fsl n cs):=by
 unfold Go.Pe.deep;simp only[hk,cut?,Nat.zero_add,List.drop_zero];rw[if_pos Zaa,←hl,List.take_length];simp only[NfA hf];rfl
theorem Nb2{sz:Nat}{cs:List PV}(h:Own st sz v n cs):v.cells=[v]∧v.one=true:=by
 rcases h with⟨rfl,_,_⟩|⟨k,rfl,_⟩<;>exact⟨rfl,rfl⟩
theorem Njc{f:Nat}{l:List Dc}(h:Own st 5 v n (l.flatMap Dc.cs))(hn:n=l.length):∃ z,Go.Pe.deep st (f+2) v=some (slV z l.length (l.flatMap Dc.cs)):=by
 subst hn;rcases h with⟨rfl,h0,h1⟩|⟨k,rfl,h1,h2,_⟩
 ·exact⟨true,by rw[h0];rfl⟩
 ·exact⟨false,by rw[NpW];exact NgD h1 h2 (Nno l)⟩
theorem NjK{a b x y:PV}(h1:Go.Pe.deep st 11 a=some x)(h2:Go.Pe.deep st 11 b=some y):Go.Pe.deep st 12 (.agg [a,b])=some (.agg [x,y]):=by
 show(mapO (Go.Pe.deep st 11) [a,b]).map PV.agg=_;simp only[mapO,h1,h2,Option.map_some]
end
end Go.Pe
