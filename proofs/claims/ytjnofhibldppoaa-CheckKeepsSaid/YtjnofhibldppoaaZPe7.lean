/-
 Slices of one's own in runs over plain data: nil, or an object; what appends and calls do to them. No condition; nothing of the program.
-/
import Derived.Test.YtjnofhibldppoaaZPe6
set_option linter.unusedVariables false
set_option linter.unusedSimpArgs false
namespace Go.Pe
open Go
section
variable {sz n:Nat}{v:PV}{cs:List PV}{st:St}
def keyOf:PV→List Nat
 |.rsl k _ _ _=>[k]
 |_=>[]
def Own(st:St)(sz:Nat)(v:PV)(n:Nat)(cs:List PV):Prop :=
 (v=.nsl∧n=0∧cs=[])∨∃ k,v=.rsl k sz 0 n∧st.get k=some (.cells cs false)∧cs.length=n * sz∧k<st.cnt
theorem Own.nil(st:St)(sz:Nat):Own st sz .nsl 0 []:=.inl ⟨rfl,rfl,rfl⟩
theorem Own.len(h:Own st sz v n cs):Ne9 v=some (.i .i64 n):=by
 rcases h with⟨rfl,rfl,_⟩|⟨k,rfl,_⟩<;>rfl
theorem Own.lt(h:Own st sz v n cs):∀ k,k∈keyOf v→k<st.cnt:=by
 rcases h with⟨rfl,_,_⟩|⟨k,rfl,_,_,hk⟩
 ·intro k hk;simp[keyOf]at hk
 ·intro j hj;simp[keyOf]at hj;omega
theorem Own.cells(h:Own st sz v n cs):cellsOf st sz v=some (n,cs):=by
 rcases h with⟨rfl,rfl,rfl⟩|⟨k,rfl,h1,h2,_⟩
 ·rfl
 ·unfold cellsOf;simp only[h1,cut?,Nat.zero_add,List.drop_zero,ne_eq,not_true_eq_false,if_false];rw[if_pos Zaa,←h2,List.take_length];rfl
theorem Own.move{st':St}(h:Own st sz v n cs)(hc:st.cnt≤st'.cnt)(hg:∀ j,j∈keyOf v→j<st.cnt→st'.get j=st.get j):Own st' sz v n cs:=by
 rcases h with h|⟨k,rfl,h1,h2,h3⟩
 ·exact .inl h
 ·exact .inr ⟨k,rfl,by rw[hg k (by simp[keyOf]) h3];exact h1,h2,by omega⟩
theorem Own.cnt{sto:Trie PObj}{c c':Nat}(h:Own ⟨sto,c⟩ sz v n cs)(hc:c≤c'):Own ⟨sto,c'⟩ sz v n cs:=h.move hc fun _ _ _=>rfl
theorem Own.put{k:Nat}{o:Option PObj}(h:Own st sz v n cs)(hk:k∉keyOf v):Own (st.put k o) sz v n cs:=h.move (Nat.le_refl _) fun j hj _=>Yae fun e=>hk (e▸hj)
theorem Own.deep(h:Own st sz v n cs)(hf:cs.all PV.flat=true):(v=.nsl∧n=0∧cs=[]∧Go.Pe.deep st 12 v=some .nsl)∨Go.Pe.deep st 12 v=some (.fsl n cs):=by
 rcases h with⟨rfl,rfl,rfl⟩|⟨k,rfl,h1,h2,_⟩
 ·exact .inl ⟨rfl,rfl,rfl,rfl⟩
 ·refine .inr ?_;show Go.Pe.deep st (11+1) _=_;unfold Go.Pe.deep;simp only[h1,cut?,Nat.zero_add,List.drop_zero];rw[if_pos Zaa,←h2,List.take_length];have:mapO (Go.Pe.deep st 11) cs=some cs:=by
   clear h1 h2
   induction cs with
   |nil=>rfl
   |cons c r ih =>
     simp only[List.all_cons,Bool.and_eq_true]at hf;have e:Go.Pe.deep st 11 c=some c:=by
      cases c<;>first|rfl|(simp[PV.flat]at hf)
     simp only[mapO,e,ih hf.2]
  simp only[this];rfl
theorem Own.obj(h:Own st sz v n cs)(hn:n≠0):∃ k,v=.rsl k sz 0 n∧st.get k=some (.cells cs false)∧cs.length=n * sz∧k<st.cnt:=by
 rcases h with⟨_,h,_⟩|h
 ·exact absurd h hn
 ·exact h
theorem Nhk{S:St}{key byt m:Nat}{news:List PV}{Q:PV→St→Prop}(h:Own S sz v n cs)(hk:key<S.cnt)(hf:key∉keyOf v)(hm:news.length=m * sz)(hs:0<sz)(hl:(n+m) * byt≤maxBytes)
 (q:∀ v' st',Own st' sz v' (n+m) (cs++news)→st'.cnt=S.cnt→(∀ j,j∈keyOf v'→j=key)→(∀ j,j≠key→j∉keyOf v→st'.get j=S.get j)→Q v' st'):WV (Na8 S key sz byt m news v) Q:=by
 rcases h with⟨rfl,rfl,rfl⟩|⟨k,rfl,h1,h2,h3⟩
 ·by_cases h0:m=0
  ·subst h0;have hn:news=[]:=List.length_eq_zero_iff.1 Zaa;subst hn;exact⟨.nsl,S,rfl,q _ _ (.inl ⟨rfl,rfl,rfl⟩) rfl (by intro j hj;simp[keyOf]at hj) (fun _ _ _=>rfl)⟩
  ·refine⟨.rsl key sz 0 m,S.put key (some (.cells news false)),?_,q _ _ (.inr ⟨key,by rw[Nat.zero_add],Yaf _ _ _,?_,hk⟩) rfl (by intro j hj;simpa[keyOf]using hj) (fun j hj _=>Yae fun e=>hj e.symm)⟩
   ·unfold Na8;rw[if_neg h0,if_pos (by simpa using hl)]
   ·simpa using hm
 ·have hkk:key≠k:=by simpa[keyOf]using hf
  refine⟨.rsl key sz 0 (n+m),(S.put k none).put key (some (.cells (cs++news) false)),?_,q _ _ (.inr ⟨key,rfl,Yaf _ _ _,?_,hk⟩) rfl (by intro j hj;simpa[keyOf]using hj) ?_⟩
  ·unfold Na8;simp only[h1];rw[if_pos ⟨trivial,trivial,h2,hl⟩]
  ·rw[List.length_append,h2,hm,Nat.add_mul]
  ·intro j hj hjk;rw[Yae (fun e=>hj e.symm),Yae (fun e=>hjk (by simp[keyOf,e]))]
theorem Ncb{g:List PV→Option PV}{key:Nat}{ps ps':List PV}{r:PV}{Q:PV→St→Prop}(hd:Na9 st ps=some ps')(hg:g ps'=some r)(hc:r.closedB=true)(hr:Nav st key r=some (r,st))(q:Q r st) :
 WV (match Na9 st ps with
  |some l=>match g l with
    |some r=>if r.closedB then Nav st key r else none
    |none=>none
  |none=>none) Q:=by
 refine⟨r,st,?_,q⟩;simp only[hd,hg,hc,if_true,hr]
end
end Go.Pe
