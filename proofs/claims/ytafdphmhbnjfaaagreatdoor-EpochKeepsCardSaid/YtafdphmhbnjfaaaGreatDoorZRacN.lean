/-
 Races: race.Races, walked. No condition.
-/
import Derived.Test.YtafdphmhbnjfaaaGreatDoorZRacK
import Derived.Test.YtafdphmhbnjfaaaGreatDoorZPe8
set_option linter.unusedVariables false
set_option linter.unusedSimpArgs false
namespace Go.Pe
open Go Go.Am Go.RowKit
section
variable {st st':St}{T:List Nat}{key:Nat}{m:MOp}
def Njj(i:Nat):PV:=.i .i64 (i:Int)
def fsP(o:Int)(p:Nat×Nat):PV:=.agg [.i .i64 o,.i .i64 (p.1:Int),.i .i64 (p.2:Int)]
def SM(st:St)(S lo:Nat)(sn:Int→List Nat):Prop:=∃ es f,st.get S=some (.map es)∧MK NnT 0 es f∧(∀ o,Own st 1 ((f o).getD .nsl) (sn o).length ((sn o).map Njj))∧(∀ o k,k∈keyOf ((f o).getD .nsl)→lo≤k)∧∀ o o' k,o≠o'→k∈keyOf ((f o).getD .nsl)→k∉keyOf ((f o').getD .nsl)
def FM(st:St)(F:Nat)(fs:Int→Option (Nat×Nat)):Prop:=∃ es f,st.get F=some (.map es)∧MK NnT 0 es f∧∀ o,f o=(fs o).map (fsP o)
theorem SM.zero{S lo:Nat}(h:st.get S=some (.map [])):SM st S lo fun _=>[]:=⟨[],_,h,MK.nil NcC,fun _=>Own.nil _ _,fun _ k hk=>by simp[keyOf]at hk,fun _ _ k _ hk=>by simp[keyOf]at hk⟩
theorem FM.zero{F:Nat}(h:st.get F=some (.map [])):FM st F fun _=>none:=⟨[],_,h,MK.nil NcC,fun _=>rfl⟩
theorem SM.move{S lo:Nat}{sn:Int→List Nat}(h:SM st S lo sn)(hc:st.cnt≤st'.cnt)(hS:st'.get S=st.get S)(hg:∀ j,lo≤j→j<st.cnt→(∃ a:List Nat,st.get j=some (.cells (a.map Njj) false))→st'.get j=st.get j):SM st' S lo sn:=by
 obtain⟨es,f,h1,h2,h3,h4,h5⟩:=h;refine⟨es,f,hS.trans h1,h2,fun o=>(h3 o).move hc fun j hj hlt=>hg j (h4 o j hj) hlt ?_,h4,h5⟩;rcases h3 o with⟨e,_⟩|⟨k,e,g,_⟩
 ·rw[e]at hj;simp[keyOf]at hj
 ·rw[e]at hj;simp only[keyOf,List.mem_singleton]at hj;subst hj;exact⟨_,g⟩
theorem FM.same{F:Nat}{fs:Int→Option (Nat×Nat)}(h:FM st F fs)(hF:st'.get F=st.get F):FM st' F fs:=by
 obtain⟨es,f,h1,h2,h3⟩:=h;exact⟨es,f,hF.trans h1,h2,h3⟩
theorem Noc{l:List Nat}{i:Nat}(h:i<l.length):List.take 1 (List.drop i (l.map Njj))=[.i .i64 ((l[i]:Nat):Int)]:=by
 rw[List.drop_eq_getElem_cons (by rw[List.length_map];exact h),List.getElem_map];rfl
theorem Nl4(l:List Nat):(l.map Njj).length=l.length:=by simp
theorem Top.putN{sto:Trie PObj}{c n k c':Nat}{o:Option PObj}(h:Top ⟨sto,c⟩)(hk:k<c')(hc:c≤c'):Top ⟨(St.put ⟨sto,n⟩ k o).sto,c'⟩:=fun j hj=>by
 show St.get (St.put ⟨sto,n⟩ k o) j=none;simp only at hj;rw[Yae Zaa];exact h j Zad
theorem Top.put{k:Nat}{o:Option PObj}(h:Top st)(hk:k<st.cnt):Top (St.put st k o):=fun j hj=>by
 have hj':st.cnt≤j:=hj;rw[Yae Zaa];exact h j hj'
theorem Nou(S:Nat):PV.same Nby (.mp S) (.mp S)=true:=by simp[Nby,PV.same]
theorem NiA(k o:Nat):PV.same Nby (.ptr k o) (.ptr k o)=true:=by simp[Nby,PV.same]
theorem Nos(k:IntKind)(n:Int):PV.same Nby (.i k n) (.i k n)=true:=by simp[Nby,PV.same]
theorem Nbn{k0:Nat}{ρ:Arg→PV}(h:key∉T):Nkn false T k0 key ρ st m:=fun _=>⟨fun _=>h,nofun⟩
theorem Nbc{v:PV}(hq:NaU m=true)(h1:PV.same Nby v v=true)(h2:st'.get key=none):NbR true T key m st v st':=by
 rw[Nak _ _ _ _ _ _ _ hq,Nal,h2];exact⟨h1,rfl⟩
theorem NaA{v:PV}(hq:NaU m=true):NbR false T key m st v st':=by
 rw[Nak _ _ _ _ _ _ _ hq,Nan];trivial
theorem Nds{st:St}{l:List Dc}{i:Nat}(h:i<l.length):Nbh st 1 (.fptr ((l.flatMap Dc.cs).drop (i * 5)))=some [.i .u8 (l[i].K.toNat:Int)]:=by
 rw[Nb6 Dc.cs_len h];show cut? _ 0 1=_;unfold cut?;rw[if_pos (by simp[Dc.cs])];rfl
theorem NiF:Top { sto:=.leaf,cnt:=1 }:=fun _ _=>rfl
end
end Go.Pe
