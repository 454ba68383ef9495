/-
 Races: the first race of each object, as plain data; what hangs on what. No condition.
-/
import Derived.Test.YtafdphmhbnjfaaaGreatDoorZRacF
set_option linter.unusedVariables false
set_option linter.unusedSimpArgs false
namespace Go.Pe
open Go Go.Am Go.RowKit
abbrev AhE(cd:Cd)(l:List Et)(i j:Nat):Prop:=Ah (thL l) (gvL cd l) (tkL cd l) i j
theorem Nlr{cd:Cd}{l:List Et}(hv:∀ e,e∈l→EtOK cd e)(ht:trV 0 cd l=true)(hl:l.length<1000){i j:Int}:NmY 0 cd l i j=true↔0≤i∧i<j∧j<l.length∧AhE cd l i.toNat j.toNat:=by
 unfold NmY;rw[ht];simp only[Bool.true_and,Bool.and_eq_true,decide_eq_true_eq];have hth:∀ k,k<l.length→0≤thL l k∧thL l k<64:=fun k _=>by have:=Nde hv k;omega
 constructor
 ·rintro⟨⟨⟨h1,h2⟩,h3⟩,h4⟩;refine⟨h1,h2,h3,?_⟩;exact(NeA (N:=l.length) Zaa hth (i:=i.toNat) (j:=j.toNat) Zaa Zaa).1 h4
 ·rintro⟨h1,h2,h3,h4⟩;refine⟨⟨⟨h1,h2⟩,h3⟩,?_⟩;exact(NeA (N:=l.length) Zaa hth (i:=i.toNat) (j:=j.toNat) Zaa Zaa).2 h4
section
variable (ac:Nat→Bool) (ob:Nat→Int) (rc:Nat→Nat→Bool)
def Nb8:Nat→Int→List Nat
 |0,_=>[]
 |j+1,o=>if(ac j&&ob j==o)=true then Nb8 j o++[j]else Nb8 j o
def NhB(j:Nat)(is:List Nat):Option (Nat×Nat):=(is.find? (rc · j)).map (·,j)
def Nja:Nat→Int→Option (Nat×Nat)
 |0,_=>none
 |j+1,o=>if(ac j&&ob j==o)=true then(Nja j o).or (NhB rc j (Nb8 ac ob j o))else Nja j o
end
section
variable {ac ac':Nat→Bool}{ob ob':Nat→Int}{rc rc':Nat→Nat→Bool}
theorem Neu{o:Int}:∀ {j i:Nat},i∈Nb8 ac ob j o→i<j∧ac i=true∧ob i=o
 |0,i,h=>by simp[Nb8]at h
 |j+1,i,h=>by
   rw[Nb8]at h;split at h
   ·rename_i c;rcases List.mem_append.1 h with h|h
    ·have:=Neu h;exact⟨by omega,this.2⟩
    ·simp only[List.mem_singleton]at h;subst h;simp only[Bool.and_eq_true,beq_iff_eq]at c;exact⟨by omega,c⟩
   ·have:=Neu h;exact⟨by omega,this.2⟩
def shK(k i:Nat):Nat:=if i<k then i else i+1
end
section
variable {th th':Nat→Int}{gv tk gv' tk':Nat→List Ch}
theorem Ah.congr{n:Nat}(h:∀ i j,i<j→j<n→Hd th gv tk i j→Hd th' gv' tk' i j){i j:Nat}(ha:Ah th gv tk i j)(hj:j<n):Ah th' gv' tk' i j:=by
 induction ha with
 |one g=>exact .one (h _ _ g.1 hj g)
 |step a g ih=>exact .step (ih (by have:=g.1;omega)) (h _ _ g.1 hj g)
theorem Ah.shift{n k:Nat}(h:∀ i j,i<j→j<n→Hd th gv tk i j→Hd th' gv' tk' (shK k i) (shK k j)){i j:Nat}(ha:Ah th gv tk i j)(hj:j<n):Ah th' gv' tk' (shK k i) (shK k j):=by
 induction ha with
 |one g=>exact .one (h _ _ g.1 hj g)
 |step a g ih=>exact .step (ih (by have:=g.1;omega)) (h _ _ g.1 hj g)
end
def Nfr(cd:Cd)(l:List Et)(i:Nat):Bool:=(kdE cd (l.getD i etZ)).K==9&&((l.getD i etZ).O==22||(l.getD i etZ).O==23)
def jL(l:List Et)(i:Nat):Int:=(l.getD i etZ).J
def wrB(l:List Et)(i:Nat):Bool:=(l.getD i etZ).O==23
def rcB(cd:Cd)(l:List Et)(i j:Nat):Bool:=!(thL l i==thL l j)&&(wrB l i||wrB l j)&&!decide (aT (Ndh cd l i) (thL l i)≤aT (Ndh cd l j) (thL l i))
abbrev NdB(cd:Cd)(l:List Et):=Nb8 (Nfr cd l) (jL l)
abbrev Ngo(cd:Cd)(l:List Et):=Nja (Nfr cd l) (jL l) (rcB cd l)
def Noz(cd:Cd)(l:List Et)(o:Nat):Option (Nat×Nat×Nat):=(Ngo cd l l.length (o:Int)).map fun p=>(o,p.1,p.2)
def Nhk(cd:Cd)(l:List Et)(n:Nat):List (Nat×Nat×Nat):=(List.range n).filterMap (Noz cd l)
def Nnf(ck:Int)(cd:Cd)(l:List Et):List (Nat×Nat×Nat):=if trV ck cd l=true then Nhk cd l cd.O.length else []
def rcC(r:Nat×Nat×Nat):List PV:=[.i .i64 (r.1:Int),.i .i64 (r.2.1:Int),.i .i64 (r.2.2:Int)]
def NoY(rs:List (Nat×Nat×Nat)):PV:=if rs=[]then .nsl else .osl 3 rs.length (rs.flatMap rcC)
theorem NoB{cd:Cd}{l:List Et}(hv:∀ e,e∈l→EtOK cd e)(hl:l.length<1000){i j:Nat}(hij:i<j)(hj:j<l.length):rcB cd l i j=true↔¬ thL l i=thL l j∧(wrB l i||wrB l j)=true∧¬ AhE cd l i j:=by
 have hth:∀ k,k<l.length→0≤thL l k∧thL l k<64:=fun k _=>by have:=Nde hv k;omega
 have h:aT (Ndh cd l i) (thL l i)≤aT (Ndh cd l j) (thL l i)↔AhE cd l i j:=NeA (th:=thL l) (gv:=gvL cd l) (tk:=tkL cd l) (N:=l.length) Zaa hth hij hj;rw[←h];unfold rcB;simp only[Bool.and_eq_true,Bool.not_eq_true',beq_eq_false_iff_ne,decide_eq_false_iff_not,and_assoc,ne_eq]
theorem NdL{l:List Et}{i:Nat}(hi:i<l.length):l.getD i etZ=l[i]:=by
 rw[List.getD_eq_getElem?_getD,List.getElem?_eq_getElem hi];rfl
end Go.Pe
