/-
 Races: the first race of each object, as plain data; what hangs on what. No condition.
-/
import Derived.Test.YtafdphmhbnjfaaaGreatDoorZRacF
set_option linter.unusedVariables false
set_option linter.unusedSimpArgs false
namespace Go.Pe
open Go Go.Am Go.RowKit
section
variable (ac:Nat→Bool) (ob:Nat→Int) (rc:Nat→Nat→Bool)
end
section
variable {ac ac':Nat→Bool}{ob ob':Nat→Int}{rc rc':Nat→Nat→Bool}
def shK(k i:Nat):Nat:=if i<k then i else i+1
end
section
variable {th th':Nat→Int}{gv tk gv' tk':Nat→List Ch}
theorem Ah.congr{n:Nat}(h:∀ i j,i<j→j<n→Hd th gv tk i j→Hd th' gv' tk' i j){i j:Nat}(ha:Ah th gv tk i j)(hj:j<n):Ah th' gv' tk' i j:=by
 induction ha with
 |one g=>exact .one (h _ _ g.1 hj g)
 |step a g ih=>exact .step (ih (by have:=g.1;omega)) (h _ _ g.1 hj g)
theorem Ah.shift{n k:Nat}(h:∀ i j,i<j→j<n→Hd th gv tk i j→Hd th' gv' tk' (shK k i) (shK k j)){i j:Nat}(ha:Ah th gv tk i j)(hj:j<n):Ah th' gv' tk' (shK k i) (shK k j):=by
 induction ha with
 |one g=>exact .one (h _ _ g.1 hj g)
 |step a g ih=>exact .step (ih (by have:=g.1;omega)) (h _ _ g.1 hj g)
end
def Nk0(cd:Cd)(l:List Et)(i:Nat):Bool:=(kdE cd (l.getD i etZ)).K==9&&((l.getD i etZ).O==22||(l.getD i etZ).O==23)
def jL(l:List Et)(i:Nat):Int:=(l.getD i etZ).J
def wrB(l:List Et)(i:Nat):Bool:=(l.getD i etZ).O==23
theorem NeR{l:List Et}{i:Nat}(hi:i<l.length):l.getD i etZ=l[i]:=by
 rw[List.getD_eq_getElem?_getD,List.getElem?_eq_getElem hi];rfl
end Go.Pe
