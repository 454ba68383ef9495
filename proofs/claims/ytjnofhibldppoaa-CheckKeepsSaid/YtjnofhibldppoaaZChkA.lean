/-
 CheckKinds, by the interpreter of plain data. No condition.
-/
import Derived.Test.YtjnofhibldppoaaZWordC0
import Derived.Test.YtjnofhibldppoaaZPeB
import Derived.Test.YtjnofhibldppoaaZPeL4
import Derived.Test.YtjnofhibldppoaaZView
set_option linter.unusedVariables false
set_option linter.unusedSimpArgs false
set_option maxRecDepth 100000
namespace Go.Pe
open Go Go.Am Go.RowKit
theorem NiL:fvP cfgNx 200 10 []=some (.b true):=by kernel_rfl
def gAwakeC:List PV→Option PV
 |[]=>some (.b true)
 |_=>none
theorem NeX(args:List PV)(r:PV)(h:gAwakeC args=some r):∃ fuel,evP cfgNx fuel 10 args=some r:=by
 unfold gAwakeC at h;split at h
 ·rw[←h];refine⟨200,?_⟩;have:=NiL;rwa[NjS]at this
 ·cases h
theorem Nkp{cfg:Cfg}{f:FuncId}(hx:cfg.ext f=none){fuel:Nat}{args:List PV}{r:PV}(ho:Naw args=(args,{ sto:=.leaf,cnt:=1 }))(hc:∀ st,Nbg st r=some r)(h:∃ r' st',NaI cfg fuel f args { sto:=.leaf,cnt:=1 }=some (r',st')∧r'=r):evP cfg fuel f args=some r:=by
 obtain⟨r',st',h1,h2⟩:=h;exact NjP hx ho ⟨r',st',h1,by rw[h2];exact hc st'⟩
end Go.Pe
