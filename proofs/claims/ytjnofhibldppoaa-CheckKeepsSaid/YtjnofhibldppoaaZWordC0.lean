/-
 Words: the token at a place, told by contract, at the seat. No condition.
-/
import Derived.Test.YtjnofhibldppoaaZWordsQ
import Derived.Test.YtjnofhibldppoaaZShelf
set_option linter.unusedVariables false
namespace Go.Pe
open Go Go.Am Go.RowKit
theorem Ngb{Gl:Gmap}{m:Int}(hg:Gl 0 0=some (.int .i64 m)):CfgOK Go.Proofs.Try.prog Gl cfgW:=by
 refine NfE Nf5 ?_;intro f g h;unfold Noo at h;split at h
 ·rename_i e;simp only[Sj]at h;subst h;subst e;exact NfI hg fun s sub m w hs hm=>Go.Proofs.Try.strings_Contains s sub m w hs hm
 ·split at h
  ·rename_i e;simp only[Sj]at h;subst h;subst e;exact NiO fun s c w=>Go.Proofs.Try.strings_Count_one s c w
  ·split at h
   ·rename_i e;simp only[Sj]at h;subst h;subst e;exact Ne8 fun s c w=>Go.Proofs.Try.strings_IndexByte s c w
   ·simp at h
def Nkr:FuncId→Option (List PV→Option PV):=fun f=>if f=64 then some gNext else none
theorem NiT{Gl:Gmap}{m:Int}(hg:Gl 0 0=some (.int .i64 m)):∀ f g,Nkr f=some g→NbC Go.Proofs.Try.prog Gl f g:=by
 intro f g h;unfold Nkr at h;split at h
 ·rename_i e;simp only[Sj]at h;subst h;subst e;exact Nfe (Ngb hg)
 ·cases h
noncomputable def cfgNx:Cfg:={ fn:=fun f=>Ndk f tblL,ext:=Nkr }
theorem NiK{Gl:Gmap}{m:Int}(hg:Gl 0 0=some (.int .i64 m)):CfgOK Go.Proofs.Try.prog Gl cfgNx:=NfE Nf5 (NiT hg)
theorem NfS{w:World}(h:w.ShapedOpen Go.Proofs.Try.prog):∃ m,w.cell? ⟨0,0,none⟩=some (.int .i64 m):=Go.Proofs.Try.laysM144.s1_3 w h
end Go.Pe
