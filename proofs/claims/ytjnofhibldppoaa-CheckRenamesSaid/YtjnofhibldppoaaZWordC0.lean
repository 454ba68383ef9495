/-
 Words: the token at a place, told by contract, at the seat. No condition.
-/
import Derived.Shelf.Small.Strs
import Derived.Shelf.Utf8.RuneCount
import Derived.Shelf.Strings.Search1
import Derived.Shelf.Strings.Search2
import Derived.Shelf.Strings.Search3
import Derived.Shelf.Strings.Count
import Derived.Shelf.LaysM
import Derived.Shelf.Strings.Shaped
import Derived.Shelf.Strings.Split
import Derived.Shelf.Strings.RuneCount
import Derived.Test.YtjnofhibldppoaaProg
import Derived.Test.YtjnofhibldppoaaZWordsQ
set_option linter.unusedVariables false
namespace Go.Proofs
open Go.Shelf
def Try.lays137_ren:Go.Shelf.Ren:=⟨fun|137=>93|217=>99|266=>103|n=>n,fun|9=>9|5=>5|3=>3|n=>n,fun|n=>n⟩
theorem Try.lays137:Go.Proofs.Lays.n137 Try.prog Try.lays137_ren:={
 mixed:=by kernel_rfl
 f137:=Try.func93.trans (congrArg some (by kernel_rfl))
 f217:=Try.func99.trans (congrArg some (by kernel_rfl))
 f266:=Try.func103.trans (congrArg some (by kernel_rfl))
 t3:=Try.underlying3
 a3:=Try.isAgg3
 z3:=Try.sizeOf3
 v3:=Try.zeroValue3
 t5:=Try.underlying5
 a5:=Try.isAgg5
 z5:=Try.sizeOf5
 v5:=Try.zeroValue5
 t9:=Try.underlying9
 a9:=Try.isAgg9
 z9:=Try.sizeOf9
 v9:=Try.zeroValue9 }
open Go.RowKit in
/-- strings.IndexByte: "IndexByte returns the index of the first instance of c in s, or -1 if c is not present in s.": IT RETURNS 'Lib.indexByte s c'; the world is as it was. (LAID: no walk: one application.) -/
theorem Try.strings_IndexByte(s:ByteArray)(c:Int)(w:World) :
 Calls Try.prog 93 #[.string s,.int .u8 c] w fun e w'=>e=.returned (.int .i64 (Lib.indexByte s.data.toList c.toNat.toUInt8))∧w'=w:=Any.strings_IndexByte Try.lays137 s c w
def Try.lays144_ren:Go.Shelf.Ren:=⟨fun|144=>83|143=>96|219=>100|217=>99|225=>104|224=>105|267=>106|266=>103|314=>107|n=>n,fun|9=>9|4=>4|3=>3|5=>5|46=>149|146=>151|51=>150|n=>n,fun|1=>0|n=>n⟩
theorem Try.lays144:Go.Proofs.Lays.n144 Try.prog Try.lays144_ren:={
 mixed:=by kernel_rfl
 f143:=Try.func96.trans (congrArg some (by kernel_rfl))
 f144:=Try.func83.trans (congrArg some (by kernel_rfl))
 f217:=Try.func99.trans (congrArg some (by kernel_rfl))
 f219:=Try.func100.trans (congrArg some (by kernel_rfl))
 f224:=Try.func105.trans (congrArg some (by kernel_rfl))
 f225:=Try.func104.trans (congrArg some (by kernel_rfl))
 f266:=Try.func103.trans (congrArg some (by kernel_rfl))
 f267:=Try.func106.trans (congrArg some (by kernel_rfl))
 f314:=Try.func107.trans (congrArg some (by kernel_rfl))
 t3:=Try.underlying3
 a3:=Try.isAgg3
 z3:=Try.sizeOf3
 v3:=Try.zeroValue3
 t4:=Try.underlying4
 a4:=Try.isAgg4
 z4:=Try.sizeOf4
 v4:=Try.zeroValue4
 t5:=Try.underlying5
 a5:=Try.isAgg5
 z5:=Try.sizeOf5
 v5:=Try.zeroValue5
 t9:=Try.underlying9
 a9:=Try.isAgg9
 z9:=Try.sizeOf9
 v9:=Try.zeroValue9
 t46:=Try.underlying149
 a46:=Try.isAgg149
 z46:=Try.sizeOf149
 v46:=Try.zeroValue149
 t51:=Try.underlying150
 a51:=Try.isAgg150
 z51:=Try.sizeOf150
 v51:=Try.zeroValue150
 t146:=Try.underlying151
 a146:=Try.isAgg151
 z146:=Try.sizeOf151
 v146:=Try.zeroValue151
 g1:=by kernel_rfl }
open Go.RowKit Go.Lib in
/-- strings.Contains: "Contains reports whether substr is within s.": IT RETURNS 'Lib.contains s substr'; the world is as it was. (LAID: no walk: one application.) -/
theorem Try.strings_Contains(s sub:ByteArray)(m:Int)(w:World)(hs:s.size<4294967281)(hm:w.cell? ⟨0,0,none⟩=some (.int .i64 m)) :
 Calls Try.prog 83 #[.string s,.string sub] w fun e w'=>e=.returned (.bool (Lib.contains s.data.toList sub.data.toList))∧w'=w:=Any.strings_Contains Try.lays144 s sub m w hs hm
def Try.lays138_ren:Go.Shelf.Ren:=⟨fun|138=>80|195=>94|218=>95|143=>96|219=>100|217=>99|225=>104|224=>105|267=>106|266=>103|314=>107|n=>n,fun|9=>9|3=>3|4=>4|5=>5|0=>0|46=>149|146=>151|51=>150|n=>n,fun|1=>0|n=>n⟩
theorem Try.lays138:Go.Proofs.Lays.n138 Try.prog Try.lays138_ren:={
 mixed:=by kernel_rfl
 f138:=Try.func80.trans (congrArg some (by kernel_rfl))
 f143:=Try.func96.trans (congrArg some (by kernel_rfl))
 f195:=Try.func94.trans (congrArg some (by kernel_rfl))
 f217:=Try.func99.trans (congrArg some (by kernel_rfl))
 f218:=Try.func95.trans (congrArg some (by kernel_rfl))
 f219:=Try.func100.trans (congrArg some (by kernel_rfl))
 f224:=Try.func105.trans (congrArg some (by kernel_rfl))
 f225:=Try.func104.trans (congrArg some (by kernel_rfl))
 f266:=Try.func103.trans (congrArg some (by kernel_rfl))
 f267:=Try.func106.trans (congrArg some (by kernel_rfl))
 f314:=Try.func107.trans (congrArg some (by kernel_rfl))
 t0:=Try.underlying0
 a0:=Try.isAgg0
 z0:=Try.sizeOf0
 v0:=Try.zeroValue0
 t3:=Try.underlying3
 a3:=Try.isAgg3
 z3:=Try.sizeOf3
 v3:=Try.zeroValue3
 t4:=Try.underlying4
 a4:=Try.isAgg4
 z4:=Try.sizeOf4
 v4:=Try.zeroValue4
 t5:=Try.underlying5
 a5:=Try.isAgg5
 z5:=Try.sizeOf5
 v5:=Try.zeroValue5
 t9:=Try.underlying9
 a9:=Try.isAgg9
 z9:=Try.sizeOf9
 v9:=Try.zeroValue9
 t46:=Try.underlying149
 a46:=Try.isAgg149
 z46:=Try.sizeOf149
 v46:=Try.zeroValue149
 t51:=Try.underlying150
 a51:=Try.isAgg150
 z51:=Try.sizeOf150
 v51:=Try.zeroValue150
 t146:=Try.underlying151
 a146:=Try.isAgg151
 z146:=Try.sizeOf151
 v146:=Try.zeroValue151
 g1:=by kernel_rfl }
open Go.RowKit Go.Lib in
/-- strings.Count AT A substr OF ONE BYTE ('hp'): "Count counts the number of non-overlapping instances of substr in s.": IT RETURNS 'Lib.countByte s (that byte)'; the world is as it was. ✋ NO CONTRACT HERE YET at an empty substr (utf8.RuneCountInString) or at a longer one (a loop over strings.Index). (LAID: no walk: one application.) -/
theorem Try.strings_Count_one(s:ByteArray)(c:UInt8)(w:World) :
 Calls Try.prog 80 #[.string s,.string ⟨#[c]⟩] w fun e w'=>e=.returned (.int .i64 (Lib.countByte s.data.toList c))∧w'=w:=Any.strings_Count_one Try.lays138 s c w
def Try.laysM144_ren:Go.Shelf.Ren:=⟨fun|144=>83|143=>96|219=>100|217=>99|225=>104|224=>105|267=>106|266=>103|314=>107|n=>n,fun|9=>9|4=>4|3=>3|5=>5|46=>149|146=>151|51=>150|n=>n,fun|1=>0|n=>n⟩
theorem Try.laysM144:Go.Proofs.LaysM.n144 Try.prog Try.laysM144_ren:={
 mixed:=by kernel_rfl
 f143:=Try.func96.trans (congrArg some (by kernel_rfl))
 f144:=Try.func83.trans (congrArg some (by kernel_rfl))
 f217:=Try.func99.trans (congrArg some (by kernel_rfl))
 f219:=Try.func100.trans (congrArg some (by kernel_rfl))
 f224:=Try.func105.trans (congrArg some (by kernel_rfl))
 f225:=Try.func104.trans (congrArg some (by kernel_rfl))
 f266:=Try.func103.trans (congrArg some (by kernel_rfl))
 f267:=Try.func106.trans (congrArg some (by kernel_rfl))
 f314:=Try.func107.trans (congrArg some (by kernel_rfl))
 t3:=Try.underlying3
 a3:=Try.isAgg3
 z3:=Try.sizeOf3
 v3:=Try.zeroValue3
 t4:=Try.underlying4
 a4:=Try.isAgg4
 z4:=Try.sizeOf4
 v4:=Try.zeroValue4
 t5:=Try.underlying5
 a5:=Try.isAgg5
 z5:=Try.sizeOf5
 v5:=Try.zeroValue5
 t9:=Try.underlying9
 a9:=Try.isAgg9
 z9:=Try.sizeOf9
 v9:=Try.zeroValue9
 t46:=Try.underlying149
 a46:=Try.isAgg149
 z46:=Try.sizeOf149
 v46:=Try.zeroValue149
 t51:=Try.underlying150
 a51:=Try.isAgg150
 z51:=Try.sizeOf150
 v51:=Try.zeroValue150
 t146:=Try.underlying151
 a146:=Try.isAgg151
 z146:=Try.sizeOf151
 v146:=Try.zeroValue151
 g1:=by kernel_rfl
 i3:=by kernel_rfl
 i4:=by kernel_rfl
 i5:=by kernel_rfl
 i9:=by kernel_rfl
 i46:=by kernel_rfl
 i51:=by kernel_rfl
 i146:=by kernel_rfl
 m1:=by kernel_rfl
 s1_3:=fun w h=>Go.Proofs.cell_of_shapedOpen_int (zero:=#[.int .i64 0]) (t:=3) h (of_decide_eq_true (by kernel_rfl)) (by kernel_rfl) rfl (by kernel_rfl) (by kernel_rfl) Try.underlying3 }
end Go.Proofs
namespace Go.Pe
open Go Go.Am Go.RowKit
theorem NhV{Gl:Gmap}{m:Int}(hg:Gl 0 0=some (.int .i64 m)):CfgOK Go.Proofs.Try.prog Gl cfgW:=by
 refine NbN NbP ?_;intro f g h;unfold NrZ at h;split at h
 ·rename_i e;simp only[Sj]at h;subst h;subst e;exact Nho hg fun s sub m w hs hm=>Go.Proofs.Try.strings_Contains s sub m w hs hm
 ·split at h
  ·rename_i e;simp only[Sj]at h;subst h;subst e;exact Nlp fun s c w=>Go.Proofs.Try.strings_Count_one s c w
  ·split at h
   ·rename_i e;simp only[Sj]at h;subst h;subst e;exact NgJ fun s c w=>Go.Proofs.Try.strings_IndexByte s c w
   ·simp at h
def Nnu:FuncId→Option (List PV→Option PV):=fun f=>if f=64 then some gNext else none
theorem Nlw{Gl:Gmap}{m:Int}(hg:Gl 0 0=some (.int .i64 m)):∀ f g,Nnu f=some g→Nbc Go.Proofs.Try.prog Gl f g:=by
 intro f g h;unfold Nnu at h;split at h
 ·rename_i e;simp only[Sj]at h;subst h;subst e;exact NgS (NhV hg)
 ·cases h
noncomputable def cfgNx:Cfg:={ fn:=fun f=>NcA f tblL,ext:=Nnu }
theorem Nli{Gl:Gmap}{m:Int}(hg:Gl 0 0=some (.int .i64 m)):CfgOK Go.Proofs.Try.prog Gl cfgNx:=NbN NbP (Nlw hg)
theorem Nhy{w:World}(h:w.ShapedOpen Go.Proofs.Try.prog):∃ m,w.cell? ⟨0,0,none⟩=some (.int .i64 m):=Go.Proofs.Try.laysM144.s1_3 w h
end Go.Pe
