/-
 Words: the token at a place, told by contract, at the seat. No condition.
-/
import Derived.Shelf.Small.Strs
import Derived.Shelf.Strings.Search1
import Derived.Shelf.Strings.Search2
import Derived.Shelf.Strings.Search3
import Derived.Shelf.Strings.Count
import Derived.Shelf.LaysM
import Derived.Shelf.Strings.Shaped
import Derived.Test.YtjnofhibldppoaaGreatProg
import Derived.Test.YtjnofhibldppoaaGreatZWordsQ
set_option linter.unusedVariables false
namespace Go.Proofs
open Go.Shelf
def Tryz.lays137_ren:Go.Shelf.Ren:=⟨fun|137=>92|217=>98|266=>102|n=>n,fun|9=>9|5=>5|3=>3|n=>n,fun|n=>n⟩
theorem Tryz.lays137:Go.Proofs.Lays.n137 Tryz.prog Tryz.lays137_ren:={
 mixed:=by kernel_rfl
 f137:=Tryz.func92.trans (congrArg some (by kernel_rfl))
 f217:=Tryz.func98.trans (congrArg some (by kernel_rfl))
 f266:=Tryz.func102.trans (congrArg some (by kernel_rfl))
 t3:=Tryz.underlying3
 a3:=Tryz.isAgg3
 z3:=Tryz.sizeOf3
 v3:=Tryz.zeroValue3
 t5:=Tryz.underlying5
 a5:=Tryz.isAgg5
 z5:=Tryz.sizeOf5
 v5:=Tryz.zeroValue5
 t9:=Tryz.underlying9
 a9:=Tryz.isAgg9
 z9:=Tryz.sizeOf9
 v9:=Tryz.zeroValue9 }
open Go.RowKit in
/-- strings.IndexByte: "IndexByte returns the index of the first instance of c in s, or -1 if c is not present in s.": IT RETURNS 'Lib.indexByte s c'; the world is as it was. (LAID: no walk: one application.) -/
theorem Tryz.strings_IndexByte(s:ByteArray)(c:Int)(w:World) :
 Calls Tryz.prog 92 #[.string s,.int .u8 c] w fun e w'=>e=.returned (.int .i64 (Lib.indexByte s.data.toList c.toNat.toUInt8))∧w'=w:=Any.strings_IndexByte Tryz.lays137 s c w
def Tryz.lays144_ren:Go.Shelf.Ren:=⟨fun|144=>79|143=>95|219=>99|217=>98|225=>103|224=>104|267=>105|266=>102|314=>106|n=>n,fun|9=>9|4=>4|3=>3|5=>5|46=>146|146=>148|51=>147|n=>n,fun|1=>0|n=>n⟩
theorem Tryz.lays144:Go.Proofs.Lays.n144 Tryz.prog Tryz.lays144_ren:={
 mixed:=by kernel_rfl
 f143:=Tryz.func95.trans (congrArg some (by kernel_rfl))
 f144:=Tryz.func79.trans (congrArg some (by kernel_rfl))
 f217:=Tryz.func98.trans (congrArg some (by kernel_rfl))
 f219:=Tryz.func99.trans (congrArg some (by kernel_rfl))
 f224:=Tryz.func104.trans (congrArg some (by kernel_rfl))
 f225:=Tryz.func103.trans (congrArg some (by kernel_rfl))
 f266:=Tryz.func102.trans (congrArg some (by kernel_rfl))
 f267:=Tryz.func105.trans (congrArg some (by kernel_rfl))
 f314:=Tryz.func106.trans (congrArg some (by kernel_rfl))
 t3:=Tryz.underlying3
 a3:=Tryz.isAgg3
 z3:=Tryz.sizeOf3
 v3:=Tryz.zeroValue3
 t4:=Tryz.underlying4
 a4:=Tryz.isAgg4
 z4:=Tryz.sizeOf4
 v4:=Tryz.zeroValue4
 t5:=Tryz.underlying5
 a5:=Tryz.isAgg5
 z5:=Tryz.sizeOf5
 v5:=Tryz.zeroValue5
 t9:=Tryz.underlying9
 a9:=Tryz.isAgg9
 z9:=Tryz.sizeOf9
 v9:=Tryz.zeroValue9
 t46:=Tryz.underlying146
 a46:=Tryz.isAgg146
 z46:=Tryz.sizeOf146
 v46:=Tryz.zeroValue146
 t51:=Tryz.underlying147
 a51:=Tryz.isAgg147
 z51:=Tryz.sizeOf147
 v51:=Tryz.zeroValue147
 t146:=Tryz.underlying148
 a146:=Tryz.isAgg148
 z146:=Tryz.sizeOf148
 v146:=Tryz.zeroValue148
 g1:=by kernel_rfl }
open Go.RowKit Go.Lib in
/-- strings.Contains: "Contains reports whether substr is within s.": IT RETURNS 'Lib.contains s substr'; the world is as it was. (LAID: no walk: one application.) -/
theorem Tryz.strings_Contains(s sub:ByteArray)(m:Int)(w:World)(hs:s.size<4294967281)(hm:w.cell? ⟨0,0,none⟩=some (.int .i64 m)) :
 Calls Tryz.prog 79 #[.string s,.string sub] w fun e w'=>e=.returned (.bool (Lib.contains s.data.toList sub.data.toList))∧w'=w:=Any.strings_Contains Tryz.lays144 s sub m w hs hm
def Tryz.lays138_ren:Go.Shelf.Ren:=⟨fun|138=>76|195=>93|218=>94|143=>95|219=>99|217=>98|225=>103|224=>104|267=>105|266=>102|314=>106|n=>n,fun|9=>9|3=>3|4=>4|5=>5|0=>0|46=>146|146=>148|51=>147|n=>n,fun|1=>0|n=>n⟩
theorem Tryz.lays138:Go.Proofs.Lays.n138 Tryz.prog Tryz.lays138_ren:={
 mixed:=by kernel_rfl
 f138:=Tryz.func76.trans (congrArg some (by kernel_rfl))
 f143:=Tryz.func95.trans (congrArg some (by kernel_rfl))
 f195:=Tryz.func93.trans (congrArg some (by kernel_rfl))
 f217:=Tryz.func98.trans (congrArg some (by kernel_rfl))
 f218:=Tryz.func94.trans (congrArg some (by kernel_rfl))
 f219:=Tryz.func99.trans (congrArg some (by kernel_rfl))
 f224:=Tryz.func104.trans (congrArg some (by kernel_rfl))
 f225:=Tryz.func103.trans (congrArg some (by kernel_rfl))
 f266:=Tryz.func102.trans (congrArg some (by kernel_rfl))
 f267:=Tryz.func105.trans (congrArg some (by kernel_rfl))
 f314:=Tryz.func106.trans (congrArg some (by kernel_rfl))
 t0:=Tryz.underlying0
 a0:=Tryz.isAgg0
 z0:=Tryz.sizeOf0
 v0:=Tryz.zeroValue0
 t3:=Tryz.underlying3
 a3:=Tryz.isAgg3
 z3:=Tryz.sizeOf3
 v3:=Tryz.zeroValue3
 t4:=Tryz.underlying4
 a4:=Tryz.isAgg4
 z4:=Tryz.sizeOf4
 v4:=Tryz.zeroValue4
 t5:=Tryz.underlying5
 a5:=Tryz.isAgg5
 z5:=Tryz.sizeOf5
 v5:=Tryz.zeroValue5
 t9:=Tryz.underlying9
 a9:=Tryz.isAgg9
 z9:=Tryz.sizeOf9
 v9:=Tryz.zeroValue9
 t46:=Tryz.underlying146
 a46:=Tryz.isAgg146
 z46:=Tryz.sizeOf146
 v46:=Tryz.zeroValue146
 t51:=Tryz.underlying147
 a51:=Tryz.isAgg147
 z51:=Tryz.sizeOf147
 v51:=Tryz.zeroValue147
 t146:=Tryz.underlying148
 a146:=Tryz.isAgg148
 z146:=Tryz.sizeOf148
 v146:=Tryz.zeroValue148
 g1:=by kernel_rfl }
open Go.RowKit Go.Lib in
/-- strings.Count AT A substr OF ONE BYTE ('hp'): "Count counts the number of non-overlapping instances of substr in s.": IT RETURNS 'Lib.countByte s (that byte)'; the world is as it was. ✋ NO CONTRACT HERE YET at an empty substr (utf8.RuneCountInString) or at a longer one (a loop over strings.Index). (LAID: no walk: one application.) -/
theorem Tryz.strings_Count_one(s:ByteArray)(c:UInt8)(w:World) :
 Calls Tryz.prog 76 #[.string s,.string ⟨#[c]⟩] w fun e w'=>e=.returned (.int .i64 (Lib.countByte s.data.toList c))∧w'=w:=Any.strings_Count_one Tryz.lays138 s c w
def Tryz.laysM144_ren:Go.Shelf.Ren:=⟨fun|144=>79|143=>95|219=>99|217=>98|225=>103|224=>104|267=>105|266=>102|314=>106|n=>n,fun|9=>9|4=>4|3=>3|5=>5|46=>146|146=>148|51=>147|n=>n,fun|1=>0|n=>n⟩
theorem Tryz.laysM144:Go.Proofs.LaysM.n144 Tryz.prog Tryz.laysM144_ren:={
 mixed:=by kernel_rfl
 f143:=Tryz.func95.trans (congrArg some (by kernel_rfl))
 f144:=Tryz.func79.trans (congrArg some (by kernel_rfl))
 f217:=Tryz.func98.trans (congrArg some (by kernel_rfl))
 f219:=Tryz.func99.trans (congrArg some (by kernel_rfl))
 f224:=Tryz.func104.trans (congrArg some (by kernel_rfl))
 f225:=Tryz.func103.trans (congrArg some (by kernel_rfl))
 f266:=Tryz.func102.trans (congrArg some (by kernel_rfl))
 f267:=Tryz.func105.trans (congrArg some (by kernel_rfl))
 f314:=Tryz.func106.trans (congrArg some (by kernel_rfl))
 t3:=Tryz.underlying3
 a3:=Tryz.isAgg3
 z3:=Tryz.sizeOf3
 v3:=Tryz.zeroValue3
 t4:=Tryz.underlying4
 a4:=Tryz.isAgg4
 z4:=Tryz.sizeOf4
 v4:=Tryz.zeroValue4
 t5:=Tryz.underlying5
 a5:=Tryz.isAgg5
 z5:=Tryz.sizeOf5
 v5:=Tryz.zeroValue5
 t9:=Tryz.underlying9
 a9:=Tryz.isAgg9
 z9:=Tryz.sizeOf9
 v9:=Tryz.zeroValue9
 t46:=Tryz.underlying146
 a46:=Tryz.isAgg146
 z46:=Tryz.sizeOf146
 v46:=Tryz.zeroValue146
 t51:=Tryz.underlying147
 a51:=Tryz.isAgg147
 z51:=Tryz.sizeOf147
 v51:=Tryz.zeroValue147
 t146:=Tryz.underlying148
 a146:=Tryz.isAgg148
 z146:=Tryz.sizeOf148
 v146:=Tryz.zeroValue148
 g1:=by kernel_rfl
 i3:=by kernel_rfl
 i4:=by kernel_rfl
 i5:=by kernel_rfl
 i9:=by kernel_rfl
 i46:=by kernel_rfl
 i51:=by kernel_rfl
 i146:=by kernel_rfl
 m1:=by kernel_rfl
 s1_3:=fun w h=>Go.Proofs.cell_of_shapedOpen_int (zero:=#[.int .i64 0]) (t:=3) h (of_decide_eq_true (by kernel_rfl)) (by kernel_rfl) rfl (by kernel_rfl) (by kernel_rfl) Tryz.underlying3 }
end Go.Proofs
namespace Go.Pe
open Go Go.Am Go.RowKit
theorem Nh5{Gl:Gmap}{m:Int}(hg:Gl 0 0=some (.int .i64 m)):CfgOK Go.Proofs.Tryz.prog Gl cfgW:=by
 refine Ncn Ncq ?_;intro f g h;unfold Nsw at h;split at h
 ·rename_i e;simp only[Sj]at h;subst h;subst e;exact Nhx hg fun s sub m w hs hm=>Go.Proofs.Tryz.strings_Contains s sub m w hs hm
 ·split at h
  ·rename_i e;simp only[Sj]at h;subst h;subst e;exact NlM fun s c w=>Go.Proofs.Tryz.strings_Count_one s c w
  ·split at h
   ·rename_i e;simp only[Sj]at h;subst h;subst e;exact NgR fun s c w=>Go.Proofs.Tryz.strings_IndexByte s c w
   ·simp at h
def NnX:FuncId→Option (List PV→Option PV):=fun f=>if f=55 then some gNext else none
theorem NlS{Gl:Gmap}{m:Int}(hg:Gl 0 0=some (.int .i64 m)):∀ f g,NnX f=some g→NbC Go.Proofs.Tryz.prog Gl f g:=by
 intro f g h;unfold NnX at h;split at h
 ·rename_i e;simp only[Sj]at h;subst h;subst e;exact Ng0 (Nh5 hg)
 ·cases h
noncomputable def cfgNx:Cfg:={ fn:=fun f=>NcT f tblL,ext:=NnX }
theorem NlB{Gl:Gmap}{m:Int}(hg:Gl 0 0=some (.int .i64 m)):CfgOK Go.Proofs.Tryz.prog Gl cfgNx:=Ncn Ncq (NlS hg)
theorem NhH{w:World}(h:w.ShapedOpen Go.Proofs.Tryz.prog):∃ m,w.cell? ⟨0,0,none⟩=some (.int .i64 m):=Go.Proofs.Tryz.laysM144.s1_3 w h
end Go.Pe
