/-
 Trees: names, expressions, statements, objects, each by itself, by the interpreter of plain data. No condition.
-/
import Derived.Shelf.Small.Strs
import Derived.Shelf.Strings.Search1
import Derived.Shelf.Strings.Search2
import Derived.Shelf.Strings.Search3
import Derived.Shelf.Strings.Count
import Derived.Shelf.LaysM
import Derived.Shelf.Strings.Shaped
import Derived.Test.YtafdphmhbnjfaaaGreatDoorProg
import Derived.Test.YtafdphmhbnjfaaaGreatDoorZWordsZ
import Derived.Test.YtafdphmhbnjfaaaGreatDoorZPrgA
import Derived.Test.YtafdphmhbnjfaaaGreatDoorZPeB
set_option linter.unusedVariables false
set_option linter.unusedSimpArgs false
open Nat renaming reduceAdd → rA,reduceMul → rB,reduceLT → rC,reduceEqDiff → rD,reduceLeDiff → rE
namespace Go.Proofs
open Go.Shelf
def Tryz.lays137_ren:Go.Shelf.Ren:=⟨fun|137=>122|217=>140|266=>153|n=>n,fun|9=>9|5=>5|3=>3|n=>n,fun|n=>n⟩
theorem Tryz.lays137:Go.Proofs.Lays.n137 Tryz.prog Tryz.lays137_ren:={
 mixed:=by kernel_rfl
 f137:=Tryz.func122.trans (congrArg some (by kernel_rfl))
 f217:=Tryz.func140.trans (congrArg some (by kernel_rfl))
 f266:=Tryz.func153.trans (congrArg some (by kernel_rfl))
 t3:=Tryz.underlying3
 a3:=Tryz.isAgg3
 z3:=Tryz.sizeOf3
 v3:=Tryz.zeroValue3
 t5:=Tryz.underlying5
 a5:=Tryz.isAgg5
 z5:=Tryz.sizeOf5
 v5:=Tryz.zeroValue5
 t9:=Tryz.underlying9
 a9:=Tryz.isAgg9
 z9:=Tryz.sizeOf9
 v9:=Tryz.zeroValue9 }
open Go.RowKit in
/-- strings.IndexByte: "IndexByte returns the index of the first instance of c in s, or -1 if c is not present in s.": IT RETURNS 'Lib.indexByte s c'; the world is as it was. (LAID: no walk: one application.) -/
theorem Tryz.strings_IndexByte(s:ByteArray)(c:Int)(w:World) :
 Calls Tryz.prog 122 #[.string s,.int .u8 c] w fun e w'=>e=.returned (.int .i64 (Lib.indexByte s.data.toList c.toNat.toUInt8))∧w'=w:=Any.strings_IndexByte Tryz.lays137 s c w
def Tryz.lays144_ren:Go.Shelf.Ren:=⟨fun|144=>100|143=>125|219=>141|217=>140|225=>154|224=>155|267=>156|266=>153|314=>163|n=>n,fun|9=>9|4=>4|3=>3|5=>5|46=>236|146=>243|51=>239|n=>n,fun|1=>0|n=>n⟩
theorem Tryz.lays144:Go.Proofs.Lays.n144 Tryz.prog Tryz.lays144_ren:={
 mixed:=by kernel_rfl
 f143:=Tryz.func125.trans (congrArg some (by kernel_rfl))
 f144:=Tryz.func100.trans (congrArg some (by kernel_rfl))
 f217:=Tryz.func140.trans (congrArg some (by kernel_rfl))
 f219:=Tryz.func141.trans (congrArg some (by kernel_rfl))
 f224:=Tryz.func155.trans (congrArg some (by kernel_rfl))
 f225:=Tryz.func154.trans (congrArg some (by kernel_rfl))
 f266:=Tryz.func153.trans (congrArg some (by kernel_rfl))
 f267:=Tryz.func156.trans (congrArg some (by kernel_rfl))
 f314:=Tryz.func163.trans (congrArg some (by kernel_rfl))
 t3:=Tryz.underlying3
 a3:=Tryz.isAgg3
 z3:=Tryz.sizeOf3
 v3:=Tryz.zeroValue3
 t4:=Tryz.underlying4
 a4:=Tryz.isAgg4
 z4:=Tryz.sizeOf4
 v4:=Tryz.zeroValue4
 t5:=Tryz.underlying5
 a5:=Tryz.isAgg5
 z5:=Tryz.sizeOf5
 v5:=Tryz.zeroValue5
 t9:=Tryz.underlying9
 a9:=Tryz.isAgg9
 z9:=Tryz.sizeOf9
 v9:=Tryz.zeroValue9
 t46:=Tryz.underlying236
 a46:=Tryz.isAgg236
 z46:=Tryz.sizeOf236
 v46:=Tryz.zeroValue236
 t51:=Tryz.underlying239
 a51:=Tryz.isAgg239
 z51:=Tryz.sizeOf239
 v51:=Tryz.zeroValue239
 t146:=Tryz.underlying243
 a146:=Tryz.isAgg243
 z146:=Tryz.sizeOf243
 v146:=Tryz.zeroValue243
 g1:=by kernel_rfl }
open Go.RowKit Go.Lib in
/-- strings.Contains: "Contains reports whether substr is within s.": IT RETURNS 'Lib.contains s substr'; the world is as it was. (LAID: no walk: one application.) -/
theorem Tryz.strings_Contains(s sub:ByteArray)(m:Int)(w:World)(hs:s.size<4294967281)(hm:w.cell? ⟨0,0,none⟩=some (.int .i64 m)) :
 Calls Tryz.prog 100 #[.string s,.string sub] w fun e w'=>e=.returned (.bool (Lib.contains s.data.toList sub.data.toList))∧w'=w:=Any.strings_Contains Tryz.lays144 s sub m w hs hm
def Tryz.lays138_ren:Go.Shelf.Ren:=⟨fun|138=>97|195=>123|218=>124|143=>125|219=>141|217=>140|225=>154|224=>155|267=>156|266=>153|314=>163|n=>n,fun|9=>9|3=>3|4=>4|5=>5|0=>0|46=>236|146=>243|51=>239|n=>n,fun|1=>0|n=>n⟩
theorem Tryz.lays138:Go.Proofs.Lays.n138 Tryz.prog Tryz.lays138_ren:={
 mixed:=by kernel_rfl
 f138:=Tryz.func97.trans (congrArg some (by kernel_rfl))
 f143:=Tryz.func125.trans (congrArg some (by kernel_rfl))
 f195:=Tryz.func123.trans (congrArg some (by kernel_rfl))
 f217:=Tryz.func140.trans (congrArg some (by kernel_rfl))
 f218:=Tryz.func124.trans (congrArg some (by kernel_rfl))
 f219:=Tryz.func141.trans (congrArg some (by kernel_rfl))
 f224:=Tryz.func155.trans (congrArg some (by kernel_rfl))
 f225:=Tryz.func154.trans (congrArg some (by kernel_rfl))
 f266:=Tryz.func153.trans (congrArg some (by kernel_rfl))
 f267:=Tryz.func156.trans (congrArg some (by kernel_rfl))
 f314:=Tryz.func163.trans (congrArg some (by kernel_rfl))
 t0:=Tryz.underlying0
 a0:=Tryz.isAgg0
 z0:=Tryz.sizeOf0
 v0:=Tryz.zeroValue0
 t3:=Tryz.underlying3
 a3:=Tryz.isAgg3
 z3:=Tryz.sizeOf3
 v3:=Tryz.zeroValue3
 t4:=Tryz.underlying4
 a4:=Tryz.isAgg4
 z4:=Tryz.sizeOf4
 v4:=Tryz.zeroValue4
 t5:=Tryz.underlying5
 a5:=Tryz.isAgg5
 z5:=Tryz.sizeOf5
 v5:=Tryz.zeroValue5
 t9:=Tryz.underlying9
 a9:=Tryz.isAgg9
 z9:=Tryz.sizeOf9
 v9:=Tryz.zeroValue9
 t46:=Tryz.underlying236
 a46:=Tryz.isAgg236
 z46:=Tryz.sizeOf236
 v46:=Tryz.zeroValue236
 t51:=Tryz.underlying239
 a51:=Tryz.isAgg239
 z51:=Tryz.sizeOf239
 v51:=Tryz.zeroValue239
 t146:=Tryz.underlying243
 a146:=Tryz.isAgg243
 z146:=Tryz.sizeOf243
 v146:=Tryz.zeroValue243
 g1:=by kernel_rfl }
open Go.RowKit Go.Lib in
/-- strings.Count AT A substr OF ONE BYTE ('hp'): "Count counts the number of non-overlapping instances of substr in s.": IT RETURNS 'Lib.countByte s (that byte)'; the world is as it was. ✋ NO CONTRACT HERE YET at an empty substr (utf8.RuneCountInString) or at a longer one (a loop over strings.Index). (LAID: no walk: one application.) -/
theorem Tryz.strings_Count_one(s:ByteArray)(c:UInt8)(w:World) :
 Calls Tryz.prog 97 #[.string s,.string ⟨#[c]⟩] w fun e w'=>e=.returned (.int .i64 (Lib.countByte s.data.toList c))∧w'=w:=Any.strings_Count_one Tryz.lays138 s c w
def Tryz.laysM144_ren:Go.Shelf.Ren:=⟨fun|144=>100|143=>125|219=>141|217=>140|225=>154|224=>155|267=>156|266=>153|314=>163|n=>n,fun|9=>9|4=>4|3=>3|5=>5|46=>236|146=>243|51=>239|n=>n,fun|1=>0|n=>n⟩
theorem Tryz.laysM144:Go.Proofs.LaysM.n144 Tryz.prog Tryz.laysM144_ren:={
 mixed:=by kernel_rfl
 f143:=Tryz.func125.trans (congrArg some (by kernel_rfl))
 f144:=Tryz.func100.trans (congrArg some (by kernel_rfl))
 f217:=Tryz.func140.trans (congrArg some (by kernel_rfl))
 f219:=Tryz.func141.trans (congrArg some (by kernel_rfl))
 f224:=Tryz.func155.trans (congrArg some (by kernel_rfl))
 f225:=Tryz.func154.trans (congrArg some (by kernel_rfl))
 f266:=Tryz.func153.trans (congrArg some (by kernel_rfl))
 f267:=Tryz.func156.trans (congrArg some (by kernel_rfl))
 f314:=Tryz.func163.trans (congrArg some (by kernel_rfl))
 t3:=Tryz.underlying3
 a3:=Tryz.isAgg3
 z3:=Tryz.sizeOf3
 v3:=Tryz.zeroValue3
 t4:=Tryz.underlying4
 a4:=Tryz.isAgg4
 z4:=Tryz.sizeOf4
 v4:=Tryz.zeroValue4
 t5:=Tryz.underlying5
 a5:=Tryz.isAgg5
 z5:=Tryz.sizeOf5
 v5:=Tryz.zeroValue5
 t9:=Tryz.underlying9
 a9:=Tryz.isAgg9
 z9:=Tryz.sizeOf9
 v9:=Tryz.zeroValue9
 t46:=Tryz.underlying236
 a46:=Tryz.isAgg236
 z46:=Tryz.sizeOf236
 v46:=Tryz.zeroValue236
 t51:=Tryz.underlying239
 a51:=Tryz.isAgg239
 z51:=Tryz.sizeOf239
 v51:=Tryz.zeroValue239
 t146:=Tryz.underlying243
 a146:=Tryz.isAgg243
 z146:=Tryz.sizeOf243
 v146:=Tryz.zeroValue243
 g1:=by kernel_rfl
 i3:=by kernel_rfl
 i4:=by kernel_rfl
 i5:=by kernel_rfl
 i9:=by kernel_rfl
 i46:=by kernel_rfl
 i51:=by kernel_rfl
 i146:=by kernel_rfl
 m1:=by kernel_rfl
 s1_3:=fun w h=>Go.Proofs.cell_of_shapedOpen_int (zero:=#[.int .i64 0]) (t:=3) h (of_decide_eq_true (by kernel_rfl)) (by kernel_rfl) rfl (by kernel_rfl) (by kernel_rfl) Tryz.underlying3 }
end Go.Proofs
namespace Go.Pe
open Go Go.Am Go.RowKit
theorem Nf0(st:St)(k:Int)(s:List UInt8)(n l a e:Int):NaY st (Nfm k s n l a e)=some (Nfm k s n l a e):=rfl
theorem Ndb(st:St)(e l:Int):NaY st (Ncc e l)=some (Ncc e l):=rfl
theorem NfZ(st:St)(text:List UInt8)(at0:Nat):NaY st (Neb text at0)=some (Neb text at0):=by
 unfold Neb;simp only[]
 repeat' split
 all_goals first|exact Nf0 _ _ _ _ _ _ _|exact Ndb _ _ _
theorem Npr{M:Nat}{text:List UInt8}{at0:Nat}(hM:text.length<M)(hlen:text.length≤16384)(hat:at0≤text.length) :
 evP cfgW (M+60+1) 60 [.s text,.i .i64 at0]=some (Neb text at0):=by
 obtain⟨r,st',h1,h2⟩:=Nps hM hlen hat;have hx:cfgW.ext 60=none:=by kernel_rfl
 unfold evP Nai;simp only[hx];unfold Nhl;have h1':NaK cfgW (M+60+1) 60 (NaS [.s text,.i .i64 at0]).1 (NaS [.s text,.i .i64 at0]).2=some (r,st'):=h1;rw[h1',h2];exact NfZ st' text at0
end Go.Pe
set_option maxHeartbeats 4000000
set_option maxRecDepth 100000
namespace Go.Pe
open Go Go.Am Go.RowKit
section
variable {Gl:Gmap}{fuel:Nat}{text:List UInt8}{at0 m:Int}
theorem Nki(hlen:16384<text.length) :
 ∃ r st',NaK cfgW (fuel+1) 60 [.s text,.i .i64 at0] { sto:=.leaf,cnt:=1 }=some (r,st')∧r=Ncc 3 0:=by
 refine NaB NlR ?_;delta m60 Qa Qr Qg Ql Qt Qn Qs Qk Qm Qh Qi Qw;have h1:((text.length:Nat):Int) > Int.ofNat 16384:=by show((text.length:Nat):Int) > 16384;omega
 have ez:Nbz zW []=some zW:=rfl;have ef:Nbz [.i .i64 (.ofNat 0),.i .i64 (.ofNat 0)] [(0,1,.i .i64 (.ofNat 3))]=some [.i .i64 (.ofNat 3),.i .i64 (.ofNat 0)]:=rfl;have ez':Nbz [.i .u8 (.ofNat 0),.s [],.i .i64 (.ofNat 0),.i .i64 (.ofNat 0),.i .i64 (.ofNat 0),.i .i64 (.ofNat 0)] []=some zW:=rfl;simp only[Nao,↓Z0,↓Xp,↓Xt,Xq,Xc,Nae,Naa,rA,rB,rC,rD,reduceIte,h1,ez',ef];refine Nd1 ?_ ?_ (w:=zW) (w0:=zW) (f:=[.i .i64 (.ofNat 3),.i .i64 (.ofNat 0)]) (f0:=[.i .i64 (.ofNat 0),.i .i64 (.ofNat 0)]) ?_ ?_ rfl rfl rfl rfl rfl rfl rfl
 ·simp[Yad]
 ·simp[Yad]
 ·rw[St.get_cnt,Yae Zah,Yaf];rfl
 ·rw[St.get_cnt,Yaf]
theorem Ni6(hlen:text.length≤16384)(hat:at0<0) :
 ∃ r st',NaK cfgW (fuel+1) 60 [.s text,.i .i64 at0] { sto:=.leaf,cnt:=1 }=some (r,st')∧r=Ncc 2 0:=by
 refine NaB NlR ?_;delta m60 Qa Qr Qg Ql Qt Qn Qs Qk Qm Qh Qi Qw;have h1:¬ (((text.length:Nat):Int) > Int.ofNat 16384):=by show ¬ (((text.length:Nat):Int) > 16384);omega
 have h2:at0<Int.ofNat 0:=hat;have ez:Nbz zW []=some zW:=rfl;have ef:Nbz [.i .i64 (.ofNat 0),.i .i64 (.ofNat 0)] [(0,1,.i .i64 (.ofNat 2))]=some [.i .i64 (.ofNat 2),.i .i64 (.ofNat 0)]:=rfl;have ez':Nbz [.i .u8 (.ofNat 0),.s [],.i .i64 (.ofNat 0),.i .i64 (.ofNat 0),.i .i64 (.ofNat 0),.i .i64 (.ofNat 0)] []=some zW:=rfl;simp only[Nao,↓Z0,↓Xp,↓Xt,Xq,Xc,Nae,Naa,rA,rB,rC,rD,reduceIte,h1,h2,ez',ef];refine Nd1 ?_ ?_ (w:=zW) (w0:=zW) (f:=[.i .i64 (.ofNat 2),.i .i64 (.ofNat 0)]) (f0:=[.i .i64 (.ofNat 0),.i .i64 (.ofNat 0)]) ?_ ?_ rfl rfl rfl rfl rfl rfl rfl
 ·simp[Yad]
 ·simp[Yad]
 ·rw[St.get_cnt,Yae Zah,Yaf];rfl
 ·rw[St.get_cnt,Yaf]
theorem Ni5(hlen:text.length≤16384)(hat:(text.length:Int)<at0) :
 ∃ r st',NaK cfgW (fuel+1) 60 [.s text,.i .i64 at0] { sto:=.leaf,cnt:=1 }=some (r,st')∧r=Ncc 2 0:=by
 refine NaB NlR ?_;delta m60 Qa Qr Qg Ql Qt Qn Qs Qk Qm Qh Qi Qw;have h1:¬ (((text.length:Nat):Int) > Int.ofNat 16384):=by show ¬ (((text.length:Nat):Int) > 16384);omega
 have h2:¬ (at0<Int.ofNat 0):=by show ¬ (at0<0);omega
 have h3:at0 > ((text.length:Nat):Int):=hat;have ez:Nbz zW []=some zW:=rfl;have ef:Nbz [.i .i64 (.ofNat 0),.i .i64 (.ofNat 0)] [(0,1,.i .i64 (.ofNat 2))]=some [.i .i64 (.ofNat 2),.i .i64 (.ofNat 0)]:=rfl;have ez':Nbz [.i .u8 (.ofNat 0),.s [],.i .i64 (.ofNat 0),.i .i64 (.ofNat 0),.i .i64 (.ofNat 0),.i .i64 (.ofNat 0)] []=some zW:=rfl;simp only[Nao,↓Z0,↓Xp,↓Xt,Xq,Xc,Nae,Naa,rA,rB,rC,rD,reduceIte,h1,h2,h3,ez',ef];refine Nd1 ?_ ?_ (w:=zW) (w0:=zW) (f:=[.i .i64 (.ofNat 2),.i .i64 (.ofNat 0)]) (f0:=[.i .i64 (.ofNat 0),.i .i64 (.ofNat 0)]) ?_ ?_ rfl rfl rfl rfl rfl rfl rfl
 ·simp[Yad]
 ·simp[Yad]
 ·rw[St.get_cnt,Yae Zah,Yaf];rfl
 ·rw[St.get_cnt,Yaf]
def gNext:List PV→Option PV
 |[.s text,.i .i64 at0]=>some (if 16384<text.length then Ncc 3 0 else if at0<0∨(text.length:Int)<at0 then Ncc 2 0 else Neb text at0.toNat)
 |_=>none
theorem Nl5{args:List PV}{r:PV}(h:gNext args=some r):∃ fuel,evP cfgW fuel 60 args=some r:=by
 have hx:cfgW.ext 60=none:=by kernel_rfl
 unfold gNext at h;split at h
 ·rename_i text at0;simp only[Sj]at h;have fin:∀ (fuel:Nat) (e l:Int),(∃ r st',NaK cfgW (fuel+1) 60 [.s text,.i .i64 at0] { sto:=.leaf,cnt:=1 }=some (r,st')∧r=Ncc e l)→evP cfgW (fuel+1) 60 [.s text,.i .i64 at0]=some (Ncc e l):=by
   rintro fuel e l ⟨r,st',h1,h2⟩;unfold evP Nai;simp only[hx];unfold Nhl;have h1':NaK cfgW (fuel+1) 60 (NaS [.s text,.i .i64 at0]).1 (NaS [.s text,.i .i64 at0]).2=some (r,st'):=h1;rw[h1',h2];exact Ndb st' e l
  split at h
  ·rename_i hl;rw[←h];exact⟨0+1,fin 0 3 0 (Nki hl)⟩
  ·rename_i hl;split at h
   ·rename_i ha;rw[←h];rcases ha with ha|ha
    ·exact⟨0+1,fin 0 2 0 (Ni6 Zaa ha)⟩
    ·exact⟨0+1,fin 0 2 0 (Ni5 Zaa ha)⟩
   ·rename_i ha;rw[←h];refine⟨text.length+1+60+1,?_⟩;have:=Npr (M:=text.length+1) (text:=text) (at0:=at0.toNat) Zaa Zaa Zaa;rwa[show((at0.toNat:Nat):Int)=at0 by omega]at this
 ·simp at h
theorem NgY{P:Program}(hc:CfgOK P Gl cfgW):NbH P Gl 60 gNext:=by
 intro args r h;obtain⟨fuel,hf⟩:=Nl5 h;exact NjL hc fuel _ args r hf
theorem Nh0(hg:Gl 0 0=some (.int .i64 m)):CfgOK Go.Proofs.Tryz.prog Gl cfgW:=by
 refine NfX Ngp ?_;intro f g h;unfold NrS at h;split at h
 ·rename_i e;simp only[Sj]at h;subst h;subst e;exact Nhs hg fun s sub m w hs hm=>Go.Proofs.Tryz.strings_Contains s sub m w hs hm
 ·split at h
  ·rename_i e;simp only[Sj]at h;subst h;subst e;exact Nlp fun s c w=>Go.Proofs.Tryz.strings_Count_one s c w
  ·split at h
   ·rename_i e;simp only[Sj]at h;subst h;subst e;exact NgM fun s c w=>Go.Proofs.Tryz.strings_IndexByte s c w
   ·simp at h
def Nnz:FuncId→Option (List PV→Option PV):=fun f=>if f=60 then some gNext else none
theorem NlA(hg:Gl 0 0=some (.int .i64 m)):∀ f g,Nnz f=some g→NbH Go.Proofs.Tryz.prog Gl f g:=by
 intro f g h;unfold Nnz at h;split at h
 ·rename_i e;simp only[Sj]at h;subst h;subst e;exact NgY (Nh0 hg)
 ·cases h
noncomputable def cfgNx:Cfg:={ fn:=fun f=>Ndt f tblL,ext:=Nnz }
theorem NfW(hg:Gl 0 0=some (.int .i64 m)):CfgOK Go.Proofs.Tryz.prog Gl cfgNx:=NfX Ngp (NlA hg)
theorem NhH{w:World}(h:w.ShapedOpen Go.Proofs.Tryz.prog):∃ m,w.cell? ⟨0,0,none⟩=some (.int .i64 m):=Go.Proofs.Tryz.laysM144.s1_3 w h
end
end Go.Pe
set_option maxHeartbeats 4000000
namespace Go.Pe
open Go Go.Am Go.RowKit
section
variable {cfg:Cfg}{fuel o:Nat}{st:St}
structure CfgC(cfg:Cfg):Prop where
 nx:cfg.ext 60=some gNext
 fn:∀ f m,Ndt f tblL=some m→cfg.fn f=some m
theorem NaE{f:FuncId}(hx:cfg.ext f=none){args:List PV}{r:PV}(ho:NaS args=(args,{ sto:=.leaf,cnt:=1 }))(hc:∀ st,NaY st r=some r)(h:∃ r' st',NaK cfg fuel f args { sto:=.leaf,cnt:=1 }=some (r',st')∧r'=r):Nai cfg (NaK cfg fuel) f args=some r:=by
 obtain⟨r',st',h1,h2⟩:=h;exact NeF hx ho ⟨r',st',h1,by rw[h2];exact hc st'⟩
theorem Nkh(text:List UInt8)(at0:Int):∃ k s n l a e f g,gNext [.s text,.i .i64 at0]=some (.tup [.agg [.i .u8 k,.s s,.i .i64 n,.i .i64 l,.i .i64 a,.i .i64 e],.agg [.i .i64 f,.i .i64 g]]):=by
 have hw:∀ k s n l a e,∃ k' s' n' l' a' e' f g,some (Nfm k s n l a e)=some (.tup [.agg [.i .u8 k',.s s',.i .i64 n',.i .i64 l',.i .i64 a',.i .i64 e'],.agg [.i .i64 f,.i .i64 g]]):=fun k s n l a e=>⟨k,s,n,l,a,e,0,0,rfl⟩;have hf:∀ x y,∃ k' s' n' l' a' e' f g,some (Ncc x y)=some (.tup [.agg [.i .u8 k',.s s',.i .i64 n',.i .i64 l',.i .i64 a',.i .i64 e'],.agg [.i .i64 f,.i .i64 g]]):=fun x y=>⟨0,[],0,0,0,0,x,y,rfl⟩;unfold gNext Neb;simp only[]
 repeat' split
 all_goals first|exact hw _ _ _ _ _ _|exact hf _ _
theorem Nk5{callE:CallE}{n:Nat}{a b:MCode}{x:Now}{Q:MExit→Now→Prop}(h:∀ K:Now→Prop,(∀ x',WC cfg callE n b x' Q→K x')→WC cfg callE n a x (NhU Q K)):WC cfg callE n (.seq a b) x Q:=by
 rw[Z0];exact h _ fun _ h=>h
def Nb1(s:List UInt8):Bool:=match gNext [.s s,.i .i64 ((0:Nat):Int)]with
 |some (.tup [.agg [.i _ k,_,_,_,.i _ p,.i _ e],.agg [.i _ f,_]])=>f==0&&(k==2&&(IntKind.i64.wrap (e - p)==(s.length:Int)))
 |_=>false
theorem Nob(hf:cfg.fn 69=some m69)(hn:cfg.ext 60=some gNext){s:List UInt8} :
 ∃ r st',NaK cfg (fuel+1) 69 [.s s] st=some (r,st')∧r=.b (Nb1 s):=by
 refine NaB hf ?_;delta m69 Qa Qr Qg Ql Qt Qn Qs Qk Qm Qh Qi Qu Qv;obtain⟨k,t,n,l,p,e,f,g,hg⟩:=Nkh s ((0:Nat):Int);have hN:Nb1 s=(f==0&&(k==2&&(IntKind.i64.wrap (e - p)==(s.length:Int)))):=by
  unfold Nb1;rw[hg]
 rw[hN];have hc:∀ (st:St) (key:Nat),Naq (Nai cfg (NaK cfg fuel) 60) false st key [.s s,.i .i64 ((0:Nat):Int)]=some (.tup [.agg [.i .u8 k,.s t,.i .i64 n,.i .i64 l,.i .i64 p,.i .i64 e],.agg [.i .i64 f,.i .i64 g]],st):=fun st key =>
  NaG rfl (by rw[Nbp hn];exact hg) rfl
 by_cases h1:f=0
 ·subst h1;by_cases h2:k=2
  ·subst h2;obtain⟨q,hq⟩:∃ q,IntKind.i64.wrap (e - p)=q:=⟨_,rfl⟩;rw[hq];simp(disch:=first|omega|rfl|assumption)only[Nao,↓Z0,↓Xp,↓Xt,Xq,Xc,Nae,Naa,rA,rB,rC,rD,reduceIte,Xm,rE,Xa,Xn,unP,Nab,Nac,Nad,hc,hq];refine⟨nofun,_,rfl,?_⟩;simp only[NaF,↓Z0,↓Xp,↓Xt,Xq,Xc,Nae,Naa,rA,rB,rC,rD,reduceIte]
  ·simp(disch:=first|omega|rfl|assumption)only[Nao,↓Z0,↓Xp,↓Xt,Xq,Xc,Nae,Naa,rA,rB,rC,rD,reduceIte,Xm,rE,Xa,Xn,unP,Nab,Nac,Nad,hc];refine⟨nofun,_,rfl,?_⟩;simp only[NaF,↓Z0,↓Xp,↓Xt,Xq,Xc,Nae,Naa,rA,rB,rC,rD,reduceIte];rfl
 ·simp(disch:=first|omega|rfl|assumption)only[Nao,↓Z0,↓Xp,↓Xt,Xq,Xc,Nae,Naa,rA,rB,rC,rD,reduceIte,Xm,rE,Xa,Xn,unP,Nab,Nac,Nad,hc];refine⟨nofun,_,rfl,?_⟩;simp only[NaF,↓Z0,↓Xp,↓Xt,Xq,Xc,Nae,Naa,rA,rB,rC,rD,reduceIte];rfl
theorem Nel(hc:CfgC cfg)(hx:cfg.ext 69=none)(hfu:1≤fuel)(s:List UInt8):Nai cfg (NaK cfg fuel) 69 [.s s]=some (.b (Nb1 s)):=by
 obtain⟨n,rfl⟩:∃ n,fuel=n+1:=⟨fuel - 1,by omega⟩;exact NaE hx rfl (fun _=>rfl) (Nob (hc.fn _ _ (by kernel_rfl)) hc.nx)
def argsN(o:Nat):Nat:=if o=4∨o=17∨o=20∨o=23 then 1 else 0
def Ni0(o:Nat):Bool:=o==3||o==4||o==11||o==21||o==22
def NgB(k:Nat):Bool:=k==3||k==5||k==8||k==9
def ofN(o:Nat):Nat:=if o≤4 then 1 else if o≤8 then 2 else if o≤11 then 3 else if o≤14 then 4 else if o=15 then 5 else if o=16 then 6 else if o≤19 then 7 else if o≤21 then 8 else 9
theorem Nnc(hf:cfg.fn 126=some m126) :
 ∃ r st',NaK cfg (fuel+1) 126 [.i .u8 (o:Int)] st=some (r,st')∧r=.i .i64 (argsN o:Int):=by
 refine NaB hf ?_;delta m126 Ql Qt Qm Qi Qo argsN;by_cases h1:o=4<;>by_cases h2:o=17<;>by_cases h3:o=20<;>by_cases h4:o=23<;>first|omega|skip
 all_goals
  simp(disch:=first|omega|rfl|assumption)only[Nao,↓Z0,↓Xp,↓Xt,Xq,Xc,Nae,Naa,rA,rB,rC,rD,reduceIte,Xm,rE,Xa,Xn,unP,Nab,Nac,Nad];refine⟨nofun,_,rfl,?_⟩;simp only[NaF,↓Z0,↓Xp,↓Xt,Xq,Xc,Nae,Naa,rA,rB,rC,rD,reduceIte];simp[h1,h2,h3,h4]
theorem NnU(hf:cfg.fn 127=some m127) :
 ∃ r st',NaK cfg (fuel+1) 127 [.i .u8 (o:Int)] st=some (r,st')∧r=.b (Ni0 o):=by
 refine NaB hf ?_;delta m127 Ql Qt Qm Qi Ni0;by_cases h1:o=3<;>by_cases h2:o=4<;>by_cases h3:o=11<;>by_cases h4:o=21<;>by_cases h5:o=22<;>first|omega|skip
 all_goals
  simp(disch:=first|omega|rfl|assumption)only[Nao,↓Z0,↓Xp,↓Xt,Xq,Xc,Nae,Naa,rA,rB,rC,rD,reduceIte,Xm,rE,Xa,Xn,unP,Nab,Nac,Nad];refine⟨nofun,_,rfl,?_⟩;simp only[NaF,↓Z0,↓Xp,↓Xt,Xq,Xc,Nae,Naa,rA,rB,rC,rD,reduceIte];simp[h1,h2,h3,h4,h5]
theorem Nlo(hf:cfg.fn 63=some m63) :
 ∃ r st',NaK cfg (fuel+1) 63 [.i .u8 (o:Int)] st=some (r,st')∧r=.b (NgB o):=by
 refine NaB hf ?_;delta m63 Ql Qt Qm Qi NgB;by_cases h1:o=3<;>by_cases h2:o=5<;>by_cases h3:o=8<;>by_cases h4:o=9<;>first|omega|skip
 all_goals
  simp(disch:=first|omega|rfl|assumption)only[Nao,↓Z0,↓Xp,↓Xt,Xq,Xc,Nae,Naa,rA,rB,rC,rD,reduceIte,Xm,rE,Xa,Xn,unP,Nab,Nac,Nad];refine⟨nofun,_,rfl,?_⟩;simp only[NaF,↓Z0,↓Xp,↓Xt,Xq,Xc,Nae,Naa,rA,rB,rC,rD,reduceIte];simp[h1,h2,h3,h4]
theorem Nrk(hf:cfg.fn 132=some m132) :
 ∃ r st',NaK cfg (fuel+1) 132 [.i .u8 (o:Int)] st=some (r,st')∧r=.i .u8 (ofN o:Int):=by
 refine NaB hf ?_;delta m132 Qa Ql Qt Qm Qi ofN;by_cases h1:o≤4
 ·simp(disch:=first|omega|rfl|assumption)only[Nao,↓Z0,↓Xp,↓Xt,Xq,Xc,Nae,Naa,rA,rB,rC,rD,reduceIte,Xm,rE,Xa,Xn,unP,Nab,Nac,Nad];refine⟨nofun,_,rfl,?_⟩;simp only[NaF,↓Z0,↓Xp,↓Xt,Xq,Xc,Nae,Naa,rA,rB,rC,rD,reduceIte]
  all_goals simp[h1]
 by_cases h2:o≤8
 ·simp(disch:=first|omega|rfl|assumption)only[Nao,↓Z0,↓Xp,↓Xt,Xq,Xc,Nae,Naa,rA,rB,rC,rD,reduceIte,Xm,rE,Xa,Xn,unP,Nab,Nac,Nad];refine⟨nofun,_,rfl,?_⟩;simp only[NaF,↓Z0,↓Xp,↓Xt,Xq,Xc,Nae,Naa,rA,rB,rC,rD,reduceIte]
  all_goals simp[h1,h2]
 by_cases h3:o≤11
 ·simp(disch:=first|omega|rfl|assumption)only[Nao,↓Z0,↓Xp,↓Xt,Xq,Xc,Nae,Naa,rA,rB,rC,rD,reduceIte,Xm,rE,Xa,Xn,unP,Nab,Nac,Nad];refine⟨nofun,_,rfl,?_⟩;simp only[NaF,↓Z0,↓Xp,↓Xt,Xq,Xc,Nae,Naa,rA,rB,rC,rD,reduceIte]
  all_goals simp[h1,h2,h3]
 by_cases h4:o≤14
 ·simp(disch:=first|omega|rfl|assumption)only[Nao,↓Z0,↓Xp,↓Xt,Xq,Xc,Nae,Naa,rA,rB,rC,rD,reduceIte,Xm,rE,Xa,Xn,unP,Nab,Nac,Nad];refine⟨nofun,_,rfl,?_⟩;simp only[NaF,↓Z0,↓Xp,↓Xt,Xq,Xc,Nae,Naa,rA,rB,rC,rD,reduceIte]
  all_goals simp[h1,h2,h3,h4]
 by_cases h5:o=15
 ·simp(disch:=first|omega|rfl|assumption)only[Nao,↓Z0,↓Xp,↓Xt,Xq,Xc,Nae,Naa,rA,rB,rC,rD,reduceIte,Xm,rE,Xa,Xn,unP,Nab,Nac,Nad];refine⟨nofun,_,rfl,?_⟩;simp only[NaF,↓Z0,↓Xp,↓Xt,Xq,Xc,Nae,Naa,rA,rB,rC,rD,reduceIte]
  all_goals simp[h5]
 by_cases h6:o=16
 ·simp(disch:=first|omega|rfl|assumption)only[Nao,↓Z0,↓Xp,↓Xt,Xq,Xc,Nae,Naa,rA,rB,rC,rD,reduceIte,Xm,rE,Xa,Xn,unP,Nab,Nac,Nad];refine⟨nofun,_,rfl,?_⟩;simp only[NaF,↓Z0,↓Xp,↓Xt,Xq,Xc,Nae,Naa,rA,rB,rC,rD,reduceIte]
  all_goals simp[h6]
 by_cases h7:o≤19
 ·simp(disch:=first|omega|rfl|assumption)only[Nao,↓Z0,↓Xp,↓Xt,Xq,Xc,Nae,Naa,rA,rB,rC,rD,reduceIte,Xm,rE,Xa,Xn,unP,Nab,Nac,Nad];refine⟨nofun,_,rfl,?_⟩;simp only[NaF,↓Z0,↓Xp,↓Xt,Xq,Xc,Nae,Naa,rA,rB,rC,rD,reduceIte]
  all_goals simp[h1,h2,h3,h4,h5,h6,h7]
 by_cases h8:o≤21
 ·simp(disch:=first|omega|rfl|assumption)only[Nao,↓Z0,↓Xp,↓Xt,Xq,Xc,Nae,Naa,rA,rB,rC,rD,reduceIte,Xm,rE,Xa,Xn,unP,Nab,Nac,Nad];refine⟨nofun,_,rfl,?_⟩;simp only[NaF,↓Z0,↓Xp,↓Xt,Xq,Xc,Nae,Naa,rA,rB,rC,rD,reduceIte]
  all_goals simp[h1,h2,h3,h4,h5,h6,h7,h8]
 ·simp(disch:=first|omega|rfl|assumption)only[Nao,↓Z0,↓Xp,↓Xt,Xq,Xc,Nae,Naa,rA,rB,rC,rD,reduceIte,Xm,rE,Xa,Xn,unP,Nab,Nac,Nad];refine⟨nofun,_,rfl,?_⟩;simp only[NaF,↓Z0,↓Xp,↓Xt,Xq,Xc,Nae,Naa,rA,rB,rC,rD,reduceIte]
  all_goals simp[h1,h2,h3,h4,h5,h6,h7,h8]
def txC(l:List (List UInt8)):List PV:=l.map .s
theorem Nn4{l:List (List UInt8)}{i:Nat}(h:i<l.length):Nbh st 1 (.fptr ((txC l).drop i))=some [.s l[i]]:=by
 show cut? _ 0 1=_;unfold cut? txC;rw[if_pos (by rw[List.length_drop,List.length_map];omega),List.drop_zero,List.drop_eq_getElem_cons (by rw[List.length_map];exact h),List.getElem_map];rfl
def NlS(x:List UInt8):List (List UInt8)→Nat→Int
 |[],_=>-1
 |a::r,i=>if x=a then(i:Int)else NlS x r (i+1)
theorem Npk(hf:cfg.fn 62=some m62){l:List (List UInt8)}{x:List UInt8}(hl:l.length≤1000)(hfu:l.length+2≤fuel) :
 ∃ r st',NaK cfg (fuel+1) 62 [.fsl l.length (txC l),.s x] st=some (r,st')∧r=.i .i64 (NlS x l 0):=by
 refine NaB hf ?_;delta m62 Qa Qr Ql Qt Qk Qm Qi Qo;have hlen:(txC l).length=l.length:=List.length_map _;simp only[Nao];(try rw[Z0]);(try simp(disch:=first|omega|rfl|assumption)only[↓Yaa,Yab,Nae,Naa,rA,rB,rC,rD,reduceIte,unP,rE]);refine Nk5 fun K hK=>?_;rw[Z0];simp(disch:=first|omega|rfl|assumption)only[↓Yaa,Yac,Nae,Naa,rA,rB,rC,rD,reduceIte,unP,Xm,rE];refine Z9 (k:=l.length - 0) (fun d y=>∃ i:Nat,d=l.length - i∧i≤l.length∧NlS x (l.drop i) i=NlS x l 0∧y.env.get 0=.fsl l.length (txC l)∧y.env.get 1=.s x∧y.env.get 7=.i .i64 (l.length:Int)∧y.env.get 8=.i .i64 (i:Int)) ?_ ⟨0,rfl,by omega,rfl,rfl,rfl,rfl,rfl⟩ Zaa;rintro d ⟨env,⟨sto,c⟩⟩ ⟨i,rfl,hi,hx,g0,g1,g7,g8⟩;simp only at g0 g1 g7 g8;by_cases hlt:i<l.length
 ·have hld:=fun st=>Nn4 (st:=st) hlt;rw[List.drop_eq_getElem_cons hlt]at hx;rw[show NlS x (l[i]::l.drop (i+1)) i=if x=l[i]then(i:Int)else NlS x (l.drop (i+1)) (i+1)from rfl]at hx;by_cases he:x=l[i]
  ·rw[if_pos he]at hx;have hb:(x==l[i])=true:=(by simpa using he);simp(disch:=first|omega|rfl|assumption)only[↓Z0,↓Xp,↓Xt,Xq,Xc,Nae,Naa,rA,rB,rC,rD,reduceIte,Xm,rE,Xa,Xn,unP,Nab,Nac,Nad,g0,g1,g7,g8,hld,hlen,hb];refine⟨nofun,_,rfl,?_⟩;simp only[NaF,↓Z0,↓Xp,↓Xt,Xq,Xc,Nae,Naa,rA,rB,rC,rD,reduceIte];rw[hx]
  ·rw[if_neg he]at hx;have hb:(x==l[i])=false:=(by simpa using he);simp(disch:=first|omega|rfl|assumption)only[↓Z0,↓Xp,↓Xt,Xq,Xc,Nae,Naa,rA,rB,rC,rD,reduceIte,Xm,rE,Xa,Xn,unP,Nab,Nac,Nad,g0,g1,g7,g8,hld,hlen,hb];exact⟨l.length - (i+1),by omega,i+1,rfl,by omega,hx,rfl⟩
 ·simp(disch:=first|omega|rfl|assumption)only[↓Z0,↓Xp,↓Xt,Xq,Xc,Nae,Naa,rA,rB,rC,rD,reduceIte,Xm,rE,Xa,Xn,unP,Nab,Nac,Nad,g0,g1,g7,g8];refine hK _ ?_;rw[List.drop_of_length_le Zaa]at hx;simp(disch:=first|omega|rfl|assumption)only[↓Z0,↓Xp,↓Xt,Xq,Xc,Nae,Naa,rA,rB,rC,rD,reduceIte,Xm,rE,Xa,Xn,unP,Nab,Nac,Nad];refine⟨nofun,_,rfl,?_⟩;simp only[NaF,↓Z0,↓Xp,↓Xt,Xq,Xc,Nae,Naa,rA,rB,rC,rD,reduceIte];rw[←hx];rfl
end
end Go.Pe
