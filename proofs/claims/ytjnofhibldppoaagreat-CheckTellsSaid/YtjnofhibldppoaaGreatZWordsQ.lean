/-
 Words: a text that is too long, a place that there is not. No condition.
-/
import Derived.Test.YtjnofhibldppoaaGreatZWordsZ
set_option linter.unusedVariables false
set_option linter.unusedSimpArgs false
open Nat renaming reduceAdd → rB,reduceMul → rC,reduceLT → rD,reduceEqDiff → rE,reduceLeDiff → rF
namespace Go.Pe
open Go Go.Am Go.RowKit
theorem NfY(st:St)(k:Int)(s:List UInt8)(n l a e:Int):Na5 st (NcE k s n l a e)=some (NcE k s n l a e):=rfl
theorem Ndr(st:St)(e l:Int):Na5 st (NbD e l)=some (NbD e l):=rfl
theorem NfX(st:St)(text:List UInt8)(at0:Nat):Na5 st (Ndn text at0)=some (Ndn text at0):=by
 unfold Ndn;simp only[]
 repeat' split
 all_goals first|exact NfY _ _ _ _ _ _ _|exact Ndr _ _ _
theorem Nqb{M:Nat}{text:List UInt8}{at0:Nat}(hM:text.length<M)(hlen:text.length≤16384)(hat:at0≤text.length) :
 evP cfgW (M+60+1) 55 [.s text,.i .i64 at0]=some (Ndn text at0):=by
 obtain⟨r,st',h1,h2⟩:=Nqc hM hlen hat;have hx:cfgW.ext 55=none:=by kernel_rfl
 unfold evP Naj;simp only[hx];unfold NeK;have h1':NaC cfgW (M+60+1) 55 (NaH [.s text,.i .i64 at0]).1 (NaH [.s text,.i .i64 at0]).2=some (r,st'):=h1;rw[h1',h2];exact NfX st' text at0
end Go.Pe
set_option maxHeartbeats 4000000
set_option maxRecDepth 100000
namespace Go.Pe
open Go Go.Am Go.RowKit
section
variable {fuel:Nat}{text:List UInt8}{at0:Int}
theorem Nkv(hlen:16384<text.length) :
 ∃ r st',NaC cfgW (fuel+1) 55 [.s text,.i .i64 at0] { sto:=.leaf,cnt:=1 }=some (r,st')∧r=NbD 3 0:=by
 refine NaA Nl9 ?_;delta m55 Qa Qr Qg Ql Qt Qn Qs Qk Qm Qh Qi Qw;have h1:((text.length:Nat):Int) > Int.ofNat 16384:=by show((text.length:Nat):Int) > 16384;omega
 have ez:Nbu zW []=some zW:=rfl;have ef:Nbu [.i .i64 (.ofNat 0),.i .i64 (.ofNat 0)] [(0,1,.i .i64 (.ofNat 3))]=some [.i .i64 (.ofNat 3),.i .i64 (.ofNat 0)]:=rfl;have ez':Nbu [.i .u8 (.ofNat 0),.s [],.i .i64 (.ofNat 0),.i .i64 (.ofNat 0),.i .i64 (.ofNat 0),.i .i64 (.ofNat 0)] []=some zW:=rfl;simp only[Nai,↓Z0,↓Xp,↓Xt,Xq,Xc,Nae,Naa,rB,rC,rD,rE,reduceIte,h1,ez',ef];refine Nea ?_ ?_ (w:=zW) (w0:=zW) (f:=[.i .i64 (.ofNat 3),.i .i64 (.ofNat 0)]) (f0:=[.i .i64 (.ofNat 0),.i .i64 (.ofNat 0)]) ?_ ?_ rfl rfl rfl rfl rfl rfl rfl
 ·simp[Yad]
 ·simp[Yad]
 ·rw[St.get_cnt,Yae Zaj,Yaf];rfl
 ·rw[St.get_cnt,Yaf]
theorem Nji(hlen:text.length≤16384)(hat:at0<0) :
 ∃ r st',NaC cfgW (fuel+1) 55 [.s text,.i .i64 at0] { sto:=.leaf,cnt:=1 }=some (r,st')∧r=NbD 2 0:=by
 refine NaA Nl9 ?_;delta m55 Qa Qr Qg Ql Qt Qn Qs Qk Qm Qh Qi Qw;have h1:¬ (((text.length:Nat):Int) > Int.ofNat 16384):=by show ¬ (((text.length:Nat):Int) > 16384);omega
 have h2:at0<Int.ofNat 0:=hat;have ez:Nbu zW []=some zW:=rfl;have ef:Nbu [.i .i64 (.ofNat 0),.i .i64 (.ofNat 0)] [(0,1,.i .i64 (.ofNat 2))]=some [.i .i64 (.ofNat 2),.i .i64 (.ofNat 0)]:=rfl;have ez':Nbu [.i .u8 (.ofNat 0),.s [],.i .i64 (.ofNat 0),.i .i64 (.ofNat 0),.i .i64 (.ofNat 0),.i .i64 (.ofNat 0)] []=some zW:=rfl;simp only[Nai,↓Z0,↓Xp,↓Xt,Xq,Xc,Nae,Naa,rB,rC,rD,rE,reduceIte,h1,h2,ez',ef];refine Nea ?_ ?_ (w:=zW) (w0:=zW) (f:=[.i .i64 (.ofNat 2),.i .i64 (.ofNat 0)]) (f0:=[.i .i64 (.ofNat 0),.i .i64 (.ofNat 0)]) ?_ ?_ rfl rfl rfl rfl rfl rfl rfl
 ·simp[Yad]
 ·simp[Yad]
 ·rw[St.get_cnt,Yae Zaj,Yaf];rfl
 ·rw[St.get_cnt,Yaf]
theorem Njh(hlen:text.length≤16384)(hat:(text.length:Int)<at0) :
 ∃ r st',NaC cfgW (fuel+1) 55 [.s text,.i .i64 at0] { sto:=.leaf,cnt:=1 }=some (r,st')∧r=NbD 2 0:=by
 refine NaA Nl9 ?_;delta m55 Qa Qr Qg Ql Qt Qn Qs Qk Qm Qh Qi Qw;have h1:¬ (((text.length:Nat):Int) > Int.ofNat 16384):=by show ¬ (((text.length:Nat):Int) > 16384);omega
 have h2:¬ (at0<Int.ofNat 0):=by show ¬ (at0<0);omega
 have h3:at0 > ((text.length:Nat):Int):=hat;have ez:Nbu zW []=some zW:=rfl;have ef:Nbu [.i .i64 (.ofNat 0),.i .i64 (.ofNat 0)] [(0,1,.i .i64 (.ofNat 2))]=some [.i .i64 (.ofNat 2),.i .i64 (.ofNat 0)]:=rfl;have ez':Nbu [.i .u8 (.ofNat 0),.s [],.i .i64 (.ofNat 0),.i .i64 (.ofNat 0),.i .i64 (.ofNat 0),.i .i64 (.ofNat 0)] []=some zW:=rfl;simp only[Nai,↓Z0,↓Xp,↓Xt,Xq,Xc,Nae,Naa,rB,rC,rD,rE,reduceIte,h1,h2,h3,ez',ef];refine Nea ?_ ?_ (w:=zW) (w0:=zW) (f:=[.i .i64 (.ofNat 2),.i .i64 (.ofNat 0)]) (f0:=[.i .i64 (.ofNat 0),.i .i64 (.ofNat 0)]) ?_ ?_ rfl rfl rfl rfl rfl rfl rfl
 ·simp[Yad]
 ·simp[Yad]
 ·rw[St.get_cnt,Yae Zaj,Yaf];rfl
 ·rw[St.get_cnt,Yaf]
def gNext:List PV→Option PV
 |[.s text,.i .i64 at0]=>some (if 16384<text.length then NbD 3 0 else if at0<0∨(text.length:Int)<at0 then NbD 2 0 else Ndn text at0.toNat)
 |_=>none
theorem Nms{args:List PV}{r:PV}(h:gNext args=some r):∃ fuel,evP cfgW fuel 55 args=some r:=by
 have hx:cfgW.ext 55=none:=by kernel_rfl
 unfold gNext at h;split at h
 ·rename_i text at0;simp only[Sj]at h;have fin:∀ (fuel:Nat) (e l:Int),(∃ r st',NaC cfgW (fuel+1) 55 [.s text,.i .i64 at0] { sto:=.leaf,cnt:=1 }=some (r,st')∧r=NbD e l)→evP cfgW (fuel+1) 55 [.s text,.i .i64 at0]=some (NbD e l):=by
   rintro fuel e l ⟨r,st',h1,h2⟩;unfold evP Naj;simp only[hx];unfold NeK;have h1':NaC cfgW (fuel+1) 55 (NaH [.s text,.i .i64 at0]).1 (NaH [.s text,.i .i64 at0]).2=some (r,st'):=h1;rw[h1',h2];exact Ndr st' e l
  split at h
  ·rename_i hl;rw[←h];exact⟨0+1,fin 0 3 0 (Nkv hl)⟩
  ·rename_i hl;split at h
   ·rename_i ha;rw[←h];rcases ha with ha|ha
    ·exact⟨0+1,fin 0 2 0 (Nji Zaa ha)⟩
    ·exact⟨0+1,fin 0 2 0 (Njh Zaa ha)⟩
   ·rename_i ha;rw[←h];refine⟨text.length+1+60+1,?_⟩;have:=Nqb (M:=text.length+1) (text:=text) (at0:=at0.toNat) Zaa Zaa Zaa;rwa[show((at0.toNat:Nat):Int)=at0 by omega]at this
 ·simp at h
theorem Ng0{P:Program}{Gl:Gmap}(hc:CfgOK P Gl cfgW):NbC P Gl 55 gNext:=by
 intro args r h;obtain⟨fuel,hf⟩:=Nms h;exact Nj1 hc fuel _ args r hf
end
end Go.Pe
