/-
 Words: a text that is too long, a place that there is not. No condition.
-/
import Derived.Test.YtjnofhibldppoaaZWordsZ
set_option linter.unusedVariables false
set_option linter.unusedSimpArgs false
open Nat renaming reduceAdd → rA,reduceMul → rB,reduceLT → rC,reduceEqDiff → rD,reduceLeDiff → rE
namespace Go.Pe
open Go Go.Am Go.RowKit
theorem NeB(st:St)(k:Int)(s:List UInt8)(n l a e:Int):Nbg st (Nd4 k s n l a e)=some (Nd4 k s n l a e):=rfl
theorem Ncz(st:St)(e l:Int):Nbg st (NbJ e l)=some (NbJ e l):=rfl
theorem NeA(st:St)(text:List UInt8)(at0:Nat):Nbg st (Ndl text at0)=some (Ndl text at0):=by
 unfold Ndl;simp only[]
 repeat' split
 all_goals first|exact NeB _ _ _ _ _ _ _|exact Ncz _ _ _
theorem Nl5{M:Nat}{text:List UInt8}{at0:Nat}(hM:text.length<M)(hlen:text.length≤16384)(hat:at0≤text.length) :
 evP cfgW (M+60+1) 64 [.s text,.i .i64 at0]=some (Ndl text at0):=by
 obtain⟨r,st',h1,h2⟩:=Nl6 hM hlen hat;have hx:cfgW.ext 64=none:=by kernel_rfl
 unfold evP Nam;simp only[hx];unfold NfB;have h1':NaI cfgW (M+60+1) 64 (Naw [.s text,.i .i64 at0]).1 (Naw [.s text,.i .i64 at0]).2=some (r,st'):=h1;rw[h1',h2];exact NeA st' text at0
end Go.Pe
set_option maxHeartbeats 4000000
set_option maxRecDepth 100000
namespace Go.Pe
open Go Go.Am Go.RowKit
section
variable {fuel:Nat}{text:List UInt8}{at0:Int}
theorem NhY(hlen:16384<text.length) :
 ∃ r st',NaI cfgW (fuel+1) 64 [.s text,.i .i64 at0] { sto:=.leaf,cnt:=1 }=some (r,st')∧r=NbJ 3 0:=by
 refine Naz Ni7 ?_;delta m64 Qa Qr Qg Ql Qt Qn Qs Qk Qm Qh Qi Qw;have h1:((text.length:Nat):Int) > Int.ofNat 16384:=by show((text.length:Nat):Int) > 16384;omega
 have ez:Na7 zW []=some zW:=rfl;have ef:Na7 [.i .i64 (.ofNat 0),.i .i64 (.ofNat 0)] [(0,1,.i .i64 (.ofNat 3))]=some [.i .i64 (.ofNat 3),.i .i64 (.ofNat 0)]:=rfl;have ez':Na7 [.i .u8 (.ofNat 0),.s [],.i .i64 (.ofNat 0),.i .i64 (.ofNat 0),.i .i64 (.ofNat 0),.i .i64 (.ofNat 0)] []=some zW:=rfl;simp only[Naj,↓Z0,↓Xp,↓Xt,Xq,Xc,Nae,Naa,rA,rB,rC,rD,reduceIte,h1,ez',ef];refine Ndb ?_ ?_ (w:=zW) (w0:=zW) (f:=[.i .i64 (.ofNat 3),.i .i64 (.ofNat 0)]) (f0:=[.i .i64 (.ofNat 0),.i .i64 (.ofNat 0)]) ?_ ?_ rfl rfl rfl rfl rfl rfl rfl
 ·simp[Yad]
 ·simp[Yad]
 ·rw[St.get_cnt,Yae Zai,Yaf];rfl
 ·rw[St.get_cnt,Yaf]
theorem Ng0(hlen:text.length≤16384)(hat:at0<0) :
 ∃ r st',NaI cfgW (fuel+1) 64 [.s text,.i .i64 at0] { sto:=.leaf,cnt:=1 }=some (r,st')∧r=NbJ 2 0:=by
 refine Naz Ni7 ?_;delta m64 Qa Qr Qg Ql Qt Qn Qs Qk Qm Qh Qi Qw;have h1:¬ (((text.length:Nat):Int) > Int.ofNat 16384):=by show ¬ (((text.length:Nat):Int) > 16384);omega
 have h2:at0<Int.ofNat 0:=hat;have ez:Na7 zW []=some zW:=rfl;have ef:Na7 [.i .i64 (.ofNat 0),.i .i64 (.ofNat 0)] [(0,1,.i .i64 (.ofNat 2))]=some [.i .i64 (.ofNat 2),.i .i64 (.ofNat 0)]:=rfl;have ez':Na7 [.i .u8 (.ofNat 0),.s [],.i .i64 (.ofNat 0),.i .i64 (.ofNat 0),.i .i64 (.ofNat 0),.i .i64 (.ofNat 0)] []=some zW:=rfl;simp only[Naj,↓Z0,↓Xp,↓Xt,Xq,Xc,Nae,Naa,rA,rB,rC,rD,reduceIte,h1,h2,ez',ef];refine Ndb ?_ ?_ (w:=zW) (w0:=zW) (f:=[.i .i64 (.ofNat 2),.i .i64 (.ofNat 0)]) (f0:=[.i .i64 (.ofNat 0),.i .i64 (.ofNat 0)]) ?_ ?_ rfl rfl rfl rfl rfl rfl rfl
 ·simp[Yad]
 ·simp[Yad]
 ·rw[St.get_cnt,Yae Zai,Yaf];rfl
 ·rw[St.get_cnt,Yaf]
theorem NgZ(hlen:text.length≤16384)(hat:(text.length:Int)<at0) :
 ∃ r st',NaI cfgW (fuel+1) 64 [.s text,.i .i64 at0] { sto:=.leaf,cnt:=1 }=some (r,st')∧r=NbJ 2 0:=by
 refine Naz Ni7 ?_;delta m64 Qa Qr Qg Ql Qt Qn Qs Qk Qm Qh Qi Qw;have h1:¬ (((text.length:Nat):Int) > Int.ofNat 16384):=by show ¬ (((text.length:Nat):Int) > 16384);omega
 have h2:¬ (at0<Int.ofNat 0):=by show ¬ (at0<0);omega
 have h3:at0 > ((text.length:Nat):Int):=hat;have ez:Na7 zW []=some zW:=rfl;have ef:Na7 [.i .i64 (.ofNat 0),.i .i64 (.ofNat 0)] [(0,1,.i .i64 (.ofNat 2))]=some [.i .i64 (.ofNat 2),.i .i64 (.ofNat 0)]:=rfl;have ez':Na7 [.i .u8 (.ofNat 0),.s [],.i .i64 (.ofNat 0),.i .i64 (.ofNat 0),.i .i64 (.ofNat 0),.i .i64 (.ofNat 0)] []=some zW:=rfl;simp only[Naj,↓Z0,↓Xp,↓Xt,Xq,Xc,Nae,Naa,rA,rB,rC,rD,reduceIte,h1,h2,h3,ez',ef];refine Ndb ?_ ?_ (w:=zW) (w0:=zW) (f:=[.i .i64 (.ofNat 2),.i .i64 (.ofNat 0)]) (f0:=[.i .i64 (.ofNat 0),.i .i64 (.ofNat 0)]) ?_ ?_ rfl rfl rfl rfl rfl rfl rfl
 ·simp[Yad]
 ·simp[Yad]
 ·rw[St.get_cnt,Yae Zai,Yaf];rfl
 ·rw[St.get_cnt,Yaf]
def gNext:List PV→Option PV
 |[.s text,.i .i64 at0]=>some (if 16384<text.length then NbJ 3 0 else if at0<0∨(text.length:Int)<at0 then NbJ 2 0 else Ndl text at0.toNat)
 |_=>none
theorem Njk{args:List PV}{r:PV}(h:gNext args=some r):∃ fuel,evP cfgW fuel 64 args=some r:=by
 have hx:cfgW.ext 64=none:=by kernel_rfl
 unfold gNext at h;split at h
 ·rename_i text at0;simp only[Sj]at h;have fin:∀ (fuel:Nat) (e l:Int),(∃ r st',NaI cfgW (fuel+1) 64 [.s text,.i .i64 at0] { sto:=.leaf,cnt:=1 }=some (r,st')∧r=NbJ e l)→evP cfgW (fuel+1) 64 [.s text,.i .i64 at0]=some (NbJ e l):=by
   rintro fuel e l ⟨r,st',h1,h2⟩;unfold evP Nam;simp only[hx];unfold NfB;have h1':NaI cfgW (fuel+1) 64 (Naw [.s text,.i .i64 at0]).1 (Naw [.s text,.i .i64 at0]).2=some (r,st'):=h1;rw[h1',h2];exact Ncz st' e l
  split at h
  ·rename_i hl;rw[←h];exact⟨0+1,fin 0 3 0 (NhY hl)⟩
  ·rename_i hl;split at h
   ·rename_i ha;rw[←h];rcases ha with ha|ha
    ·exact⟨0+1,fin 0 2 0 (Ng0 Zaa ha)⟩
    ·exact⟨0+1,fin 0 2 0 (NgZ Zaa ha)⟩
   ·rename_i ha;rw[←h];refine⟨text.length+1+60+1,?_⟩;have:=Nl5 (M:=text.length+1) (text:=text) (at0:=at0.toNat) Zaa Zaa Zaa;rwa[show((at0.toNat:Nat):Int)=at0 by omega]at this
 ·simp at h
theorem Nfe{P:Program}{Gl:Gmap}(hc:CfgOK P Gl cfgW):NbC P Gl 64 gNext:=by
 intro args r h;obtain⟨fuel,hf⟩:=Njk h;exact NhA hc fuel _ args r hf
end
end Go.Pe
