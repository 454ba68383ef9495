/-
 Words: a text that is too long, a place that there is not. No condition.
-/
import Derived.Test.YtjnofhibldppoaaZWordsZ
set_option linter.unusedVariables false
set_option linter.unusedSimpArgs false
open Nat renaming reduceAdd → rB,reduceMul → rC,reduceLT → rD,reduceEqDiff → rE,reduceLeDiff → rF
namespace Go.Pe
open Go Go.Am Go.RowKit
theorem NfQ(st:St)(k:Int)(s:List UInt8)(n l a e:Int):NaU st (Nck k s n l a e)=some (Nck k s n l a e):=rfl
theorem Ndk(st:St)(e l:Int):NaU st (Nbm e l)=some (Nbm e l):=rfl
theorem NfP(st:St)(text:List UInt8)(at0:Nat):NaU st (Ndh text at0)=some (Ndh text at0):=by
 unfold Ndh;simp only[]
 repeat' split
 all_goals first|exact NfQ _ _ _ _ _ _ _|exact Ndk _ _ _
theorem NpB{M:Nat}{text:List UInt8}{at0:Nat}(hM:text.length<M)(hlen:text.length≤16384)(hat:at0≤text.length) :
 evP cfgW (M+60+1) 64 [.s text,.i .i64 at0]=some (Ndh text at0):=by
 obtain⟨r,st',h1,h2⟩:=NpC hM hlen hat;have hx:cfgW.ext 64=none:=by kernel_rfl
 unfold evP Nak;simp only[hx];unfold Ndr;have h1':Nay cfgW (M+60+1) 64 (NaC [.s text,.i .i64 at0]).1 (NaC [.s text,.i .i64 at0]).2=some (r,st'):=h1;rw[h1',h2];exact NfP st' text at0
end Go.Pe
set_option maxHeartbeats 4000000
set_option maxRecDepth 100000
namespace Go.Pe
open Go Go.Am Go.RowKit
section
variable {fuel:Nat}{text:List UInt8}{at0:Int}
theorem Nkj(hlen:16384<text.length) :
 ∃ r st',Nay cfgW (fuel+1) 64 [.s text,.i .i64 at0] { sto:=.leaf,cnt:=1 }=some (r,st')∧r=Nbm 3 0:=by
 refine Nax NlL ?_;delta m64 Qa Qr Qg Ql Qt Qn Qs Qk Qm Qh Qi Qw;have h1:((text.length:Nat):Int) > Int.ofNat 16384:=by show((text.length:Nat):Int) > 16384;omega
 have ez:Nbi zW []=some zW:=rfl;have ef:Nbi [.i .i64 (.ofNat 0),.i .i64 (.ofNat 0)] [(0,1,.i .i64 (.ofNat 3))]=some [.i .i64 (.ofNat 3),.i .i64 (.ofNat 0)]:=rfl;have ez':Nbi [.i .u8 (.ofNat 0),.s [],.i .i64 (.ofNat 0),.i .i64 (.ofNat 0),.i .i64 (.ofNat 0),.i .i64 (.ofNat 0)] []=some zW:=rfl;simp only[Naj,↓Z0,↓Xp,↓Xt,Xq,Xc,Nae,Naa,rB,rC,rD,rE,reduceIte,h1,ez',ef];refine Nd4 ?_ ?_ (w:=zW) (w0:=zW) (f:=[.i .i64 (.ofNat 3),.i .i64 (.ofNat 0)]) (f0:=[.i .i64 (.ofNat 0),.i .i64 (.ofNat 0)]) ?_ ?_ rfl rfl rfl rfl rfl rfl rfl
 ·simp[Yad]
 ·simp[Yad]
 ·rw[St.get_cnt,Yae Zaj,Yaf];rfl
 ·rw[St.get_cnt,Yaf]
theorem Ni8(hlen:text.length≤16384)(hat:at0<0) :
 ∃ r st',Nay cfgW (fuel+1) 64 [.s text,.i .i64 at0] { sto:=.leaf,cnt:=1 }=some (r,st')∧r=Nbm 2 0:=by
 refine Nax NlL ?_;delta m64 Qa Qr Qg Ql Qt Qn Qs Qk Qm Qh Qi Qw;have h1:¬ (((text.length:Nat):Int) > Int.ofNat 16384):=by show ¬ (((text.length:Nat):Int) > 16384);omega
 have h2:at0<Int.ofNat 0:=hat;have ez:Nbi zW []=some zW:=rfl;have ef:Nbi [.i .i64 (.ofNat 0),.i .i64 (.ofNat 0)] [(0,1,.i .i64 (.ofNat 2))]=some [.i .i64 (.ofNat 2),.i .i64 (.ofNat 0)]:=rfl;have ez':Nbi [.i .u8 (.ofNat 0),.s [],.i .i64 (.ofNat 0),.i .i64 (.ofNat 0),.i .i64 (.ofNat 0),.i .i64 (.ofNat 0)] []=some zW:=rfl;simp only[Naj,↓Z0,↓Xp,↓Xt,Xq,Xc,Nae,Naa,rB,rC,rD,rE,reduceIte,h1,h2,ez',ef];refine Nd4 ?_ ?_ (w:=zW) (w0:=zW) (f:=[.i .i64 (.ofNat 2),.i .i64 (.ofNat 0)]) (f0:=[.i .i64 (.ofNat 0),.i .i64 (.ofNat 0)]) ?_ ?_ rfl rfl rfl rfl rfl rfl rfl
 ·simp[Yad]
 ·simp[Yad]
 ·rw[St.get_cnt,Yae Zaj,Yaf];rfl
 ·rw[St.get_cnt,Yaf]
theorem Ni7(hlen:text.length≤16384)(hat:(text.length:Int)<at0) :
 ∃ r st',Nay cfgW (fuel+1) 64 [.s text,.i .i64 at0] { sto:=.leaf,cnt:=1 }=some (r,st')∧r=Nbm 2 0:=by
 refine Nax NlL ?_;delta m64 Qa Qr Qg Ql Qt Qn Qs Qk Qm Qh Qi Qw;have h1:¬ (((text.length:Nat):Int) > Int.ofNat 16384):=by show ¬ (((text.length:Nat):Int) > 16384);omega
 have h2:¬ (at0<Int.ofNat 0):=by show ¬ (at0<0);omega
 have h3:at0 > ((text.length:Nat):Int):=hat;have ez:Nbi zW []=some zW:=rfl;have ef:Nbi [.i .i64 (.ofNat 0),.i .i64 (.ofNat 0)] [(0,1,.i .i64 (.ofNat 2))]=some [.i .i64 (.ofNat 2),.i .i64 (.ofNat 0)]:=rfl;have ez':Nbi [.i .u8 (.ofNat 0),.s [],.i .i64 (.ofNat 0),.i .i64 (.ofNat 0),.i .i64 (.ofNat 0),.i .i64 (.ofNat 0)] []=some zW:=rfl;simp only[Naj,↓Z0,↓Xp,↓Xt,Xq,Xc,Nae,Naa,rB,rC,rD,rE,reduceIte,h1,h2,h3,ez',ef];refine Nd4 ?_ ?_ (w:=zW) (w0:=zW) (f:=[.i .i64 (.ofNat 2),.i .i64 (.ofNat 0)]) (f0:=[.i .i64 (.ofNat 0),.i .i64 (.ofNat 0)]) ?_ ?_ rfl rfl rfl rfl rfl rfl rfl
 ·simp[Yad]
 ·simp[Yad]
 ·rw[St.get_cnt,Yae Zaj,Yaf];rfl
 ·rw[St.get_cnt,Yaf]
def gNext:List PV→Option PV
 |[.s text,.i .i64 at0]=>some (if 16384<text.length then Nbm 3 0 else if at0<0∨(text.length:Int)<at0 then Nbm 2 0 else Ndh text at0.toNat)
 |_=>none
theorem Nl1{args:List PV}{r:PV}(h:gNext args=some r):∃ fuel,evP cfgW fuel 64 args=some r:=by
 have hx:cfgW.ext 64=none:=by kernel_rfl
 unfold gNext at h;split at h
 ·rename_i text at0;simp only[Sj]at h;have fin:∀ (fuel:Nat) (e l:Int),(∃ r st',Nay cfgW (fuel+1) 64 [.s text,.i .i64 at0] { sto:=.leaf,cnt:=1 }=some (r,st')∧r=Nbm e l)→evP cfgW (fuel+1) 64 [.s text,.i .i64 at0]=some (Nbm e l):=by
   rintro fuel e l ⟨r,st',h1,h2⟩;unfold evP Nak;simp only[hx];unfold Ndr;have h1':Nay cfgW (fuel+1) 64 (NaC [.s text,.i .i64 at0]).1 (NaC [.s text,.i .i64 at0]).2=some (r,st'):=h1;rw[h1',h2];exact Ndk st' e l
  split at h
  ·rename_i hl;rw[←h];exact⟨0+1,fin 0 3 0 (Nkj hl)⟩
  ·rename_i hl;split at h
   ·rename_i ha;rw[←h];rcases ha with ha|ha
    ·exact⟨0+1,fin 0 2 0 (Ni8 Zaa ha)⟩
    ·exact⟨0+1,fin 0 2 0 (Ni7 Zaa ha)⟩
   ·rename_i ha;rw[←h];refine⟨text.length+1+60+1,?_⟩;have:=NpB (M:=text.length+1) (text:=text) (at0:=at0.toNat) Zaa Zaa Zaa;rwa[show((at0.toNat:Nat):Int)=at0 by omega]at this
 ·simp at h
theorem NgS{P:Program}{Gl:Gmap}(hc:CfgOK P Gl cfgW):Nbc P Gl 64 gNext:=by
 intro args r h;obtain⟨fuel,hf⟩:=Nl1 h;exact NjP hc fuel _ args r hf
end
end Go.Pe
