/-
 CheckRenames: the law, walked. No condition.
-/
import Derived.Test.YtjnofhibldppoaaZRfnI
import Derived.Test.YtjnofhibldppoaaZRnmD
import Derived.Test.YtjnofhibldppoaaZPeTbl
import Derived.Test.YtjnofhibldppoaaZRnmB
import Derived.Test.YtjnofhibldppoaaZKitD
import Derived.Test.YtjnofhibldppoaaZRnmF
import Derived.Test.YtjnofhibldppoaaZKitE
import Derived.Test.YtjnofhibldppoaaZRigG
import Derived.Test.YtjnofhibldppoaaZWordC0
import Derived.Test.YtjnofhibldppoaaZPeB
import Derived.Test.YtjnofhibldppoaaZPrgD
import Derived.Test.YtjnofhibldppoaaZView
set_option linter.unusedVariables false
set_option linter.unusedSimpArgs false
set_option maxHeartbeats 4000000
set_option maxRecDepth 100000
open Nat renaming reduceAdd → rB,reduceMul → rC,reduceLT → rD,reduceEqDiff → rE,reduceLeDiff → rF
namespace Go.Pe
open Go Go.Am Go.RowKit
def No1:FuncId→Option (List PV→Option PV):=fun _=>none
def No2:FuncId→Option (List PV→Option PV):=fun f=>if f=75 then some NdD else none
def No3:FuncId→Option (List PV→Option PV):=fun f=>if f=75 then some NdD else if f=76 then some Ni0 else if f=77 then some NqO else none
def No4:FuncId→Option (List PV→Option PV):=fun f=>if f=59 then some Nj0 else if f=60 then some NjY else if f=61 then some NjZ else none
noncomputable def cfgR0:Cfg:={ fn:=fun f=>NcA f tblL,ext:=No1 }
noncomputable def cfgR1:Cfg:={ fn:=fun f=>NcA f tblL,ext:=No2 }
noncomputable def cfgR2:Cfg:={ fn:=fun f=>NcA f tblL,ext:=No3 }
noncomputable def cfgR3:Cfg:={ fn:=fun f=>NcA f tblL,ext:=No4 }
theorem Nc8{cfg:Cfg}{f:FuncId}(hx:cfg.ext f=none){fuel:Nat}{args:List PV}{r:PV}(ho:NaC args=(args,{ sto:=.leaf,cnt:=1 }))(hc:∀ st,NaU st r=some r)(h:∃ r' st',Nay cfg fuel f args { sto:=.leaf,cnt:=1 }=some (r',st')∧r'=r):evP cfg fuel f args=some r:=by
 obtain⟨r',st',h1,h2⟩:=h;exact Nfr hx ho ⟨r',st',h1,by rw[h2];exact hc st'⟩
theorem Ngs(args:List PV)(r:PV)(h:NdD args=some r):∃ fuel,evP cfgR0 fuel 75 args=some r:=by
 unfold NdD at h;split at h
 ·rename_i c l;split at h
  ·rename_i hc;simp only[Sj]at h;subst h;have e:c=((c.toNat.toUInt8).toNat:Int):=by
    rw[Nat.toUInt8,UInt8.toNat_ofNat'];omega
   refine⟨l.length+1+1,Nc8 rfl rfl (fun _=>rfl) ?_⟩;have:=Nlc (cfg:=cfgR0) (by kernel_rfl) (fuel:=l.length+1) (c:=c.toNat.toUInt8) (l:=l) hc.1 Zaa (st:={ sto:=.leaf,cnt:=1 });rwa[←e]at this
  ·simp at h
 ·simp at h
theorem NnY(args:List PV)(r:PV)(h:NqO args=some r):∃ fuel,evP cfgR0 fuel 77 args=some r:=by
 unfold NqO at h;split at h
 ·rename_i t;simp only[Sj]at h;subst h;exact⟨41+1,Nc8 rfl rfl (fun _=>rfl) (Npx (cfg:=cfgR0) (by kernel_rfl) Zaa)⟩
 ·simp at h
theorem Ni9(st:St)(t:List UInt8):NaU st (numR t)=some (numR t):=by
 unfold numR;cases Neh 0 t with
 |none=>exact Nb7 (vs:=[.i .i64 0,.b false]) rfl
 |some n=>exact Nb7 (vs:=[.i .i64 n,.b true]) rfl
theorem Nn9(args:List PV)(r:PV)(h:NjZ args=some r):∃ fuel,evP cfgR0 fuel 61 args=some r:=by
 unfold NjZ at h;split at h
 ·rename_i t;split at h
  ·rename_i hc;simp only[Sj]at h;subst h;exact⟨t.length+1+1,Nc8 rfl rfl (fun st=>Ni9 st t) (NpG (cfg:=cfgR0) (by kernel_rfl) (Nnp hc.2) hc.1 Zaa)⟩
  ·simp at h
 ·simp at h
theorem Nl4(args:List PV)(r:PV)(h:Ni0 args=some r):∃ fuel,evP cfgR1 fuel 76 args=some r:=by
 unfold Ni0 at h;split at h
 ·rename_i t l;split at h
  ·rename_i hc;simp only[Sj]at h;subst h;exact⟨t.length+1+1,Nc8 rfl rfl (fun _=>rfl) (Noc (cfg:=cfgR1) (by kernel_rfl) rfl hc.1 hc.2 Zaa)⟩
  ·simp at h
 ·simp at h
theorem Nmd(args:List PV)(r:PV)(h:Nj0 args=some r):∃ fuel,evP cfgR1 fuel 59 args=some r:=by
 unfold Nj0 at h;split at h
 ·rename_i t;split at h
  ·rename_i hc;simp only[Sj]at h;subst h;exact⟨t.length+1+1,Nc8 rfl rfl (fun _=>rfl) (Noo (cfg:=cfgR1) (by kernel_rfl) rfl hc Zaa)⟩
  ·simp at h
 ·simp at h
theorem NlR(args:List PV)(r:PV)(h:NjY args=some r):∃ fuel,evP cfgR2 fuel 60 args=some r:=by
 unfold NjY at h;split at h
 ·rename_i t;split at h
  ·rename_i hc;simp only[Sj]at h;subst h;exact⟨0+1,Nc8 rfl rfl (fun _=>rfl) (Nn1 (cfg:=cfgR2) (by kernel_rfl) rfl rfl rfl hc)⟩
  ·simp at h
 ·simp at h
theorem Niw{fuel:Nat}{text:List UInt8}{at0:Int}{e:Int}(h:(16384<text.length∧e=3)∨(text.length≤16384∧(at0<0∨(text.length:Int)<at0)∧e=2)) :
 ∃ r st',Nay cfgR3 (fuel+1) 41 [.s text,.i .i64 at0] { sto:=.leaf,cnt:=1 }=some (r,st')∧NaU st' r=some (Nbm e 0):=by
 refine Nax (by kernel_rfl:cfgR3.fn 41=some m41) ?_;delta m41 Qa Qr Qg Ql Qt Qn Qs Qk Qm Qh Qi Qo Qw;rcases h with⟨h,rfl⟩|⟨h,h2,rfl⟩
 ·have h1:((text.length:Nat):Int) > Int.ofNat 16384:=by show((text.length:Nat):Int) > 16384;omega
  simp only[Naj,↓Z0,↓Xp,↓Xt,Xq,Xc,Nae,Naa,rB,rC,rD,rE,reduceIte,Xm,rF,h1];refine⟨nofun,[.agg [.i .u8 0,.s [],.i .i64 0,.i .i64 0,.i .i64 0,.i .i64 0],.agg [.i .i64 3,.i .i64 0]],?_,rfl⟩;simp only[mapO,Nej,↓Z0,↓Xp,↓Xt,Xq,Xc,Nae,Naa,rB,rC,rD,rE,reduceIte,Xm,rF];rfl
 ·have h1:¬ ((text.length:Nat):Int) > Int.ofNat 16384:=by show ¬ ((text.length:Nat):Int) > 16384;omega
  by_cases h3:at0<0
  ·have h4:at0<Int.ofNat 0:=h3;simp only[Naj,↓Z0,↓Xp,↓Xt,Xq,Xc,Nae,Naa,rB,rC,rD,rE,reduceIte,Xm,rF,h1,h4];refine⟨nofun,[.agg [.i .u8 0,.s [],.i .i64 0,.i .i64 0,.i .i64 0,.i .i64 0],.agg [.i .i64 2,.i .i64 0]],?_,rfl⟩;simp only[mapO,Nej,↓Z0,↓Xp,↓Xt,Xq,Xc,Nae,Naa,rB,rC,rD,rE,reduceIte,Xm,rF];rfl
  ·have h4:¬ at0<Int.ofNat 0:=h3;have h5:at0 > (text.length:Int):=(by omega);simp only[Naj,↓Z0,↓Xp,↓Xt,Xq,Xc,Nae,Naa,rB,rC,rD,rE,reduceIte,Xm,rF,h1,h4,h5];refine⟨nofun,[.agg [.i .u8 0,.s [],.i .i64 0,.i .i64 0,.i .i64 0,.i .i64 0],.agg [.i .i64 2,.i .i64 0]],?_,rfl⟩;simp only[mapO,Nej,↓Z0,↓Xp,↓Xt,Xq,Xc,Nae,Naa,rB,rC,rD,rE,reduceIte,Xm,rF];rfl
theorem Nmh(args:List PV)(r:PV)(h:gNext args=some r):∃ fuel,evP cfgR3 fuel 41 args=some r:=by
 unfold gNext at h;split at h
 ·rename_i text at0;simp only[Sj]at h;split at h
  ·rename_i hl;rw[←h];exact⟨0+1,Nfr rfl rfl (Niw (.inl ⟨hl,rfl⟩))⟩
  ·rename_i hl;split at h
   ·rename_i ha;rw[←h];exact⟨0+1,Nfr rfl rfl (Niw (.inr ⟨by omega,ha,rfl⟩))⟩
   ·rename_i ha;rw[←h];refine⟨text.length+6+1,Nfr rfl rfl ?_⟩;have:=Nou (cfg:=cfgR3) (by kernel_rfl) rfl rfl rfl (fuel:=text.length+6) (text:=text) (at0:=at0.toNat) Zaa Zaa Zaa;rw[Nos Zaa]at this;rwa[show((at0.toNat:Nat):Int)=at0 by omega]at this
 ·simp at h
theorem Nel{Gl:Gmap}:CfgOK Go.Proofs.Try.prog Gl cfgR0:=NbN NbP fun f g h=>by simp[No1]at h
theorem NhS{Gl:Gmap}:CfgOK Go.Proofs.Try.prog Gl cfgR1:=by
 refine NbN NbP ?_;intro f g h;unfold No2 at h;split at h
 ·rename_i e;simp only[Sj]at h;subst h;subst e;exact NcB Nel Ngs
 ·simp at h
theorem Nlj{Gl:Gmap}:CfgOK Go.Proofs.Try.prog Gl cfgR2:=by
 refine NbN NbP ?_;intro f g h;unfold No3 at h;split at h
 ·rename_i e;simp only[Sj]at h;subst h;subst e;exact NcB Nel Ngs
 split at h
 ·rename_i e;simp only[Sj]at h;subst h;subst e;exact NcB NhS Nl4
 split at h
 ·rename_i e;simp only[Sj]at h;subst h;subst e;exact NcB Nel NnY
 ·simp at h
theorem Nlk{Gl:Gmap}:CfgOK Go.Proofs.Try.prog Gl cfgR3:=by
 refine NbN NbP ?_;intro f g h;unfold No4 at h;split at h
 ·rename_i e;simp only[Sj]at h;subst h;subst e;exact NcB NhS Nmd
 split at h
 ·rename_i e;simp only[Sj]at h;subst h;subst e;exact NcB Nlj NlR
 split at h
 ·rename_i e;simp only[Sj]at h;subst h;subst e;exact NcB Nel Nn9
 ·simp at h
theorem NkJ{Gl:Gmap}:Nbc Go.Proofs.Try.prog Gl 41 gNext:=NcB Nlk Nmh
mutual
theorem Ex.cp_cp:∀ e:Ex,e.cp.cp=e.cp
 |.mk k s n z l=>by rw[Ex.cp,Ex.cp,Exs.cp_cp l]
theorem Exs.cp_cp:∀ l:List Ex,Exs.cp (Exs.cp l)=Exs.cp l
 |[]=>by rw[Exs.cp,Exs.cp]
 |e::r=>by rw[Exs.cp,Exs.cp,Ex.cp_cp e,Exs.cp_cp r]
end
mutual
theorem Sm.rn_cp(m:List UInt8):∀ s:Sm,s.cp.rn m=s.rn m
 |.mk k o j i n za a zb b ze e r=>by rw[Sm.cp,Sm.rn,Sm.rn,Exs.cp_cp,Sms.rn_cp m b,Sms.rn_cp m e]
theorem Sms.rn_cp(m:List UInt8):∀ l:List Sm,Sms.rn m (Sms.cp l)=Sms.rn m l
 |[]=>by rw[Sms.cp]
 |s::r=>by rw[Sms.cp,Sms.rn,Sms.rn,Sm.rn_cp m s,Sms.rn_cp m r]
end
mutual
theorem Ex.cp_size:∀ e:Ex,e.cp.size=e.size
 |.mk k s n z l=>by rw[Ex.cp,Ex.size,Ex.size,Exs.cp_size l]
theorem Exs.cp_size:∀ l:List Ex,Exs.size (Exs.cp l)=Exs.size l
 |[]=>by rw[Exs.cp]
 |e::r=>by rw[Exs.cp,Exs.size,Exs.size,Ex.cp_size e,Exs.cp_size r]
end
mutual
theorem Sm.cp_size:∀ s:Sm,s.cp.size=s.size
 |.mk k o j i n za a zb b ze e r=>by rw[Sm.cp,Sm.size,Sm.size,Exs.cp_size a,Sms.cp_size b,Sms.cp_size e]
theorem Sms.cp_size:∀ l:List Sm,Sms.size (Sms.cp l)=Sms.size l
 |[]=>by rw[Sms.cp]
 |s::r=>by rw[Sms.cp,Sms.size,Sms.size,Sm.cp_size s,Sms.cp_size r]
end
mutual
theorem Sm.cp_sj:∀ s:Sm,s.sj→s.cp.sj
 |.mk k o j i n za a zb b ze e r,h=>by
   rw[Sm.sj]at h;rw[Sm.cp,Sm.sj];exact⟨h.1,Sms.cp_sj b h.2.1,Sms.cp_sj e h.2.2⟩
theorem Sms.cp_sj:∀ l:List Sm,Sms.sj l→Sms.sj (Sms.cp l)
 |[],h=>by rw[Sms.cp];exact h
 |s::r,h=>by
   rw[Sms.sj]at h;rw[Sms.cp,Sms.sj];exact⟨Sm.cp_sj s h.1,Sms.cp_sj r h.2⟩
end
mutual
theorem Ex.cp_dp:∀ e:Ex,e.cp.dp=e.dp
 |.mk k s n z l=>by rw[Ex.cp,Ex.dp,Ex.dp,Exs.cp_dp l]
theorem Exs.cp_dp:∀ l:List Ex,Exs.dp (Exs.cp l)=Exs.dp l
 |[]=>by rw[Exs.cp]
 |e::r=>by rw[Exs.cp,Exs.dp,Exs.dp,Ex.cp_dp e,Exs.cp_dp r]
end
mutual
theorem Sm.cp_dp:∀ s:Sm,s.cp.dp=s.dp
 |.mk k o j i n za a zb b ze e r=>by rw[Sm.cp,Sm.dp,Sm.dp,Exs.cp_dp a,Sms.cp_dp b,Sms.cp_dp e]
theorem Sms.cp_dp:∀ l:List Sm,Sms.dp (Sms.cp l)=Sms.dp l
 |[]=>by rw[Sms.cp]
 |s::r=>by rw[Sms.cp,Sms.dp,Sms.dp,Sm.cp_dp s,Sms.cp_dp r]
end
open Classical in
noncomputable def gRn(d:Nat):List PV→Option PV
 |[v,.s m]=>if ∃ (z:Bool) (l:List Sm),v=slV z l.length (Sms.cs l)∧Sms.dp l≤d∧Sms.size l≤100000∧Sms.sj l∧m.length≤2 then some (rnV m v)else none
 |_=>none
theorem Npp{d:Nat}{z:Bool}{l:List Sm}{m:List UInt8}(h1:Sms.dp l≤d)(h2:Sms.size l≤100000)(h3:Sms.sj l)(h4:m.length≤2):gRn d [slV z l.length (Sms.cs l),.s m]=some (slV true (Sms.rn m l).length (Sms.cs (Sms.rn m l))):=by
 unfold gRn
 dsimp only
 rw[if_pos ⟨z,l,rfl,h1,h2,h3,h4⟩,Sms.rn_sl]
theorem Nj1{d:Nat}{z:Bool}{l:List Sm}{m:List UInt8}(h1:Sms.dp l≤d)(h2:Sms.size l≤100000)(h3:Sms.sj l)(h4:m.length≤2):gRn d [slV z (Sms.cp l).length (Sms.cs (Sms.cp l)),.s m]=some (slV true (Sms.rn m l).length (Sms.cs (Sms.rn m l))):=by
 have:=Npp (d:=d) (z:=z) (l:=Sms.cp l) (m:=m) (by rw[Sms.cp_dp];exact h1) (by rw[Sms.cp_size];exact h2) (Sms.cp_sj l h3) h4;rw[Sms.rn_cp]at this;exact this
mutual
theorem Ex.dp_szR:∀ e:Ex,e.dp+1≤e.size
 |.mk k s n z l=>by
   rw[Ex.dp,Ex.size];have:=Exs.dp_szR l;omega
theorem Exs.dp_szR:∀ l:List Ex,Exs.dp l≤Exs.size l
 |[]=>by rw[Exs.dp];omega
 |e::r=>by
   have he:=Ex.dp_szR e;have:=Exs.dp_szR r;rw[Exs.dp,Exs.size];omega
end
mutual
theorem Sm.dp_szR:∀ s:Sm,s.dp+1≤s.size
 |.mk k o j i n za a zb b ze e r=>by
   rw[Sm.dp,Sm.size];have h1:=Exs.dp_szR a;have h2:=Sms.dp_szR b;have h3:=Sms.dp_szR e;omega
theorem Sms.dp_szR:∀ l:List Sm,Sms.dp l≤Sms.size l
 |[]=>by rw[Sms.dp];omega
 |s::r=>by
   rw[Sms.dp,Sms.size];have h1:=Sm.dp_szR s;have h2:=Sms.dp_szR r;omega
end
noncomputable def NeE(d:Nat):Cfg:={ fn:=fun f=>NcA f tblL,ext:=fun f=>if f=34 then some (NoE 100000)else if f=20 then(match d with|0=>none|d+1=>some (gRn d))else none }
theorem Nkz{z:Bool}{n:Nat}{cs:List PV}{s:List UInt8}:NaC [slV z n cs,.s s]=([slV z n cs,.s s],{ sto:=.leaf,cnt:=1 }):=by
 unfold slV;split<;>rfl
theorem Nov{Gl:Gmap}{d:Nat}(hok:CfgOK Go.Proofs.Try.prog Gl (NeE d)){l:List Sm}{z:Bool}{m:List UInt8}(hs:Sms.size l≤100000)(hd:Sms.dp l≤d)(hj:Sms.sj l)(hm:m.length≤2) :
 (Ndr (Nay (NeE d) (l.length+2+1)) 20 [slV z l.length (Sms.cs l),.s m]).map frzV=some (slV true (Sms.rn m l).length (Sms.cs (Sms.rn m l))):=by
 have hlle:=Sms.len_le l;have hxe:(NeE d).ext 34=some (NoE 100000):=by unfold NeE;simp
 have hxs:∀ d',d=d'+1→(NeE d).ext 20=some (gRn d'):=fun d' h=>by subst h;unfold NeE;rfl
 have hin:∀ s∈l,s.dp+1≤d∧s.size≤100000:=fun s hm=>⟨by have:=Ngi hm;omega,by have:=Sms.size_mem hm;omega⟩;obtain⟨r,st',h1,h2,h3⟩:=NpQ hok (by kernel_rfl) (fuel:=l.length+2) (l:=l) (z:=z) (mo:=m) (Nat.le_refl _) Zaa hj hm
  (by
   rw[Nav hxe];exact NnP (by have:=Sms.dp_szR l;omega) hs)
  (fun s hm'=>by
   obtain⟨q1,q2⟩:=hin s hm';have hz:=Sm.size_eq s;have hp:=Sm.dp_eq s;rw[Nav (hxs (d - 1) Zaa)];exact Nj1 Zaa Zaa (NiA hj hm').2.1 hm)
  (fun s hm'=>by
   obtain⟨q1,q2⟩:=hin s hm';have hz:=Sm.size_eq s;have hp:=Sm.dp_eq s;rw[Nav (hxs (d - 1) Zaa)];exact Nj1 Zaa Zaa (NiA hj hm').2.2 hm)
 unfold Ndr;rw[Nkz];simp only[h1];rw[Sms.rn_len];exact NeH h2 (NhL _) Zaj (fun h=>h3 (List.eq_nil_of_length_eq_zero h))
theorem NkM{Gl:Gmap}{d:Nat}(ih:∀ d',d=d'+1→Nbc Go.Proofs.Try.prog Gl 20 (gRn d')):Nbc Go.Proofs.Try.prog Gl 20 (gRn d):=by
 intro args r hr;unfold gRn at hr;split at hr
 ·rename_i v m;split at hr
  ·rename_i hx;obtain⟨z,l,rfl,h1,h2,h3,h4⟩:=hx;rw[Sms.rn_sl]at hr;have hok:CfgOK Go.Proofs.Try.prog Gl (NeE d):=NbN NbP (fun f g h=>by
    by_cases hf:f=34
    ·subst hf;simp[NeE]at h;subst h;exact Nlq 100000
    ·by_cases hf2:f=20
     ·subst hf2;cases d with
      |zero=>simp[NeE]at h
      |succ d =>
        simp[NeE]at h;subst h;exact ih d rfl
     ·simp[NeE,hf,hf2]at h)
   exact Ney (Nc3 (NbZ hok _) _) _ _ ((Nov hok h2 h1 h3 h4).trans hr)
  ·cases hr
 ·cases hr
theorem NkL{Gl:Gmap}:∀ d,Nbc Go.Proofs.Try.prog Gl 20 (gRn d)
 |0=>NkM (fun d' h=>by omega)
 |d+1=>NkM (fun d' h=>by
   have e:d'=d:=(by omega);rw[e];exact NkL d)
mutual
theorem Sm.rn_size(m:List UInt8):∀ s:Sm,(s.rn m).size=s.size
 |.mk k o j i n za a zb b ze e r=>by rw[Sm.rn,Sm.size,Sm.size,Exs.cp_size,Sms.rn_size m b,Sms.rn_size m e]
theorem Sms.rn_size(m:List UInt8):∀ l:List Sm,Sms.size (Sms.rn m l)=Sms.size l
 |[]=>by rw[Sms.rn]
 |s::r=>by rw[Sms.rn,Sms.size,Sms.size,Sm.rn_size m s,Sms.rn_size m r]
end
theorem Tds.rn_size(m:List UInt8):∀ l:List Td,Tds.size (l.map (Td.rn m))=Tds.size l
 |[]=>rfl
 |t::r=>by
   rw[List.map_cons,Tds.size,Tds.size,Tds.rn_size m r];show Sms.size (Sms.rn m t.B)+1+_=_;rw[Sms.rn_size]
end Go.Pe
set_option maxRecDepth 100000
namespace Go.Pe
open Go Go.Am Go.RowKit
noncomputable def m7:MFunc:={ body:=.seq (Qi [Qt 2 (.box (.t 0)),Qt 4 (.mv (.c (.b false)))]) (.seq (.seq (Qi [Qw 9 2 2,Ql 10 (.call 8 false [.l 9,.c (.i .i64 (.ofNat 60)),.c (.i .i64 (.ofNat 1500))]),Qh 11 10,Qs 12 (.load true 2 (.t 2)) 11 false,Qs 13 (.call 18 false [.l 12]) 11 false,Qs 14 (.un .not (.l 13)) 11 false,Qt 15 (.pick (.l 11) (.c (.b true)) (.l 14))]) (.cond (.t 15) (.seq (Qi [Ql 16 (.call 10 false []),Qm 4 16]) .ret) .skip)) (.seq (Qi [Ql 17 (.bslice 3 1 [.s [],.s [],.s []] [(0,1,.c (.s [95])),(1,1,.c (.s [48])),(2,1,.c (.s [120,57]))]),Qa 18 1,Ql 19 (.bin .rem (.l 18) (.c (.i .u8 (.ofNat 3)))),Ql 20 (.indexAddr none 1 (.l 17) (.l 19)),Qr 21 20,Qm 5 21]) (.seq (Qi [Qw 22 2 2,Ql 23 (.calle 19 [.l 22]),Qt 6 (.alloc [.nsl,.nsl]),Qn (.store 2 (.t 6) (.l 23))]) (.seq (.seq (Qi [Qg 24 0 6,Qr 25 24,Qt 26 (.len (.l 25)),Qo 27 0]) (.block 0 (.loop (.seq (Qi [Qt 28 (.bin .lss (.t 27) (.t 26))]) (.seq (.cond (.t 28) .skip (.exit 0)) (.seq (.block 1 (.seq (Qi [Qa 29 27,Qm 7 29]) (.seq (.seq (Qi [Qg 30 0 6,Qr 31 30,Qa 32 7,Ql 33 (.indexAddr none 5 (.l 31) (.l 32)),Qf 34 1 33,Qr 35 34,Ql 36 (.slen (.l 35)),Qg 37 0 6,Qr 38 37,Qa 39 7,Ql 40 (.indexAddr none 5 (.l 38) (.l 39)),Qf 41 3 40,Qr 42 41,Ql 43 (.slen (.l 42)),Ql 44 (.bin .add (.l 36) (.l 43)),Qt 45 (.bin .gtr (.l 44) (Qk 80))]) (.cond (.t 45) (.seq (Qi [Ql 46 (.call 10 false []),Qm 4 46]) .ret) .skip)) (.seq (Qi [Qg 47 0 6,Qr 48 47,Qa 49 7,Ql 50 (.indexAddr none 5 (.l 48) (.l 49)),Qf 51 1 50,Qr 52 51,Qa 53 5,Ql 54 (.bin .add (.l 52) (.l 53)),Ql 55 (.indexAddr none 5 (.l 48) (.l 49)),Qf 56 1 55,Qn (.store 1 (.l 56) (.l 54))]) (.seq (Qi [Qg 57 0 6,Qr 58 57,Qa 59 7,Ql 60 (.indexAddr none 5 (.l 58) (.l 59)),Qf 61 3 60,Qr 62 61,Qt 63 (.bin .neq (.l 62) (.c (.s [])))]) (.cond (.t 63) (Qi [Qg 64 0 6,Qr 65 64,Qa 66 7,Ql 67 (.indexAddr none 5 (.l 65) (.l 66)),Qf 68 3 67,Qr 69 68,Qa 70 5,Ql 71 (.bin .add (.l 69) (.l 70)),Ql 72 (.indexAddr none 5 (.l 65) (.l 66)),Qf 73 3 72,Qn (.store 1 (.l 73) (.l 71))]) .skip)))))) (Qi [Ql 74 (.bin .add (.t 27) (Qk 1)),Qm 27 74]))))))) (.seq (.seq (Qi [Qg 75 1 6,Qr 76 75,Qt 77 (.len (.l 76)),Qo 78 0]) (.block 2 (.loop (.seq (Qi [Qt 79 (.bin .lss (.t 78) (.t 77))]) (.seq (.cond (.t 79) .skip (.exit 2)) (.seq (.block 3 (.seq (Qi [Qa 80 78,Qm 8 80]) (.chain [Qg 81 1 6,Qr 82 81,Qa 83 8,Qg 84 1 6,Qr 85 84,Qa 86 8,Ql 87 (.indexAddr none 3 (.l 85) (.l 86)),Qf 88 1 87,Qr 89 88,Qa 90 5,Ql 91 (.call 20 false [.l 89,.l 90]),Ql 92 (.indexAddr none 3 (.l 82) (.l 83)),Qf 93 1 92,Qn (.store 1 (.l 93) (.l 91))] [0,1,0,0,8,0,56,120,248,0,1016,2047,4095,8191] none))) (Qi [Ql 94 (.bin .add (.t 78) (Qk 1)),Qm 78 94]))))))) (.seq (Qi [Qw 95 2 6,Ql 96 (.callq 9 [.l 95]),Qw 97 2 2,Ql 98 (.callq 9 [.l 97]),Ql 99 (.eqs false [(0,0),(1,0)] (.l 96) (.l 98)),Qh 100 99,Qs 101 (.callq 10 []) 100 true,Ql 102 (.pick (.l 100) (.l 101) (.c (.b false))),Qm 4 102]) .ret)))))),res:=[.t 4] }
theorem t7:Qx 7=some m7:=by kernel_rfl
noncomputable def tblX7:List (Nat×MFunc):=(7,m7)::tblL
theorem Nmr:NoI Go.Proofs.Try.prog (Nah Go.Proofs.Try.prog [] [19]) tblX7:=⟨t7,NbP⟩
mutual
theorem Sm.hug_sj(many:Int):∀ (s:Sm) (lv c:Int),(s.hug many lv c).1=false→s.sj
 |.mk k o j i n za a zb b ze e r,lv,c,h=>by
   rw[Sm.hug]at h;rw[Sm.sj];split at h
   ·simp at h
   split at h
   ·simp at h
   split at h
   ·simp at h
   rename_i h3;split at h
   ·rename_i h4;rw[h4]at h;cases h
   split at h
   ·rename_i h5;rw[h5]at h;cases h
   rename_i h5;exact⟨by omega,Sms.hug_sj many b _ _ (by simpa using h5),Sms.hug_sj many e _ _ h⟩
theorem Sms.hug_sj(many:Int):∀ (l:List Sm) (lv c:Int),(Sms.hug many l lv c).1=false→Sms.sj l
 |[],lv,c,h=>by rw[Sms.sj];trivial
 |e::r,lv,c,h=>by
   rw[Sms.hug]at h;rw[Sms.sj];split at h
   ·rename_i h1;rw[h1]at h;cases h
   ·rename_i h1;exact⟨Sm.hug_sj many e lv c (by simpa using h1),Sms.hug_sj many r lv _ h⟩
end
theorem NiF(many lv:Int):∀ (l:List Td) (c:Int),(NdY many lv l c).1=false→∀ t∈l,Sms.sj t.B
 |[],c,h,t,ht=>by cases ht
 |a::r,c,h,t,ht=>by
   rw[NdY]at h;split at h
   ·cases h
   split at h
   ·cases h
   split at h
   ·rename_i h3;rw[h3]at h;cases h
   rename_i h3;rcases List.mem_cons.1 ht with rfl|ht
   ·exact Sms.hug_sj many t.B lv c (by simpa using h3)
   ·exact NiF many lv r _ h t ht
theorem Ne6:∀ l:List Dc,Nf8 l=false→∀ d∈l,d.S.length+d.O.length≤1000
 |[],_,d,hd=>by cases hd
 |a::r,h,d,hd=>by
   rw[Nf8]at h;split at h
   ·cases h
   rcases List.mem_cons.1 hd with rfl|hd
   ·omega
   ·exact Ne6 r h d hd
theorem Ni1{lv many:Int}{p:Pg}(h:NmK lv many p=false):(∀ d∈p.D,d.S.length+d.O.length≤1000)∧∀ t∈p.T,Sms.sj t.B:=by
 unfold NmK at h;split at h
 ·cases h
 rename_i h1;split at h
 ·cases h
 rename_i h2;exact⟨Ne6 p.D (by simpa using h1),NiF many lv p.T _ (by simpa using h2)⟩
end Go.Pe
set_option maxRecDepth 100000
namespace Go.Pe
open Go Go.Am Go.RowKit
theorem Nmk:fvP cfgNx 200 10 []=some (.b true):=by kernel_rfl
def gAwakeR:List PV→Option PV
 |[]=>some (.b true)
 |_=>none
theorem Ng3(args:List PV)(r:PV)(h:gAwakeR args=some r):∃ fuel,evP cfgNx fuel 10 args=some r:=by
 unfold gAwakeR at h;split at h
 ·rw[←h];refine⟨200,?_⟩;have:=Nmk;rwa[NmJ]at this
 ·cases h
theorem Nlt{cfg:Cfg}{f:FuncId}(hx:cfg.ext f=none){fuel:Nat}{args:List PV}{r:PV}(ho:NaC args=(args,{ sto:=.leaf,cnt:=1 }))(hc:∀ st,NaU st r=some r)(h:∃ r' st',Nay cfg fuel f args { sto:=.leaf,cnt:=1 }=some (r',st')∧r'=r):evP cfg fuel f args=some r:=by
 obtain⟨r',st',h1,h2⟩:=h;exact Nfr hx ho ⟨r',st',h1,by rw[h2];exact hc st'⟩
noncomputable def Nnv:FuncId→Option (List PV→Option PV):=fun f=>if f=64 then some gNext else if f=10 then some gAwakeR else if f=41 then some gNext else if f=34 then some (NjX 100000)else if f=20 then some (gRn 100000)else none
theorem Nlx{Gl:Gmap}{m:Int}(hg:Gl 0 0=some (.int .i64 m)):∀ f g,Nnv f=some g→Nbc Go.Proofs.Try.prog Gl f g:=by
 intro f g h;unfold Nnv at h;split at h
 ·rename_i e;simp only[Sj]at h;subst h;subst e;exact NgS (NhV hg)
 split at h
 ·rename_i e;simp only[Sj]at h;subst h;subst e;exact NcB (Nli hg) Ng3
 split at h
 ·rename_i e;simp only[Sj]at h;subst h;subst e;exact NkJ
 split at h
 ·rename_i e;simp only[Sj]at h;subst h;subst e;exact NfT 100000
 split at h
 ·rename_i e;simp only[Sj]at h;subst h;subst e;exact NkL 100000
 ·cases h
noncomputable def cfgRk:Cfg:={ fn:=fun f=>NcA f tblX7,ext:=Nnv }
theorem NhU{Gl:Gmap}{m:Int}(hg:Gl 0 0=some (.int .i64 m)):CfgOK Go.Proofs.Try.prog Gl cfgRk:=NbN Nmr (Nlx hg)
theorem NhT(f:FuncId)(m:MFunc)(h:NcA f tblL=some m):cfgRk.fn f=some m:=by
 show NcA f tblX7=some m;by_cases h6:f=7
 ·subst h6;have h0:NcA 7 tblL=none:=by kernel_rfl
  rw[h0]at h;cases h
 ·have hb:Nat.beq f 7=false:=by
   cases h:Nat.beq f 7 with
   |false=>rfl
   |true=>exact absurd (Nat.eq_of_beq_eq_true h) h6
  show(Bool.rec (motive:=fun _=>Option MFunc) (NcA f tblL) (some m7) (Nat.beq f 7))=some m;rw[hb];exact h
theorem Nnk:CfgM cfgRk where
 nx:=by rfl
 fn:=NhT
 x1:=by rfl
 x2:=by rfl
 x3:=by rfl
 x4:=by rfl
 x5:=by rfl
 x6:=by rfl
 x7:=by rfl
 x8:=by rfl
 x9:=by rfl
 y1:=by rfl
 y2:=by rfl
 y3:=by rfl
 y4:=by rfl
 y5:=by rfl
 y6:=by rfl
 z1:=by rfl
 z2:=by rfl
 z3:=by rfl
 z4:=by rfl
 z5:=by rfl
 z6:=by rfl
 z7:=by rfl
 z8:=by rfl
theorem Nnl:CfgR cfgRk where
 toCfgM:=Nnk
 rn:=by rfl
 r1:=by rfl
 r2:=by rfl
 r3:=by rfl
 r4:=by rfl
 r5:=by rfl
 r6:=by rfl
 r7:=by rfl
 r8:=by rfl
 r9:=by rfl
 ra:=by rfl
 rb:=by rfl
 rc:=by rfl
theorem Nlr{st:St}{w1 v1 w2 v2 w3 v3:PV}(h1:Go.Pe.deep st 12 w1=some v1)(h2:Go.Pe.deep st 12 w2=some v2)(h3:Go.Pe.deep st 12 w3=some v3):Nbk st [w1,w2,w3]=some [v1,v2,v3]:=by
 show mapO (Go.Pe.deep st 12) [w1,w2,w3]=_;simp only[mapO,h1,h2,h3]
theorem NhE{z1 z2:Bool}{m1 m2:Nat}(c1 c2:List PV)(a b:Int):NaC [.agg [slV z1 m1 c1,slV z2 m2 c2],.i .i64 a,.i .i64 b]=([.agg [slV z1 m1 c1,slV z2 m2 c2],.i .i64 a,.i .i64 b],{ sto:=.leaf,cnt:=1 }):=by
 unfold slV;split<;>split<;>rfl
end Go.Pe
