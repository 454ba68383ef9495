/-
 CheckTells: the law, walked. No condition.
-/
import Derived.Test.YtjnofhibldppoaaGreatZRfnI
import Derived.Test.YtjnofhibldppoaaGreatZCpyC
import Derived.Test.YtjnofhibldppoaaGreatZChkMf
import Derived.Test.YtjnofhibldppoaaGreatZPeTbl
import Derived.Test.YtjnofhibldppoaaGreatZTelK
import Derived.Test.YtjnofhibldppoaaGreatZTelJ
import Derived.Test.YtjnofhibldppoaaGreatZKitE
import Derived.Test.YtjnofhibldppoaaGreatZRigG
import Derived.Test.YtjnofhibldppoaaGreatZWordC0
import Derived.Test.YtjnofhibldppoaaGreatZPeB
import Derived.Test.YtjnofhibldppoaaGreatZPrgD
import Derived.Test.YtjnofhibldppoaaGreatZView
set_option linter.unusedVariables false
set_option linter.unusedSimpArgs false
set_option maxHeartbeats 4000000
set_option maxRecDepth 100000
open Nat renaming reduceAdd → rB,reduceMul → rC,reduceLT → rD,reduceEqDiff → rE,reduceLeDiff → rF
namespace Go.Pe
open Go Go.Am Go.RowKit
def NpA:FuncId→Option (List PV→Option PV):=fun _=>none
def NpB:FuncId→Option (List PV→Option PV):=fun f=>if f=89 then some NdH else none
def NpC:FuncId→Option (List PV→Option PV):=fun f=>if f=89 then some NdH else if f=90 then some Njc else if f=91 then some Nri else none
def NpD:FuncId→Option (List PV→Option PV):=fun f=>if f=68 then some Nkc else if f=69 then some Nka else if f=70 then some Nkb else none
noncomputable def cfgR0:Cfg:={ fn:=fun f=>NcT f tblL,ext:=NpA }
noncomputable def cfgR1:Cfg:={ fn:=fun f=>NcT f tblL,ext:=NpB }
noncomputable def cfgR2:Cfg:={ fn:=fun f=>NcT f tblL,ext:=NpC }
noncomputable def cfgR3:Cfg:={ fn:=fun f=>NcT f tblL,ext:=NpD }
theorem Nde{cfg:Cfg}{f:FuncId}(hx:cfg.ext f=none){fuel:Nat}{args:List PV}{r:PV}(ho:NaH args=(args,{ sto:=.leaf,cnt:=1 }))(hc:∀ st,Na5 st r=some r)(h:∃ r' st',NaC cfg fuel f args { sto:=.leaf,cnt:=1 }=some (r',st')∧r'=r):evP cfg fuel f args=some r:=by
 obtain⟨r',st',h1,h2⟩:=h;exact NeS hx ho ⟨r',st',h1,by rw[h2];exact hc st'⟩
theorem Ngz(args:List PV)(r:PV)(h:NdH args=some r):∃ fuel,evP cfgR0 fuel 89 args=some r:=by
 unfold NdH at h;split at h
 ·rename_i c l;split at h
  ·rename_i hc;simp only[Sj]at h;subst h;have e:c=((c.toNat.toUInt8).toNat:Int):=by
    rw[Nat.toUInt8,UInt8.toNat_ofNat'];omega
   refine⟨l.length+1+1,Nde rfl rfl (fun _=>rfl) ?_⟩;have:=Nlu (cfg:=cfgR0) (by kernel_rfl) (fuel:=l.length+1) (c:=c.toNat.toUInt8) (l:=l) hc.1 Zaa (st:={ sto:=.leaf,cnt:=1 });rwa[←e]at this
  ·simp at h
 ·simp at h
theorem Nox(args:List PV)(r:PV)(h:Nri args=some r):∃ fuel,evP cfgR0 fuel 91 args=some r:=by
 unfold Nri at h;split at h
 ·rename_i t;simp only[Sj]at h;subst h;exact⟨41+1,Nde rfl rfl (fun _=>rfl) (Np4 (cfg:=cfgR0) (by kernel_rfl) Zaa)⟩
 ·simp at h
theorem Njj(st:St)(t:List UInt8):Na5 st (numR t)=some (numR t):=by
 unfold numR;cases Nen 0 t with
 |none=>exact Nci (vs:=[.i .i64 0,.b false]) rfl
 |some n=>exact Nci (vs:=[.i .i64 n,.b true]) rfl
theorem NoL(args:List PV)(r:PV)(h:Nkb args=some r):∃ fuel,evP cfgR0 fuel 70 args=some r:=by
 unfold Nkb at h;split at h
 ·rename_i t;split at h
  ·rename_i hc;simp only[Sj]at h;subst h;exact⟨t.length+1+1,Nde rfl rfl (fun st=>Njj st t) (Nqg (cfg:=cfgR0) (by kernel_rfl) (NnS hc.2) hc.1 Zaa)⟩
  ·simp at h
 ·simp at h
theorem Nmw(args:List PV)(r:PV)(h:Njc args=some r):∃ fuel,evP cfgR1 fuel 90 args=some r:=by
 unfold Njc at h;split at h
 ·rename_i t l;split at h
  ·rename_i hc;simp only[Sj]at h;subst h;exact⟨t.length+1+1,Nde rfl rfl (fun _=>rfl) (NoO (cfg:=cfgR1) (by kernel_rfl) rfl hc.1 hc.2 Zaa)⟩
  ·simp at h
 ·simp at h
theorem NmH(args:List PV)(r:PV)(h:Nkc args=some r):∃ fuel,evP cfgR1 fuel 68 args=some r:=by
 unfold Nkc at h;split at h
 ·rename_i t;split at h
  ·rename_i hc;simp only[Sj]at h;subst h;exact⟨t.length+1+1,Nde rfl rfl (fun _=>rfl) (No0 (cfg:=cfgR1) (by kernel_rfl) rfl hc Zaa)⟩
  ·simp at h
 ·simp at h
theorem Nmg(args:List PV)(r:PV)(h:Nka args=some r):∃ fuel,evP cfgR2 fuel 69 args=some r:=by
 unfold Nka at h;split at h
 ·rename_i t;split at h
  ·rename_i hc;simp only[Sj]at h;subst h;exact⟨0+1,Nde rfl rfl (fun _=>rfl) (NoA (cfg:=cfgR2) (by kernel_rfl) rfl rfl rfl hc)⟩
  ·simp at h
 ·simp at h
theorem NiJ{fuel:Nat}{text:List UInt8}{at0:Int}{e:Int}(h:(16384<text.length∧e=3)∨(text.length≤16384∧(at0<0∨(text.length:Int)<at0)∧e=2)) :
 ∃ r st',NaC cfgR3 (fuel+1) 52 [.s text,.i .i64 at0] { sto:=.leaf,cnt:=1 }=some (r,st')∧Na5 st' r=some (NbD e 0):=by
 refine NaA (by kernel_rfl:cfgR3.fn 52=some m52) ?_;delta m52 Qa Qr Qg Ql Qt Qn Qs Qk Qm Qh Qi Qo Qw;rcases h with⟨h,rfl⟩|⟨h,h2,rfl⟩
 ·have h1:((text.length:Nat):Int) > Int.ofNat 16384:=by show((text.length:Nat):Int) > 16384;omega
  simp only[Nai,↓Z0,↓Xp,↓Xt,Xq,Xc,Nae,Naa,rB,rC,rD,rE,reduceIte,Xm,rF,h1];refine⟨nofun,[.agg [.i .u8 0,.s [],.i .i64 0,.i .i64 0,.i .i64 0,.i .i64 0],.agg [.i .i64 3,.i .i64 0]],?_,rfl⟩;simp only[mapO,Neq,↓Z0,↓Xp,↓Xt,Xq,Xc,Nae,Naa,rB,rC,rD,rE,reduceIte,Xm,rF];rfl
 ·have h1:¬ ((text.length:Nat):Int) > Int.ofNat 16384:=by show ¬ ((text.length:Nat):Int) > 16384;omega
  by_cases h3:at0<0
  ·have h4:at0<Int.ofNat 0:=h3;simp only[Nai,↓Z0,↓Xp,↓Xt,Xq,Xc,Nae,Naa,rB,rC,rD,rE,reduceIte,Xm,rF,h1,h4];refine⟨nofun,[.agg [.i .u8 0,.s [],.i .i64 0,.i .i64 0,.i .i64 0,.i .i64 0],.agg [.i .i64 2,.i .i64 0]],?_,rfl⟩;simp only[mapO,Neq,↓Z0,↓Xp,↓Xt,Xq,Xc,Nae,Naa,rB,rC,rD,rE,reduceIte,Xm,rF];rfl
  ·have h4:¬ at0<Int.ofNat 0:=h3;have h5:at0 > (text.length:Int):=(by omega);simp only[Nai,↓Z0,↓Xp,↓Xt,Xq,Xc,Nae,Naa,rB,rC,rD,rE,reduceIte,Xm,rF,h1,h4,h5];refine⟨nofun,[.agg [.i .u8 0,.s [],.i .i64 0,.i .i64 0,.i .i64 0,.i .i64 0],.agg [.i .i64 2,.i .i64 0]],?_,rfl⟩;simp only[mapO,Neq,↓Z0,↓Xp,↓Xt,Xq,Xc,Nae,Naa,rB,rC,rD,rE,reduceIte,Xm,rF];rfl
theorem NmL(args:List PV)(r:PV)(h:gNext args=some r):∃ fuel,evP cfgR3 fuel 52 args=some r:=by
 unfold gNext at h;split at h
 ·rename_i text at0;simp only[Sj]at h;split at h
  ·rename_i hl;rw[←h];exact⟨0+1,NeS rfl rfl (NiJ (.inl ⟨hl,rfl⟩))⟩
  ·rename_i hl;split at h
   ·rename_i ha;rw[←h];exact⟨0+1,NeS rfl rfl (NiJ (.inr ⟨by omega,ha,rfl⟩))⟩
   ·rename_i ha;rw[←h];refine⟨text.length+6+1,NeS rfl rfl ?_⟩;have:=No5 (cfg:=cfgR3) (by kernel_rfl) rfl rfl rfl (fuel:=text.length+6) (text:=text) (at0:=at0.toNat) Zaa Zaa Zaa;rw[No4 Zaa]at this;rwa[show((at0.toNat:Nat):Int)=at0 by omega]at this
 ·simp at h
theorem Nes{Gl:Gmap}:CfgOK Go.Proofs.Tryz.prog Gl cfgR0:=Ncn Ncq fun f g h=>by simp[NpA]at h
theorem Nh3{Gl:Gmap}:CfgOK Go.Proofs.Tryz.prog Gl cfgR1:=by
 refine Ncn Ncq ?_;intro f g h;unfold NpB at h;split at h
 ·rename_i e;simp only[Sj]at h;subst h;subst e;exact NcN Nes Ngz
 ·simp at h
theorem NlC{Gl:Gmap}:CfgOK Go.Proofs.Tryz.prog Gl cfgR2:=by
 refine Ncn Ncq ?_;intro f g h;unfold NpC at h;split at h
 ·rename_i e;simp only[Sj]at h;subst h;subst e;exact NcN Nes Ngz
 split at h
 ·rename_i e;simp only[Sj]at h;subst h;subst e;exact NcN Nh3 Nmw
 split at h
 ·rename_i e;simp only[Sj]at h;subst h;subst e;exact NcN Nes Nox
 ·simp at h
theorem NlD{Gl:Gmap}:CfgOK Go.Proofs.Tryz.prog Gl cfgR3:=by
 refine Ncn Ncq ?_;intro f g h;unfold NpD at h;split at h
 ·rename_i e;simp only[Sj]at h;subst h;subst e;exact NcN Nh3 NmH
 split at h
 ·rename_i e;simp only[Sj]at h;subst h;subst e;exact NcN NlC Nmg
 split at h
 ·rename_i e;simp only[Sj]at h;subst h;subst e;exact NcN Nes NoL
 ·simp at h
theorem NkU{Gl:Gmap}:NbC Go.Proofs.Tryz.prog Gl 52 gNext:=NcN NlD NmL
theorem Ex.cp_K1(e:Ex):e.cp.K=e.K:=by cases e;rw[Ex.cp];rfl
theorem Ex.cp_S1(e:Ex):e.cp.S=e.S:=by cases e;rw[Ex.cp];rfl
theorem Ex.cp_N1(e:Ex):e.cp.N=e.N:=by cases e;rw[Ex.cp];rfl
theorem Ex.cp_L1(e:Ex):e.cp.L=Exs.cp e.L:=by cases e;rw[Ex.cp];rfl
mutual
theorem Ex.cp_walk(ask:Bool):∀ (e:Ex) (d:Nat) (w:Nat×Bool),e.cp.walk ask d w=e.walk ask d w
 |.mk k s n z l,d,w=>by
   rw[Ex.cp,Ex.walk,Ex.walk,Exs.cp_len,Exs.cp_walk ask l]
theorem Exs.cp_walk(ask:Bool):∀ (l:List Ex) (d:Nat) (w:Nat×Bool),Exs.walk ask (Exs.cp l) d w=Exs.walk ask l d w
 |[],d,w=>by rw[Exs.cp]
 |e::r,d,w=>by
   rw[Exs.cp,Exs.walk,Exs.walk,Ex.cp_walk ask e,Exs.cp_walk ask r,Ex.cp_K1,Ex.cp_S1,Ex.cp_N1,Ex.cp_L1,Exs.cp_len]
end
theorem Sm.cp_sh(s:Sm):s.cp.sh=s.sh:=by
 cases s;rw[Sm.cp];unfold Sm.sh;simp only[Sm.K,Sm.O,Sm.J,Sm.I,Sm.N,Sm.A,Sm.B,Sm.E,Exs.cp_len,Sms.cp_len]
mutual
theorem Sm.cp_walk(ask:Bool):∀ (e:Sm) (d:Nat) (w:Nat×Bool),e.cp.walk ask d w=e.walk ask d w
 |.mk k o j i n za a zb b ze e r,d,w=>by
   rw[Sm.cp,Sm.walk,Sm.walk,Exs.cp_len,Sms.cp_len,Sms.cp_len];simp only[Exs.cp_walk,Sms.cp_walk ask b,Sms.cp_walk ask e]
theorem Sms.cp_walk(ask:Bool):∀ (l:List Sm) (d:Nat) (w:Nat×Bool),Sms.walk ask (Sms.cp l) d w=Sms.walk ask l d w
 |[],d,w=>by rw[Sms.cp]
 |e::r,d,w=>by
   rw[Sms.cp,Sms.walk,Sms.walk,Sm.cp_walk ask e,Sms.cp_walk ask r,Sm.cp_sh]
end
mutual
theorem Ex.cp_told(g:List UInt8→Bool):∀ e:Ex,e.cp.told g=e.told g
 |.mk k s n z l=>by
   rw[Ex.cp,Ex.told,Ex.told,Exs.cp_told g l]
theorem Exs.cp_told(g:List UInt8→Bool):∀ l:List Ex,Exs.told g (Exs.cp l)=Exs.told g l
 |[]=>by rw[Exs.cp]
 |e::r=>by
   rw[Exs.cp,Exs.told,Exs.told,Ex.cp_told g e,Exs.cp_told g r]
end
theorem Sm.cp_pre(es:List (List UInt8×Nat))(s:Sm):Nhp es s.cp=Nhp es s:=by cases s;rw[Sm.cp];rfl
theorem Sm.cp_end(s:Sm)(ls:List (List UInt8)):NlO s.cp ls=NlO s ls:=by cases s;rw[Sm.cp];rfl
theorem Sm.cp_I1(s:Sm):s.cp.I=s.I:=by cases s;rw[Sm.cp];rfl
theorem Sm.cp_A1(s:Sm):s.cp.A=Exs.cp s.A:=by cases s;rw[Sm.cp];rfl
theorem Sm.cp_stmtI(es:List (List UInt8×Nat))(ls:List (List UInt8))(s:Sm):NbZ es ls s.cp=NbZ es ls s:=by
 unfold NbZ;simp only[Sm.cp_pre,Sm.cp_end,Sm.cp_I1,Sm.cp_A1,Exs.cp_told]
mutual
theorem Sm.cp_chk(es:List (List UInt8×Nat)):∀ (s:Sm) (ls:List (List UInt8)),s.cp.chk es ls=s.chk es ls
 |.mk k o j i n za a zb b ze e r,ls=>by
   have h:=Sm.cp_stmtI es ls (.mk k o j i n za a zb b ze e r);rw[Sm.cp]at h;rw[Sm.cp,Sm.chk,Sm.chk,h];simp only[Sms.cp_chk es b,Sms.cp_chk es e]
theorem Sms.cp_chk(es:List (List UInt8×Nat)):∀ (l:List Sm) (ls:List (List UInt8)),Sms.chk es (Sms.cp l) ls=Sms.chk es l ls
 |[],ls=>by rw[Sms.cp]
 |s::t,ls=>by
   rw[Sms.cp,Sms.chk,Sms.chk];simp only[Sm.cp_chk es s,Sms.cp_chk es t]
end
mutual
theorem Sm.cp_runT:∀ (s:Sm) (t:Int),s.cp.runT t=s.runT t
 |.mk k o j i n za a zb b ze e r,t=>by
   rw[Sm.cp,Sm.runT,Sm.runT,Sms.cp_runT b,Sms.cp_runT e]
theorem Sms.cp_runT:∀ (l:List Sm) (t:Int),Sms.runT (Sms.cp l) t=Sms.runT l t
 |[],t=>by rw[Sms.cp]
 |s::r,t=>by
   rw[Sms.cp,Sms.runT,Sms.runT,Sm.cp_runT s,Sms.cp_runT r]
end
theorem Nld(ask:Bool):∀ (T:List Td) (w:Nat×Bool),Nfr ask (T.map Td.cp) w=Nfr ask T w
 |[],w=>rfl
 |t::r,w=>by
   rw[List.map_cons,Nfr,Nfr,Nld ask r];simp only[Td.cp,Sms.cp_walk]
theorem NiR(es:List (List UInt8×Nat)):∀ (T:List Td) (seen:List (List UInt8)),Nfl es (T.map Td.cp) seen=Nfl es T seen
 |[],_=>rfl
 |t::r,seen=>by
   rw[List.map_cons,Nfl,Nfl];simp only[NiR es r,Td.cp,Sms.cp_chk,Sms.cp_runT]
theorem NkW(z1 z2:Bool)(p:Pg):Ncl ⟨z1,p.D,z2,p.T.map Td.cp⟩=Ncl p:=by
 unfold Ncl Nhb NdY;simp only[List.length_map,Nld]
theorem NjP(z1 z2:Bool)(p:Pg):Ndq ⟨z1,p.D,z2,p.T.map Td.cp⟩=Ndq p:=by
 unfold Ndq;rw[NkW];simp only[NiR]
end Go.Pe
set_option maxRecDepth 100000
namespace Go.Pe
open Go Go.Am Go.RowKit
noncomputable def m3:MFunc:={ body:=.seq (Qi [Qt 1 (.box (.t 0)),Qt 2 (.mv (.c (.b false)))]) (.seq (.seq (Qi [Qw 4 2 1,Qt 5 (.call 4 false [.l 4,.c (.i .i64 (.ofNat 60)),.c (.i .i64 (.ofNat 2000))])]) (.cond (.t 5) (.seq (Qi [Ql 6 (.call 5 false []),Qm 2 6]) .ret) .skip)) (.seq (Qi [Qw 7 2 1,Ql 8 (.call 6 false [.l 7]),Qt 3 (.alloc [.nsl,.nsl]),Qn (.store 2 (.t 3) (.l 8))]) (.seq (Qi [Qw 9 2 3,Ql 10 (.callq 7 [.l 9]),Qw 11 2 1,Ql 12 (.callq 8 [.l 11]),Ql 13 (.eqs false [(0,0),(1,0)] (.l 10) (.l 12)),Qh 14 13,Qs 15 (.load true 2 (.t 3)) 14 true,Qs 16 (.load true 2 (.t 1)) 14 true,Qs 17 (.callq 9 [.l 15,.l 16,.c (.b true)]) 14 true,Ql 18 (.pick (.l 14) (.l 17) (.c (.b false))),Qh 19 18,Qs 20 (.callq 5 []) 19 true,Ql 21 (.pick (.l 19) (.l 20) (.c (.b false))),Qm 2 21]) .ret))),res:=[.t 2] }
theorem t3:Qx 3=some m3:=by kernel_rfl
noncomputable def tblX3:List (Nat×MFunc):=(3,m3)::tblL
theorem NmY:Nph Go.Proofs.Tryz.prog (Nah Go.Proofs.Tryz.prog []) tblX3:=⟨t3,Ncq⟩
end Go.Pe
set_option maxRecDepth 100000
namespace Go.Pe
open Go Go.Am Go.RowKit
theorem Nm0:fvP cfgNx 200 5 []=some (.b true):=by kernel_rfl
def gAwakeT:List PV→Option PV
 |[]=>some (.b true)
 |_=>none
theorem Nhm(args:List PV)(r:PV)(h:gAwakeT args=some r):∃ fuel,evP cfgNx fuel 5 args=some r:=by
 unfold gAwakeT at h;split at h
 ·rw[←h];refine⟨200,?_⟩;have:=Nm0;rwa[Nnh]at this
 ·cases h
theorem NlP{cfg:Cfg}{f:FuncId}(hx:cfg.ext f=none){fuel:Nat}{args:List PV}{r:PV}(ho:NaH args=(args,{ sto:=.leaf,cnt:=1 }))(hc:∀ st,Na5 st r=some r)(h:∃ r' st',NaC cfg fuel f args { sto:=.leaf,cnt:=1 }=some (r',st')∧r'=r):evP cfg fuel f args=some r:=by
 obtain⟨r',st',h1,h2⟩:=h;exact NeS hx ho ⟨r',st',h1,by rw[h2];exact hc st'⟩
noncomputable def NnY:FuncId→Option (List PV→Option PV):=fun f=>if f=55 then some gNext else if f=5 then some gAwakeT else if f=52 then some gNext else if f=12 then some (Nll 100000)else none
theorem NlT{Gl:Gmap}{m:Int}(hg:Gl 0 0=some (.int .i64 m)):∀ f g,NnY f=some g→NbC Go.Proofs.Tryz.prog Gl f g:=by
 intro f g h;unfold NnY at h;split at h
 ·rename_i e;simp only[Sj]at h;subst h;subst e;exact Ng0 (Nh5 hg)
 split at h
 ·rename_i e;simp only[Sj]at h;subst h;subst e;exact NcN (NlB hg) Nhm
 split at h
 ·rename_i e;simp only[Sj]at h;subst h;subst e;exact NkU
 split at h
 ·rename_i e;simp only[Sj]at h;subst h;subst e;exact Nh9 100000
 ·cases h
noncomputable def cfgTl:Cfg:={ fn:=fun f=>NcT f tblX3,ext:=NnY }
theorem Nh4{Gl:Gmap}{m:Int}(hg:Gl 0 0=some (.int .i64 m)):CfgOK Go.Proofs.Tryz.prog Gl cfgTl:=Ncn NmY (NlT hg)
theorem Nbs(f:FuncId)(m:MFunc)(h:NcT f tblL=some m):cfgTl.fn f=some m:=by
 show NcT f tblX3=some m;by_cases h6:f=3
 ·subst h6;have h0:NcT 3 tblL=none:=by kernel_rfl
  rw[h0]at h;cases h
 ·have hb:Nat.beq f 3=false:=by
   cases h:Nat.beq f 3 with
   |false=>rfl
   |true=>exact absurd (Nat.eq_of_beq_eq_true h) h6
  show(Bool.rec (motive:=fun _=>Option MFunc) (NcT f tblL) (some m3) (Nat.beq f 3))=some m;rw[hb];exact h
theorem NnO:CfgM cfgTl where
 nx:=by rfl
 fn:=Nbs
 x1:=by rfl
 x2:=by rfl
 x3:=by rfl
 x4:=by rfl
 x5:=by rfl
 x6:=by rfl
 x7:=by rfl
 x8:=by rfl
 x9:=by rfl
 y1:=by rfl
 y2:=by rfl
 y3:=by rfl
 y4:=by rfl
 y5:=by rfl
 y6:=by rfl
 z1:=by rfl
 z2:=by rfl
 z3:=by rfl
 z4:=by rfl
 z5:=by rfl
 z6:=by rfl
 z7:=by rfl
 z8:=by rfl
theorem NnP:CfgR cfgTl where
 toCfgM:=NnO
 rn:=by rfl
 r1:=by rfl
 r2:=by rfl
 r3:=by rfl
 r4:=by rfl
 r5:=by rfl
 r6:=by rfl
 r7:=by rfl
 r8:=by rfl
 r9:=by rfl
 ra:=by rfl
 rb:=by rfl
 rc:=by rfl
theorem NlE:Cfg10 cfgTl where
 f1:=Nbs _ _ (by kernel_rfl)
 f2:=Nbs _ _ (by kernel_rfl)
 f3:=Nbs _ _ (by kernel_rfl)
 f4:=Nbs _ _ (by kernel_rfl)
 f5:=Nbs _ _ (by kernel_rfl)
 f6:=Nbs _ _ (by kernel_rfl)
 f7:=Nbs _ _ (by kernel_rfl)
 f8:=Nbs _ _ (by kernel_rfl)
 f9:=Nbs _ _ (by kernel_rfl)
 x1:=by rfl
 x2:=by rfl
 x3:=by rfl
 x4:=by rfl
 x5:=by rfl
 x6:=by rfl
 x7:=by rfl
 x8:=by rfl
mutual
theorem Ex.dp_sz:∀ e:Ex,e.dp≤e.size
 |.mk k s n z l=>by
   rw[Ex.dp,Ex.size];have:=Exs.dp_sz l;omega
theorem Exs.dp_sz:∀ l:List Ex,Exs.dp l≤Exs.size l
 |[]=>by rw[Exs.dp];omega
 |e::r=>by
   have he:e.dp+1≤e.size:=by
    cases e with
    |mk k s n z l =>
      rw[Ex.dp,Ex.size];have:=Exs.dp_sz l;omega
   rw[Exs.dp,Exs.size];have:=Exs.dp_sz r;omega
end
mutual
theorem Sm.dp_sz:∀ s:Sm,s.dp+1≤s.size
 |.mk k o j i n za a zb b ze e r=>by
   rw[Sm.dp,Sm.size];have h1:=Exs.dp_sz a;have h2:=Sms.dp_sz b;have h3:=Sms.dp_sz e;omega
theorem Sms.dp_sz:∀ l:List Sm,Sms.dp l≤Sms.size l
 |[]=>by rw[Sms.dp];omega
 |s::r=>by
   rw[Sms.dp,Sms.size];have h1:=Sm.dp_sz s;have h2:=Sms.dp_sz r;omega
end
section
variable {z1 z2:Bool}{m1 m2:Nat}{st:St}
theorem Njn{z3 z4 b:Bool}{m3 m4:Nat}(c1 c2 c3 c4:List PV):NaH [.agg [slV z1 m1 c1,slV z2 m2 c2],.agg [slV z3 m3 c3,slV z4 m4 c4],.b b]=([.agg [slV z1 m1 c1,slV z2 m2 c2],.agg [slV z3 m3 c3,slV z4 m4 c4],.b b],{ sto:=.leaf,cnt:=1 }):=by
 unfold slV;split<;>split<;>split<;>split<;>rfl
theorem NkT{key:Nat}(c1 c2:List PV):NaO st key (.agg [slV z1 m1 c1,slV z2 m2 c2])=some (.agg [slV z1 m1 c1,slV z2 m2 c2],st):=by
 unfold slV;split<;>split<;>rfl
theorem Nib{w1 v1 w2 v2 w3 v3:PV}(h1:Go.Pe.deep st 12 w1=some v1)(h2:Go.Pe.deep st 12 w2=some v2)(h3:Go.Pe.deep st 12 w3=some v3):Nbt st [w1,w2,w3]=some [v1,v2,v3]:=by
 show mapO (Go.Pe.deep st 12) [w1,w2,w3]=_;simp only[mapO,h1,h2,h3]
theorem NhP(c1 c2:List PV)(a b:Int):NaH [.agg [slV z1 m1 c1,slV z2 m2 c2],.i .i64 a,.i .i64 b]=([.agg [slV z1 m1 c1,slV z2 m2 c2],.i .i64 a,.i .i64 b],{ sto:=.leaf,cnt:=1 }):=by
 unfold slV;split<;>split<;>rfl
theorem Nmf(c1 c2:List PV):keysL st [.agg [slV z1 m1 c1,slV z2 m2 c2]]=[]:=by
 unfold slV;split<;>split<;>rfl
theorem Nlz{g:List PV→Option PV}{key:Nat}{ps ps':List PV}{r:PV}(hd:Nbt st ps=some ps')(hg:g ps'=some r)(hk:keysL st ps=[])(hr:NaO st key r=some (r,st)):Nam g false st key ps=some (r,st):=by
 unfold Nam;simp only[hd,hg,hk,NaW,ite_self,hr]
end
mutual
theorem Ex.cp_size:∀ e:Ex,e.cp.size=e.size
 |.mk k s n z l=>by rw[Ex.cp,Ex.size,Ex.size,Exs.cp_size l]
theorem Exs.cp_size:∀ l:List Ex,Exs.size (Exs.cp l)=Exs.size l
 |[]=>by rw[Exs.cp]
 |e::r=>by rw[Exs.cp,Exs.size,Exs.size,Ex.cp_size e,Exs.cp_size r]
end
mutual
theorem Sm.cp_size:∀ s:Sm,s.cp.size=s.size
 |.mk k o j i n za a zb b ze e r=>by rw[Sm.cp,Sm.size,Sm.size,Exs.cp_size a,Sms.cp_size b,Sms.cp_size e]
theorem Sms.cp_size:∀ l:List Sm,Sms.size (Sms.cp l)=Sms.size l
 |[]=>by rw[Sms.cp]
 |s::r=>by rw[Sms.cp,Sms.size,Sms.size,Sm.cp_size s,Sms.cp_size r]
end
theorem Tds.cp_size:∀ l:List Td,Tds.size (l.map Td.cp)=Tds.size l
 |[]=>rfl
 |t::r=>by
   rw[List.map_cons,Tds.size,Tds.size,Tds.cp_size r];show Sms.size (Sms.cp t.B)+1+_=_;rw[Sms.cp_size]
set_option pp.deepTerms false
set_option pp.deepTerms.threshold 6
theorem Nm1{p:Pg}(hwf:p.wf):∃ fuel,evP cfgTl fuel 3 [.agg (Pg.cs p)]=some (.b true):=by
 obtain⟨F,hF⟩:∃ F,Tds.size p.T+p.D.length=F:=⟨_,rfl⟩;have hr:=NnP;have hc10:=NlE;have hok:=Nh4 (Gl:=fun _ _=>some (.int .i64 0)) rfl;have ho:NaH [.agg (Pg.cs p)]=([.agg (Pg.cs p)],{ sto:=.leaf,cnt:=1 }):=Ncb _ _;refine⟨(2 * F+200)+1,NlP rfl ho (fun _=>rfl) (NaA (by kernel_rfl:cfgTl.fn 3=some m3) ?_)⟩;delta m3 Ql Qt Qn Qs Qm Qh Qi Qw;have hx1:cfgTl.ext 23=none:=by rfl
 have hx2:cfgTl.ext 10=none:=by rfl
 have hx3:cfgTl.ext 4=none:=by rfl
 have hx4:cfgTl.ext 6=none:=by rfl
 have hx5:cfgTl.ext 7=none:=by rfl
 have hx6:cfgTl.ext 8=none:=by rfl
 have hx7:cfgTl.ext 9=none:=by rfl
 have hx8:cfgTl.ext 22=none:=by rfl
 have hx9:cfgTl.ext 37=none:=by rfl
 have hxa:cfgTl.ext 5=some gAwakeT:=by rfl
 have hxs:cfgTl.ext 12=some (Nll 100000):=by rfl
 have hf1:cfgTl.fn 6=some m6:=Nbs _ _ (by kernel_rfl);have hf2:cfgTl.fn 9=some m9:=Nbs _ _ (by kernel_rfl);have hf3:cfgTl.fn 22=some m22:=Nbs _ _ (by kernel_rfl);have hf4:cfgTl.fn 37=some m37:=Nbs _ _ (by kernel_rfl);obtain⟨cfg,hcfg⟩:∃ cfg,cfgTl=cfg:=⟨_,rfl⟩;rw[hcfg]at hr hc10 hok hx1 hx2 hx3 hx4 hx5 hx6 hx7 hx8 hx9 hxa hxs hf1 hf2 hf3 hf4 ⊢;have hwf0:=hwf;have hTl:=Tds.len_le p.T;have aw:∀ (st:St) (key:Nat),Nam (Naj cfg (NaC cfg (2 * F+200)) 5) false st key []=some (.b true,st):=fun st key=>Nal rfl (by rw[NaM hxa];rfl) rfl;have awq:Naj cfg (NaC cfg (2 * F+200)) 5 []=some (.b true):=by rw[NaM hxa];rfl
 obtain⟨H,hH⟩:∃ H,Npe 60 2000 p=H:=⟨_,rfl⟩;have gH:∀ (st:St) (key:Nat),Nam (Naj cfg (NaC cfg (2 * F+200)) 4) false st key [.agg [slV p.zd p.D.length (p.D.flatMap Dc.cs),slV p.zt p.T.length (p.T.flatMap Td.cs)],.i .i64 ((60:Nat):Int),.i .i64 ((2000:Nat):Int)]=some (.b H,st):=fun st key =>
  NaU (Nib (NbM _ _) rfl rfl) (Naq hx3 (NhP _ _ _ _) (fun _=>rfl) (by
   have:=Nop hr.toCfgM hx1 hx2 (lv:=60) (many:=2000) Zaa Zaa hwf0 (q:=2 * F+198) Zaa (st:={ sto:=.leaf,cnt:=1 });rw[hH]at this;exact this)) rfl rfl
 simp only[Nai];unfold Pg.cs;(try rw[Z0]);(try simp(maxSteps:=9^7)(disch:=first|omega|rfl|assumption)only[↓Yaa,Yab,Nae,Naa,rB,rC,rD,rE,reduceIte,unP,rF,Nag,Naf]);cases H with
 |true =>
   iterate 3
    (try rw[Z0]);(try simp(maxSteps:=9^7)(disch:=first|omega|rfl|assumption)only[↓Yaa,Yab,Nae,Naa,rB,rC,rD,rE,reduceIte,unP,rF,gH,aw])
   exact⟨nofun,_,rfl,by simp only[Nay,Yad,if_true]⟩
 |false =>
 have hb:=NpY hH;obtain⟨z1,z2,gP⟩:∃ z1 z2,Naj cfg (NaC cfg (2 * F+200)) 6 [.agg (Pg.cs p)]=some (.agg (Pg.cs ⟨z1,p.D,z2,p.T.map Td.cp⟩)):=by
  obtain⟨r,st',h1,z1,z2,h2⟩:=NlJ (cfg:=cfg) hf1 (fuel:=2 * F+199) (p:=p) Zaa Zaa Zaa (fun t ht=>by
   have htm:=Tds.size_mem ht;have hd:=Sms.dp_sz t.B;rw[NaM hxs];exact NhC Zaa Zaa)
  exact⟨z1,z2,NeS hx4 (Ncb _ _) ⟨r,st',h1,h2⟩⟩
 have hTs:Tds.size (p.T.map Td.cp)=Tds.size p.T:=Tds.cp_size p.T;obtain⟨R,hR⟩:∃ R,Ndq p=R:=⟨_,rfl⟩;have gC1:Naj cfg (NaC cfg (2 * F+200)) 7 [.agg (Pg.cs ⟨z1,p.D,z2,p.T.map Td.cp⟩)]=some (.agg [.i .i64 R.1,.i .i64 R.2]) :=
  Naq hx5 (Ncb _ _) (fun _=>rfl) (by
   have:=NlF hr.toCfgM (p:=⟨z1,p.D,z2,p.T.map Td.cp⟩) (q:=2 * F+197) (st:={ sto:=.leaf,cnt:=1 }) (by simp only[hTs];omega) (by simp only[hTs];omega);rw[NjP,hR]at this;exact this)
 have gC2:Naj cfg (NaC cfg (2 * F+200)) 8 [.agg (Pg.cs p)]=some (.agg [.i .i64 R.1,.i .i64 R.2]) :=
  Naq hx6 (Ncb _ _) (fun _=>rfl) (by
   have:=Ni1 hok hr hc10 (p:=p) (q:=2 * F+195) Zaa Zaa Zaa;rw[No2,hR]at this;exact this)
 have gS:Naj cfg (NaC cfg (2 * F+200)) 9 [.agg (Pg.cs ⟨z1,p.D,z2,p.T.map Td.cp⟩),.agg (Pg.cs p),.b true]=some (.b true) :=
  Naq hx7 (Njn _ _ _ _) (fun _=>rfl) (by
   have:=NmR hok hf2 hf3 hf4 hx8 hx9 (q:=2 * F+198) (p:=p) (z1:=z1) (z2:=z2) (st:={ sto:=.leaf,cnt:=1 }) Zaa Zaa Zaa NdR;unfold Pg.cs;simp only[List.length_map];exact this)
 unfold Pg.cs at gP gC1 gC2 gS;simp only at gP gC1 gS;have gP':∀ (st:St) (key:Nat),Nam (Naj cfg (NaC cfg (2 * F+200)) 6) false st key [.agg [slV p.zd p.D.length (p.D.flatMap Dc.cs),slV p.zt p.T.length (p.T.flatMap Td.cs)]]=some (_,st):=fun st key =>
  Nlz (NaX (NbM _ _)) gP (Nmf _ _) (NkT _ _)
 have hq:Ngv [(0,0),(1,0)] [.i .i64 R.1,.i .i64 R.2] [.i .i64 R.1,.i .i64 R.2]=some true:=by simp[Ngv,eq1]
 iterate 3
  (try rw[Z0]);(try simp(maxSteps:=9^7)(disch:=first|omega|rfl|assumption)only[↓Yaa,Yab,Nae,Naa,rB,rC,rD,rE,reduceIte,unP,rF,gH,gP',Nag,Naf])
 refine NaL (fun x=>∃ (P:Nat) (I:Nat),P<x.st.cnt∧(P<I)∧I<x.st.cnt∧x.env.get 1=.ptr P 0∧x.env.get 3=.ptr I 0∧x.st.get P=some (.cells [slV p.zd p.D.length (p.D.flatMap Dc.cs),slV p.zt p.T.length (p.T.flatMap Td.cs)] false)∧x.st.get I=some (.cells [slV z1 p.D.length (p.D.flatMap Dc.cs),slV z2 (p.T.map Td.cp).length ((p.T.map Td.cp).flatMap Td.cs)] false)) ?_ ?_
 ·exact⟨1,49,Zab,Zad,Zab,Zah,Zah,(by simp(disch:=omega)only[NaP,NaV];exact Yaf _ _ _),(by exact Yaf _ _ _)⟩
 rintro⟨env,⟨sto,c⟩⟩ ⟨P,I,bP,oI,bI,g1,g3,kP,kI⟩;try simp only at bP bI g1 g3
 replace kP:∀ n',St.get ⟨sto,n'⟩ P=some (.cells [slV p.zd p.D.length (p.D.flatMap Dc.cs),slV p.zt p.T.length (p.T.flatMap Td.cs)] false):=fun _=>kP;replace kI:∀ n',St.get ⟨sto,n'⟩ I=some (.cells [slV z1 p.D.length (p.D.flatMap Dc.cs),slV z2 (p.T.map Td.cp).length ((p.T.map Td.cp).flatMap Td.cs)] false):=fun _=>kI;(try rw[Z0]);(try simp(maxSteps:=9^7)(disch:=first|omega|rfl|assumption)only[↓Yaa,Yab,Nae,Naa,rB,rC,rD,rE,reduceIte,unP,rF,g1,g3,kP,kI]);refine NaS (NaX (NbM _ _)) gC1 rfl rfl ?_;(try rw[Z0]);(try simp(maxSteps:=9^7)(disch:=first|omega|rfl|assumption)only[↓Yaa,Yab,Nae,Naa,rB,rC,rD,rE,reduceIte,unP,rF,g1,g3,kP,kI]);refine NaS (NaX (NbM _ _)) gC2 rfl rfl ?_;(try rw[Z0]);(try simp(maxSteps:=9^7)(disch:=first|omega|rfl|assumption)only[↓Yaa,Yab,Nae,Naa,rB,rC,rD,rE,reduceIte,unP,rF,g1,g3,kP,kI,hq]);refine NaS (Nib (NbM _ _) (NbM _ _) rfl) gS rfl rfl ?_;(try rw[Z0]);(try simp(maxSteps:=9^7)(disch:=first|omega|rfl|assumption)only[↓Yaa,Yab,Nae,Naa,rB,rC,rD,rE,reduceIte,unP,rF,g1,g3,kP,kI]);refine NaS (show Nbt _ []=some []from rfl) awq rfl rfl ?_
 iterate 2
  (try rw[Z0]);(try simp(maxSteps:=9^7)(disch:=first|omega|rfl|assumption)only[↓Yaa,Yab,Nae,Naa,rB,rC,rD,rE,reduceIte,unP,rF,g1,g3,kP,kI])
 exact⟨nofun,_,rfl,by simp only[Nay,Yad,if_true]⟩
theorem Nlb(f:Nat)(cs:List PV)(h:(NkN f).Is cs):∃ fuel,evP cfgTl fuel 3 [.agg cs]=some (.b true):=by
 obtain⟨p,rfl,hwf⟩:=NrW f cs h;exact Nm1 hwf
end Go.Pe
