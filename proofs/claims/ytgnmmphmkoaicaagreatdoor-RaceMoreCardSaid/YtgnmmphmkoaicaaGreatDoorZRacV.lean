/-
 RaceMore: the law, walked. No condition.
-/
import Derived.Test.YtgnmmphmkoaicaaGreatDoorZRacN
import Derived.Test.YtgnmmphmkoaicaaGreatDoorZPeTbl
import Derived.Test.YtgnmmphmkoaicaaGreatDoorZGrtA
import Derived.Test.YtgnmmphmkoaicaaGreatDoorZCoeF
set_option linter.unusedVariables false
set_option linter.unusedSimpArgs false
set_option maxHeartbeats 8000000
open Nat renaming reduceAdd → rA,reduceMul → rB,reduceLT → rC,reduceEqDiff → rD,reduceLeDiff → rE
namespace Go.Pe
open Go Go.Am Go.RowKit

theorem Ng7 (r:Nat × Nat × Nat):(rcC r).length = 3:=rfl
theorem NmW {st:St} {l:List (Nat × Nat × Nat)} {i:Nat} (h:i < l.length):Nba st 3 (.fptr ((l.flatMap rcC).drop (i * 3))) = some [.i .i64 (l[i].1:Int),.i .i64 (l[i].2.1:Int),.i .i64 (l[i].2.2:Int)]:=NbL Ng7 h
theorem Nlk {cfg:Cfg} (hf:cfg.fn 16 = some m16) {fuel:Nat} {st:St} {rs:List (Nat × Nat × Nat)} {z z':Bool} (hl:rs.length + 2 ≤ fuel) (hb:rs.length ≤ reachBytes) :
 ∃ r st',NaE cfg (fuel + 1) 16 [slV z rs.length (rs.flatMap rcC),slV z' rs.length (rs.flatMap rcC)] st = some (r,st') ∧ r = .b true:=by
 refine NaB hf ?_
 delta m16 Qa Ql Qt Qk Qm
 have hrb:reachBytes = 140737488351232:=rfl
 have hlv:=Naw z rs.length (rs.flatMap rcC)
 have hlv':=Naw z' rs.length (rs.flatMap rcC)
 have hE:=Nav Ng7 rs
 have bn:((rs.length:Int) != (rs.length:Int)) = false:=by simp
 obtain ⟨sto0,c0⟩:=st
 simp only [Nal]
 iterate 5
  (try rw [Z0])
  (try simp (maxSteps:=2000000) (disch:=first | omega | rfl | assumption) only [↓Yaa,Yab,Nae,Naa,rA,rB,rC,rD,reduceIte,unP,rE,Nag,Naf,hlv,hlv',bn])
 refine NaD (fun x => x.env.get 0 = slV z rs.length (rs.flatMap rcC) ∧ x.env.get 1 = slV z' rs.length (rs.flatMap rcC) ∧ x.env.get 12 = .i .i64 (rs.length:Int) ∧ x.env.get 13 = .i .i64 ((0:Nat):Int)) ?_ ?_
 ·exact ⟨Zab,Zab,Zab,Zab⟩
 rintro ⟨env,⟨sto,c⟩⟩ ⟨g0,g1,g12,g13⟩
 try simp only at g0 g1 g12 g13
 refine Z9 (k:=rs.length - 0) (fun m x => ∃ (i:Nat),m = rs.length - i ∧ x.env.get 0 = slV z rs.length (rs.flatMap rcC) ∧ x.env.get 1 = slV z' rs.length (rs.flatMap rcC) ∧ x.env.get 12 = .i .i64 (rs.length:Int) ∧ x.env.get 13 = .i .i64 (i:Int) ∧ (i ≤ rs.length)) ?_ ?_ Zaa
 ·clear g0 g1 g12 g13
  rintro m ⟨env,⟨sto,c⟩⟩ ⟨i,rfl,g0,g1,g12,g13,hi⟩
  try simp only at g0 g1 g12 g13
  by_cases hil:i < rs.length
  ·rw [Naq hil] at g0 g1
   have hld:=fun st => NmW (st:=st) hil
   have hq:Ngy [(0,0),(1,0),(2,0)] [.i .i64 (rs[i].1:Int),.i .i64 (rs[i].2.1:Int),.i .i64 (rs[i].2.2:Int)] [.i .i64 (rs[i].1:Int),.i .i64 (rs[i].2.1:Int),.i .i64 (rs[i].2.2:Int)] = some true:=by simp [Ngy,eq1]
   iterate 6
    (try rw [Z0])
    (try simp (maxSteps:=2000000) (disch:=first | omega | rfl | assumption) only [↓Yaa,Yab,Nae,Naa,rA,rB,rC,rD,reduceIte,unP,rE,g0,g1,g12,g13,hld,hE,hq,Option.map_some])
   exact ⟨rs.length - (i + 1),by omega,i + 1,rfl,(Naq hil).symm,(Naq hil).symm,rfl,by omega⟩
  ·skip
   iterate 5
    (try rw [Z0])
    (try simp (maxSteps:=2000000) (disch:=first | omega | rfl | assumption) only [↓Yaa,Yab,Nae,Naa,rA,rB,rC,rD,reduceIte,unP,rE,g0,g1,g12,g13])
   exact ⟨nofun,_,rfl,by simp only [NaA,Yac,if_true]⟩
 ·skip
  refine ⟨0,rfl,?_,?_,?_,?_,?_⟩ <;> first | with_reducible rfl | with_reducible assumption | (simp [Yac,g0,g1,g12,g13] <;> omega) | assumption | rfl | omega | (simp only [Z0L_,NaC]; omega) | (simp; omega) | (simp; done)
end Go.Pe
set_option maxRecDepth 100000
namespace Go.Pe
open Go Go.Am Go.RowKit
noncomputable def m6:MFunc:={ body:=.seq (.region [Qt 3 (.box (.t 0)),Qt 5 (.box (.t 2)),Qt 6 (.mv (.c (.b false)))]) (.seq (.region [Ql 14 (.indexAddr (some 2) 1 (.t 5) (Qk 0)),Qr 15 14,Ql 16 (.indexAddr (some 2) 1 (.t 5) (Qk 1)),Qr 17 16,Qm 7 15,Qm 8 17]) (.seq (.seq (.region [Ql 18 (.load true 2 (.t 3)),Ql 19 (.call 14 false [.l 18]),Qh 20 19,Qs 21 (.load true 2 (.t 3)) 20 false,Qs 22 (.mv (.t 1)) 20 false,Qs 23 (.call 15 false [.l 21,.l 22]) 20 false,Qs 24 (.un .not (.l 23)) 20 false,Ql 25 (.pick (.l 20) (.c (.b true)) (.l 24)),Qh 26 25,Qs 27 (.fieldAddr 1 (.t 3)) 26 false,Qs 28 (.load false 1 (.l 27)) 26 false,Qs 29 (.len (.l 28)) 26 false,Qs 30 (.bin .eql (.l 29) (Qk 0)) 26 false,Ql 31 (.pick (.l 26) (.c (.b true)) (.l 30)),Qh 32 31,Qs 33 (.fieldAddr 0 (.t 3)) 32 false,Qs 34 (.load false 1 (.l 33)) 32 false,Qs 35 (.len (.l 34)) 32 false,Qs 36 (.bin .eql (.l 35) (Qk 0)) 32 false,Qt 37 (.pick (.l 32) (.c (.b true)) (.l 36))]) (.cond (.t 37) (.seq (.region [Ql 38 (.call 13 false []),Qm 6 38]) .ret) .skip)) (.seq (.region [Qa 39 1,Qa 40 1,Ql 41 (.len (.l 40)),Ql 42 (.min (.l 41) [.c (.i .i64 (.ofNat 60))]),Ql 43 (.slice none 5 (.l 39) none (some (.l 42))),Qm 1 43]) (.seq (.region [Qa 44 7,Qa 45 1,Ql 46 (.len (.l 45)),Ql 47 (.bin .add (.l 46) (Qk 1)),Ql 48 (.call 11 false [.l 44,.l 47]),Qm 9 48]) (.seq (.chain [Ql 49 (.bslice 0 5 [] []),Qa 50 1,Qa 51 9,Ql 52 (.slice none 5 (.l 50) none (some (.l 51))),Ql 53 (.append 5 40 (.l 49) (.l 52)),Qa 54 8,Qg 55 1 3,Qr 56 55,Ql 57 (.len (.l 56)),Ql 58 (.call 11 false [.l 54,.l 57]),Ql 59 (.build [.i .i64 (.ofNat 0),.i .u8 (.ofNat 0),.i .i64 (.ofNat 0),.i .i64 (.ofNat 0),.i .i64 (.ofNat 0)] [(0,1,.l 58),(1,1,.c (.i .u8 (.ofNat 27)))]),Ql 60 (.bslice 1 5 [.i .i64 (.ofNat 0),.i .u8 (.ofNat 0),.i .i64 (.ofNat 0),.i .i64 (.ofNat 0),.i .i64 (.ofNat 0)] [(0,5,.l 59)]),Ql 61 (.append 5 40 (.l 53) (.l 60)),Qa 62 1,Qa 63 9,Ql 64 (.slice none 5 (.l 62) (some (.l 63)) none),Ql 65 (.append 5 40 (.l 61) (.l 64)),Qm 10 65] [0,0,0,6,15,0,0,64,192,511,1023,2047,4095,0,0,24576,65535,131071] none) (.seq (.region [Qt 11 (.mv (.c .nsl))]) (.seq (.seq (.region [Ql 66 (.load true 2 (.t 3)),Qa 67 1,Qt 68 (.call 12 false [.l 66,.l 67]),Qt 69 (.len (.t 68)),Qt 70 (.mv (Qk 0))]) (.block 0 (.loop (.seq (.region [Qt 71 (.bin .lss (.t 70) (.t 69))]) (.seq (.cond (.t 71) .skip (.exit 0)) (.seq (.block 1 (.seq (.region [Ql 72 (.indexAddr none 3 (.t 68) (.t 70)),Ql 73 (.load true 3 (.l 72)),Qt 13 (.alloc [.i .i64 (.ofNat 0),.i .i64 (.ofNat 0),.i .i64 (.ofNat 0)]),Qn (.store 3 (.t 13) (.l 73))]) (.seq (.seq (.region [Qg 74 1 13,Qr 75 74,Qa 76 9,Qt 77 (.bin .geq (.l 75) (.l 76))]) (.cond (.t 77) (.region [Qg 78 1 13,Qr 79 78,Ql 80 (.bin .add (.l 79) (Qk 1)),Qg 81 1 13,Qn (.store 1 (.l 81) (.l 80))]) .skip)) (.seq (.seq (.region [Qg 82 2 13,Qr 83 82,Qa 84 9,Qt 85 (.bin .geq (.l 83) (.l 84))]) (.cond (.t 85) (.region [Qg 86 2 13,Qr 87 86,Ql 88 (.bin .add (.l 87) (Qk 1)),Qg 89 2 13,Qn (.store 1 (.l 89) (.l 88))]) .skip)) (.region [Qa 90 11,Ql 91 (.load true 3 (.t 13)),Ql 92 (.bslice 1 3 [.i .i64 (.ofNat 0),.i .i64 (.ofNat 0),.i .i64 (.ofNat 0)] [(0,3,.l 91)]),Ql 93 (.append 3 24 (.l 90) (.l 92)),Qm 11 93]))))) (.region [Ql 94 (.bin .add (.t 70) (Qk 1)),Qm 70 94]))))))) (.seq (.region [Ql 95 (.load true 2 (.t 3)),Qa 96 10,Ql 97 (.call 12 false [.l 95,.l 96]),Qa 98 11,Ql 99 (.call 16 false [.l 97,.l 98]),Qh 100 99,Qs 101 (.call 13 false []) 100 true,Ql 102 (.pick (.l 100) (.l 101) (.c (.b false))),Qm 6 102]) .ret)))))))),res:=[.t 6] }
theorem t6:Qx 6 = some m6:=by kernel_rfl
noncomputable def tblX6:List (Nat × MFunc):=(6,m6) :: tblL
theorem Nlv:Nny Go.Proofs.Tryz.prog (Nah Go.Proofs.Tryz.prog []) tblX6:=⟨t6,NfB⟩
end Go.Pe
set_option maxRecDepth 100000
namespace Go.Pe
open Go Go.Am Go.RowKit

theorem NjP:fvP cfgNx 400 13 [] = some (.b true):=by kernel_rfl
theorem Nfu (args:List PV) (r:PV) (h:gTrue args = some r):∃ fuel,evP cfgNx fuel 13 args = some r:=by
 unfold gTrue at h
 split at h
 ·rw [← h]
  refine ⟨400,?_⟩
  have:=NjP
  rwa [NlN] at this
 ·cases h
def Npn:FuncId → Option (List PV → Option PV):=fun f => if f = 52 then some gNext else if f = 75 then some gJoin else if f = 72 then some gTick else none
theorem NiZ {Gl:Gmap} {m:Int} (hg:Gl 0 0 = some (.int .i64 m)):∀ f g,Npn f = some g → NbD Go.Proofs.Tryz.prog Gl f g:=by
 intro f g h
 unfold Npn at h
 split at h
 ·rename_i e; simp only [Sj] at h; subst h; subst e
  exact Nge (Nhm hg)
 split at h
 ·rename_i e; simp only [Sj] at h; subst h; subst e
  exact NmR
 split at h
 ·rename_i e; simp only [Sj] at h; subst h; subst e
  exact Nnn
 ·cases h
noncomputable def cfgR:Cfg:={ fn:=fun f => NcZ f tblL,ext:=Npn }
theorem Nmi {Gl:Gmap} {m:Int} (hg:Gl 0 0 = some (.int .i64 m)):CfgOK Go.Proofs.Tryz.prog Gl cfgR:=Nff NfB (NiZ hg)
theorem NnK:CfgZ cfgR where
 nx:=by rfl
 fn:=fun _ _ h => h
 jn:=by rfl
 tk:=by rfl
 x1:=by rfl
 x2:=by rfl
 x3:=by rfl
 x4:=by rfl
 x5:=by rfl
 x6:=by rfl
 x7:=by rfl
 x8:=by rfl
 x9:=by rfl
 y1:=by rfl
 y2:=by rfl
 y3:=by rfl
 y4:=by rfl
 y5:=by rfl
 y6:=by rfl
 z1:=by rfl
 z2:=by rfl
 z3:=by rfl
 z4:=by rfl
 z5:=by rfl
 z6:=by rfl
 z7:=by rfl
 z8:=by rfl
 r1:=by rfl
 r2:=by rfl
 r3:=by rfl
 r4:=by rfl
 r5:=by rfl
 r6:=by rfl
 r7:=by rfl
 r8:=by rfl
 a1:=by rfl
 a2:=by rfl
 a3:=by rfl
 a4:=by rfl
 k1:=by rfl
 k2:=by rfl
 k3:=by rfl
 k4:=by rfl
 k5:=by rfl
 k6:=by rfl
 k7:=by rfl
 k8:=by rfl
 k9:=by rfl
theorem NcS {α:Type} (f:α → Nat):∀ l:List α,∃ B,∀ a,a ∈ l → f a ≤ B
 | [] => ⟨0,by simp⟩
 | a :: r => by
   obtain ⟨B,hB⟩:=NcS f r
   refine ⟨f a + B,fun b hb => ?_⟩
   rcases List.mem_cons.1 hb with rfl | hb
   ·omega
   ·have:=hB b hb; omega
theorem NlH (cd:Cd) (M:Nat):∃ F,CdF cd F ∧ M ≤ F:=by
 obtain ⟨B1,h1⟩:=NcS (fun t:Tx => t.C.length) cd.T
 obtain ⟨B2,h2⟩:=NcS (fun t:Tx => Classical.choose (NcS (fun x:In => Exs.size x.A + x.A.length + 100) t.C)) cd.T
 refine ⟨cd.O.length + cd.T.length + B1 + B2 + M,⟨by omega,by omega,fun t ht => by have:=h1 t ht; (try simp only at this); omega,fun t ht x hx => ?_⟩,by omega⟩
 have a1:=Classical.choose_spec (NcS (fun x:In => Exs.size x.A + x.A.length + 100) t.C) x hx
 have a2:=h2 t ht
 try simp only at a1 a2
 omega
theorem CdF.up {cd:Cd} {F F':Nat} (h:CdF cd F) (hF:F ≤ F'):CdF cd F':=⟨Nat.le_trans h.o hF,Nat.le_trans h.t hF,fun t ht => Nat.le_trans (h.c t ht) hF,fun t ht x hx => Nat.le_trans (h.a t ht x hx) hF⟩
theorem Nmm (cd:Cd) (hwf:cd.wf):∃ ck:Int,(∃ fuel,evP cfgR fuel 27 [.agg (Cd.cs cd)] = some (.i .i64 ck)) ∧ (ck = 0 → OkC cd ∧ ∀ d,d ∈ cd.O → NfD cd d = true):=by
 obtain ⟨F,hF,-⟩:=NlH cd 0
 obtain ⟨ck,h1,h2⟩:=NgI (F:=F) NnK hwf hF
 exact ⟨ck,⟨F + 50,h1⟩,h2⟩
noncomputable def Npm (cd:Cd) (hwf:cd.wf):Int:=Classical.choose (Nmm cd hwf)
theorem Nkq (cd:Cd) (hwf:cd.wf):∃ fuel,evP cfgR fuel 27 [.agg (Cd.cs cd)] = some (.i .i64 (Npm cd hwf)):=(Classical.choose_spec (Nmm cd hwf)).1
theorem Nml (cd:Cd) (hwf:cd.wf):Npm cd hwf = 0 → OkC cd ∧ ∀ d,d ∈ cd.O → NfD cd d = true:=(Classical.choose_spec (Nmm cd hwf)).2
open Classical in
noncomputable def gCk (cd:Cd) (hwf:cd.wf):List PV → Option PV:=fun args => if args = [.agg (Cd.cs cd)] then some (.i .i64 (Npm cd hwf)) else none
theorem NnM (cd:Cd) (hwf:cd.wf) (args:List PV) (r:PV) (h:gCk cd hwf args = some r):∃ fuel,evP cfgR fuel 27 args = some r:=by
 unfold gCk at h
 split at h
 ·rename_i e
  simp only [Sj] at h
  subst h; subst e
  exact Nkq cd hwf
 ·cases h
theorem NkA {cfg:Cfg} {f:FuncId} (hx:cfg.ext f = none) {fuel:Nat} {args:List PV} {r:PV} (ho:NaM args = (args,{ sto:=.leaf,cnt:=1 })) (hc:∀ st,Na5 st r = some r) (h:∃ r' st',NaE cfg fuel f args { sto:=.leaf,cnt:=1 } = some (r',st') ∧ r' = r):evP cfg fuel f args = some r:=by
 obtain ⟨r',st',h1,h2⟩:=h
 exact Nht hx ho ⟨r',st',h1,by rw [h2]; exact hc st'⟩
noncomputable def NpI (cd:Cd) (hwf:cd.wf):FuncId → Option (List PV → Option PV):=fun f => if f = 13 then some gTrue else if f = 27 then some (gCk cd hwf) else Npn f
theorem Nmv {cd:Cd} {hwf:cd.wf} {Gl:Gmap} {m:Int} (hg:Gl 0 0 = some (.int .i64 m)):∀ f g,NpI cd hwf f = some g → NbD Go.Proofs.Tryz.prog Gl f g:=by
 intro f g h
 unfold NpI at h
 split at h
 ·rename_i e; simp only [Sj] at h; subst h; subst e
  exact NjK (Nkn hg) Nfu
 split at h
 ·rename_i e; simp only [Sj] at h; subst h; subst e
  exact NjK (Nmi hg) (NnM cd hwf)
 ·exact NiZ hg f g h
end Go.Pe
namespace Go.Pe
open Go Go.Am Go.RowKit

theorem Nlz {ck:Int} {cd:Cd} {l:List Et} (h:trV ck cd l = true) (n:Nat):trV ck cd (l.take n) = true:=by
 unfold trV at h ⊢
 simp only [Bool.and_eq_true,List.all_eq_true] at h ⊢
 exact ⟨h.1,fun e he => h.2 e (List.mem_of_mem_take he)⟩
theorem NlA {ck:Int} {cd:Cd} {l:List Et} (h:trV ck cd l = true):ck = 0:=by
 unfold trV at h
 simp only [Bool.and_eq_true,beq_iff_eq] at h
 exact h.1
theorem Ni5 {l:List Et} {n:Nat}:(l.flatMap Et.cs).take (n * 5) = (l.take n).flatMap Et.cs:=by
 induction l generalizing n with
 | nil => simp
 | cons a r ih =>
   cases n with
   | zero => simp
   | succ n =>
     rw [List.take_succ_cons,List.flatMap_cons,List.flatMap_cons,← ih,List.take_append,Et.cs_len,List.take_of_length_le (by rw [Et.cs_len]; omega)]
     congr 2
     omega
theorem Nlp (n:Nat) (cs:List PV):slV false n cs = .fsl n cs:=by unfold slV; rw [if_neg Zag]
theorem Ngp {cfg:Cfg} (hc:CfgG cfg) {fuel:Nat} (hf:1 ≤ fuel) (x:Int) {n:Int} (hn:1 ≤ n ∧ n ≤ 4611686018427387904):∃ p:Nat,(p:Int) < n ∧ Nak cfg (NaE cfg fuel) 11 [.i .i64 x,.i .i64 n] = some (.i .i64 (p:Int)):=by
 obtain ⟨q,rfl⟩:∃ q,fuel = q + 1:=⟨fuel - 1,by omega⟩
 obtain ⟨r,st',h1,p,h2,h3⟩:=Nle (fuel:=q) (st:={ sto:=.leaf,cnt:=1 }) (x:=x) hc hn
 exact ⟨p,h2,Nau hc.n3 rfl (fun _ => rfl) ⟨r,st',h1,h3⟩⟩
theorem NqV (k:Nat) (l:List Et):Nig (.i .i64 (l.length:Int)) [.i .i64 ((k:Nat):Int)] = some (.i .i64 ((l.take k).length:Int)):=by
 unfold Nig
 simp only [if_true,List.length_take]
 unfold Nig
 congr 2
 split <;> omega
theorem Noz (k:Nat) (l:List Et):Nb0 5 none (some (.i .i64 ((l.take k).length:Int))) (.fsl l.length (l.flatMap Et.cs)) = some (.fsl (l.take k).length ((l.take k).flatMap Et.cs)):=by
 have h1:(l.take k).length ≤ l.length:=by rw [List.length_take]; omega
 have h2:(l.flatMap Et.cs).take ((l.take k).length * 5) = (l.take k).flatMap Et.cs:=by
  rw [Ni5]
  congr 1
  rw [List.length_take]
  by_cases h:k ≤ l.length
  ·rw [Nat.min_eq_left h]
  ·rw [Nat.min_eq_right Zaa,List.take_of_length_le (Nat.le_refl _),List.take_of_length_le Zaa]
 have hE:=Nav Et.cs_len l
 unfold Nb0
 simp only [bound]
 rw [if_pos ⟨by omega,by omega⟩]
 simp only [Int.toNat_natCast,Nat.sub_zero,Nat.zero_mul,List.drop_zero]
 rw [if_pos hE,h2]
theorem NkQ (l:List Et):((l.flatMap Et.cs).all PV.flat) = true:=by
 rw [List.all_eq_true]
 intro p hp
 obtain ⟨e,-,he⟩:=List.mem_flatMap.1 hp
 simp only [Et.cs,List.mem_cons,List.not_mem_nil,or_false] at he
 rcases he with rfl | rfl | rfl | rfl | rfl <;> rfl
theorem NjG {st:St} {v:PV} {l:List Et} {n:Nat} (h:Own st 5 v n (l.flatMap Et.cs)) (hn:n = l.length):∃ z,Go.Pe.deep st 12 v = some (slV z l.length (l.flatMap Et.cs)):=by
 subst hn
 rcases h.deep (NkQ l) with ⟨_,h0,h1,h2⟩ | h2
 ·exact ⟨true,by rw [h2,h0]; rfl⟩
 ·exact ⟨false,by rw [h2,Nlp]⟩
theorem NlJ (l:List Et):(l.flatMap Et.cs).all PV.one = true:=by
 rw [List.all_eq_true]
 intro p hp
 obtain ⟨e,-,he⟩:=List.mem_flatMap.1 hp
 simp only [Et.cs,List.mem_cons,List.not_mem_nil,or_false] at he
 rcases he with rfl | rfl | rfl | rfl | rfl <;> rfl
theorem Nhk (st:St) (l:List Et):cellsOf st 5 (.fsl l.length (l.flatMap Et.cs)) = some (l.length,l.flatMap Et.cs):=by
 have:=Nav Et.cs_len l
 unfold cellsOf
 simp only [this,if_true]
end Go.Pe
namespace Go.Pe
open Go Go.Am Go.RowKit

theorem NjU {st:St} {v:PV} {rs:List (Nat × Nat × Nat)} (h:Own st 3 v rs.length (rs.flatMap rcC)):∃ z,Go.Pe.deep st 12 v = some (slV z rs.length (rs.flatMap rcC)):=by
 rcases h.deep (Ng8 rs) with ⟨_,h0,h1,h2⟩ | h2
 ·exact ⟨true,by rw [h2,h0]; rfl⟩
 ·exact ⟨false,by rw [h2,Nlp]⟩
theorem NjF {z z':Bool} {n n':Nat} (cs cs':List PV):NaM [slV z n cs,slV z' n' cs'] = ([slV z n cs,slV z' n' cs'],{ sto:=.leaf,cnt:=1 }):=by
 unfold slV
 split <;> split <;> rfl
theorem NjY {cfg:Cfg} (hf:cfg.fn 16 = some m16) (hx:cfg.ext 16 = none) {fuel:Nat} {rs:List (Nat × Nat × Nat)} {z z':Bool} (hl:rs.length + 2 ≤ fuel) (hb:rs.length ≤ reachBytes):Nak cfg (NaE cfg (fuel + 1)) 16 [slV z rs.length (rs.flatMap rcC),slV z' rs.length (rs.flatMap rcC)] = some (.b true) :=
 Nau hx (NjF _ _) (fun _ => rfl) (Nlk hf hl hb)
end Go.Pe
set_option maxHeartbeats 8000000
namespace Go.Pe
open Go Go.Am Go.RowKit

noncomputable def NfO (cd:Cd) (hwf:cd.wf):Cfg:={ fn:=fun f => NcZ f tblX6,ext:=NpI cd hwf }
theorem Nhl {cd:Cd} {hwf:cd.wf} {Gl:Gmap} {m:Int} (hg:Gl 0 0 = some (.int .i64 m)):CfgOK Go.Proofs.Tryz.prog Gl (NfO cd hwf):=Nff Nlv (Nmv hg)
theorem Nkm {cd:Cd} {hwf:cd.wf} (f:FuncId) (m:MFunc) (h:NcZ f tblL = some m):(NfO cd hwf).fn f = some m:=by
 show NcZ f tblX6 = some m
 by_cases h6:f = 6
 ·subst h6
  have h0:NcZ 6 tblL = none:=by kernel_rfl
  rw [h0] at h; cases h
 ·have hb:Nat.beq f 6 = false:=by
   cases h:Nat.beq f 6 with
   | false => rfl
   | true => exact absurd (Nat.eq_of_beq_eq_true h) h6
  show (Bool.rec (motive:=fun _ => Option MFunc) (NcZ f tblL) (some m6) (Nat.beq f 6)) = some m
  rw [hb]
  exact h
theorem Nmh {cd:Cd} {hwf:cd.wf}:CfgG (NfO cd hwf) where
 fn:=Nkm
 jn:=by rfl
 tk:=by rfl
 r1:=by rfl
 r2:=by rfl
 r3:=by rfl
 r4:=by rfl
 r5:=by rfl
 r6:=by rfl
 r7:=by rfl
 r8:=by rfl
 a1:=by rfl
 a2:=by rfl
 a3:=by rfl
 n2:=by rfl
 n3:=by rfl
 n4:=by rfl
 n5:=by rfl
theorem Nqg {l:List Et} {k:Nat} (hk:k ≤ l.length):Nb0 5 none (some (.i .i64 (k:Int))) (.fsl l.length (l.flatMap Et.cs)) = some (.fsl (l.take k).length ((l.take k).flatMap Et.cs)):=by
 have:=Noz k l
 rw [List.length_take,Nat.min_eq_left hk] at this ⊢
 exact this
theorem Nic {l:List Et} {n:Nat}:(l.flatMap Et.cs).drop (n * 5) = (l.drop n).flatMap Et.cs:=by
 induction l generalizing n with
 | nil => simp
 | cons a r ih =>
   cases n with
   | zero => simp
   | succ n =>
     rw [List.drop_succ_cons,List.flatMap_cons,← ih,show (n + 1) * 5 = a.cs.length + n * 5 by rw [Et.cs_len]; omega,← List.drop_drop,List.drop_left]
theorem NpG {l:List Et} {k:Nat} (hk:k ≤ l.length):Nb0 5 (some (.i .i64 (k:Int))) none (.fsl l.length (l.flatMap Et.cs)) = some (.fsl (l.drop k).length ((l.drop k).flatMap Et.cs)):=by
 have hE:=Nav Et.cs_len l
 have hE2:=Nav Et.cs_len (l.drop k)
 unfold Nb0
 simp only [bound]
 rw [if_pos ⟨by omega,by omega⟩]
 simp only [Int.toNat_natCast]
 rw [if_pos hE,Nic,List.length_drop,List.take_of_length_le (by rw [hE2,List.length_drop]; omega)]
theorem Ni8 {ac:Nat → Bool} {ob:Nat → Int} {rc:Nat → Nat → Bool} {o:Int}:∀ {j:Nat} {p:Nat × Nat},NeH ac ob rc j o = some p → p.1 < j ∧ p.2 < j
 | 0,p,h => by cases h
 | j + 1,p,h => by
   rw [NeH] at h
   split at h
   ·cases e:NeH ac ob rc j o with
    | some q =>
      rw [e] at h
      simp at h
      subst h
      have:=Ni8 e
      omega
    | none =>
      rw [e,Option.none_or] at h
      unfold NfZ at h
      cases hq:(Nbv ac ob j o).find? (rc · j) with
      | none => rw [hq] at h; cases h
      | some i =>
        rw [hq] at h
        simp at h
        subst h
        have:=(Nc2 (List.mem_of_find?_eq_some hq)).1
        exact ⟨by simp only; omega,by simp only; omega⟩
   ·have:=Ni8 h
    omega
theorem Nne {cd:Cd} {l:List Et} {n:Nat} {r:Nat × Nat × Nat} (h:r ∈ NeJ cd l n):r.2.1 < l.length ∧ r.2.2 < l.length:=by
 unfold NeJ at h
 obtain ⟨o,-,ho⟩:=List.mem_filterMap.1 h
 unfold Nl0 at ho
 cases e:Nfq cd l l.length (o:Int) with
 | none => rw [e] at ho; cases ho
 | some p =>
   rw [e] at ho
   simp at ho
   subst ho
   exact Ni8 e
theorem NhQ (rs:List (Nat × Nat × Nat)):OutV (Nnf rs) 3 rs.length (rs.flatMap rcC):=by
 unfold Nnf
 by_cases h:rs = []
 ·rw [if_pos h,h]; exact .inl ⟨rfl,rfl,rfl⟩
 ·rw [if_neg h]; exact .inr rfl
theorem Ng9:∀ rs:List (Nat × Nat × Nat),clO (rs.flatMap rcC) = true
 | [] => rfl
 | r :: rs => by
   have:=Ng9 rs
   unfold clO at this ⊢
   rw [List.flatMap_cons,List.all_append,this]; rfl
def shR (k:Nat) (r:Nat × Nat × Nat):Nat × Nat × Nat:=(r.1,shK k r.2.1,shK k r.2.2)
theorem Nqe {l:List (Nat × Nat × Nat)} {i:Nat} (h:i < l.length):List.take 3 (List.drop (i * 3) (l.flatMap rcC)) = rcC l[i]:=by
 induction l generalizing i with
 | nil => simp at h
 | cons a r ih =>
   cases i with
   | zero => rfl
   | succ i =>
     rw [List.flatMap_cons,show (i + 1) * 3 = (rcC a).length + i * 3 by rw [Ng7]; omega,← List.drop_drop,List.drop_left]
     exact ih (by simpa using h)
theorem Nfy (n:Nat) (cs:List PV):PV.same NbT (.fsl n cs) (.fsl n cs) = true:=PV.same_fslR n cs
theorem NjZ (z:Bool) (n:Nat) (cs:List PV):PV.same NbT (slV z n cs) (slV z n cs) = true:=by
 unfold slV
 split
 ·rfl
 ·exact Nfy n cs
theorem NmU {cd:Cd} (hwf:cd.wf) {l:List Et} (hl:l.length ≤ reachBytes) {x0 x1:Int}:∃ fuel,evP (NfO cd hwf) fuel 6 [.agg (Cd.cs cd),.fsl l.length (l.flatMap Et.cs),.agg [.i .i64 x0,.i .i64 x1]] = some (.b true):=by
 obtain ⟨F,hF,hFl⟩:=NlH cd (l.length + cd.O.length + 200)
 obtain ⟨ck,hck0⟩:∃ ck,Npm cd hwf = ck:=⟨_,rfl⟩
 have hok0:=Nml cd hwf
 rw [hck0] at hok0
 refine ⟨(F + 50) + 1,NkA rfl rfl (fun _ => rfl) (NaB (by kernel_rfl:(NfO cd hwf).fn 6 = some m6) ?_)⟩
 delta m6 Qa Qr Qg Ql Qt Qn Qs Qk Qm Qh
 have hc:CfgG (NfO cd hwf):=Nmh
 have hok:=Nhl (cd:=cd) (hwf:=hwf) (Gl:=fun _ _ => some (.int .i64 0)) rfl
 obtain ⟨cfg,hcfg⟩:∃ cfg,NfO cd hwf = cfg:=⟨_,rfl⟩
 have hxk:cfg.ext 27 = some (gCk cd hwf):=by rw [← hcfg]; rfl
 have hxa:cfg.ext 13 = some gTrue:=by rw [← hcfg]; rfl
 rw [hcfg] at hc hok ⊢
 have hckr:∀ callE,Nak cfg callE 27 [.agg (Cd.cs cd)] = some (.i .i64 ck):=fun callE => by
  rw [Nbj hxk]
  unfold gCk
  rw [if_pos rfl,hck0]
 obtain ⟨hwO,hwT,-,-⟩:=id hwf
 have hrb:reachBytes = 140737488351232:=rfl
 have aw:∀ (st:St) (key:Nat),Nam (Nak cfg (NaE cfg (F + 50)) 13) false st key [] = some (.b true,st):=fun st key => Nay rfl (by rw [Nbj hxa]; rfl) rfl
 have awq:Nak cfg (NaE cfg (F + 50)) 13 [] = some (.b true):=by rw [Nbj hxa]; rfl
 obtain ⟨gb,hgb⟩:=Nja hc (F:=F) (cd:=cd) hwf hF
 have gG:∀ (st:St) (key:Nat),Nam (Nak cfg (NaE cfg (F + 50)) 14) false st key [.agg [slV cd.zo cd.O.length (cd.O.flatMap Dc.cs),slV cd.zt cd.T.length (cd.T.flatMap Tx.cs)]] = some (.b gb,st):=fun st key => NaS (Nbk Nbp) hgb rfl rfl
 have hsn:=Nll (z:=false) (l:=l) hc (hckr (NaE cfg (F + 49))) Zaa hwO hwT hl
 rw [Nlp] at hsn
 have gS:∀ (st:St) (key:Nat),Nam (Nak cfg (NaE cfg (F + 50)) 15) false st key [.agg [slV cd.zo cd.O.length (cd.O.flatMap Dc.cs),slV cd.zt cd.T.length (cd.T.flatMap Tx.cs)],.fsl l.length (l.flatMap Et.cs)] = some (.b (trV ck cd l),st):=fun st key => NaS (NaX Nbp rfl) hsn rfl rfl
 rw [show Cd.cs cd = [slV cd.zo cd.O.length (cd.O.flatMap Dc.cs),slV cd.zt cd.T.length (cd.T.flatMap Tx.cs)] from rfl]
 have hE:=Nav Et.cs_len l
 have lT:=Naw cd.zt cd.T.length (cd.T.flatMap Tx.cs)
 simp only [Nal]
 have lO:=Naw cd.zo cd.O.length (cd.O.flatMap Dc.cs)
 iterate 2
  (try rw [Z0])
  (try simp (maxSteps:=2000000) (disch:=first | omega | rfl | assumption) only [↓Yaa,Yab,Nae,Naa,rA,rB,rC,rD,reduceIte,unP,rE,Nag,Naf])
 refine NaD (fun x => ∃ (A:Nat),A < x.st.cnt ∧ x.env.get 1 = .fsl l.length (l.flatMap Et.cs) ∧ x.env.get 3 = .ptr A 0 ∧ x.env.get 7 = .i .i64 x0 ∧ x.env.get 8 = .i .i64 x1 ∧ x.st.get A = some (.cells [slV cd.zo cd.O.length (cd.O.flatMap Dc.cs),slV cd.zt cd.T.length (cd.T.flatMap Tx.cs)] false) ∧ (Top x.st)) ?_ ?_
 ·refine ⟨1,?_,Zab,Zab,Zab,Zab,?_,(by intro q hq; simp only [Z0L_,NaC] at hq; simp (disch:=omega) only [Nar,Nas]; rfl)⟩ <;> first | with_reducible rfl | with_reducible assumption | exact kA _ | omega | (simp only [Z0L_,NaC]; omega) | (simp only; omega) | (simp (disch:=omega) only [Nar,Nas,Yae]; first | done | with_reducible rfl | with_reducible assumption)
 rintro ⟨env,⟨sto,c⟩⟩ ⟨A,bA,g1,g3,g7,g8,kA,ht0⟩
 try simp only at bA g1 g3 g7 g8 ht0
 replace kA:∀ n',St.get ⟨sto,n'⟩ A = some (.cells [slV cd.zo cd.O.length (cd.O.flatMap Dc.cs),slV cd.zt cd.T.length (cd.T.flatMap Tx.cs)] false):=fun _ => kA
 cases gb with
 | true =>
   iterate 6
    (try rw [Z0])
    (try simp (maxSteps:=2000000) (disch:=first | omega | rfl | assumption) only [↓Yaa,Yab,Nae,Naa,rA,rB,rC,rD,reduceIte,unP,rE,g1,g3,g7,g8,kA,gG,aw,Nag,Naf])
   exact ⟨nofun,_,rfl,by simp only [NaA,Yac,if_true]⟩
 | false =>
   by_cases ht:trV ck cd l = true
   ·rw [ht] at gS
    have hck:=NlA ht
    subst hck
    by_cases hT0:cd.T.length = 0
    ·have b0:((cd.T.length:Int) == Int.ofNat 0) = true:=by rw [hT0]; rfl
     iterate 6
      (try rw [Z0])
      (try simp (maxSteps:=2000000) (disch:=first | omega | rfl | assumption) only [↓Yaa,Yab,Nae,Naa,rA,rB,rC,rD,reduceIte,unP,rE,g1,g3,g7,g8,kA,gG,gS,aw,Nag,Naf,lT,b0])
     exact ⟨nofun,_,rfl,by simp only [NaA,Yac,if_true]⟩
    have b0:((cd.T.length:Int) == Int.ofNat 0) = false:=by
     rw [beq_eq_false_iff_ne]
     show ((cd.T.length:Int)) ≠ ((0:Nat):Int)
     omega
    by_cases hO0:cd.O.length = 0
    ·have b1:((cd.O.length:Int) == Int.ofNat 0) = true:=by rw [hO0]; rfl
     iterate 6
      (try rw [Z0])
      (try simp (maxSteps:=2000000) (disch:=first | omega | rfl | assumption) only [↓Yaa,Yab,Nae,Naa,rA,rB,rC,rD,reduceIte,unP,rE,g1,g3,g7,g8,kA,gG,gS,aw,Nag,Naf,lT,lO,b0,b1])
     exact ⟨nofun,_,rfl,by simp only [NaA,Yac,if_true]⟩
    have b1:((cd.O.length:Int) == Int.ofNat 0) = false:=by
     rw [beq_eq_false_iff_ne]
     show ((cd.O.length:Int)) ≠ ((0:Nat):Int)
     omega
    obtain ⟨l',hl'⟩:∃ l',l.take 60 = l':=⟨_,rfl⟩
    have ht':trV 0 cd l' = true:=hl' ▸ Nlz ht 60
    have hlen:l'.length ≤ 60:=by rw [← hl',List.length_take]; omega
    have hok64:cd.T.length ≤ 64:=by have:=(hok0 rfl).1.2; omega
    have hmin:=NqV 60 l
    have hsl:=Noz 60 l
    rw [hl'] at hmin hsl
    have hE':=Nav Et.cs_len l'
    have hok':=Nl7 ht' hok64
    obtain ⟨k,hk,rk⟩:=Ngp hc (fuel:=F + 50) Zaa x0 (n:=((l'.length + 1:Nat):Int)) ⟨by omega,by omega⟩
    have gK:∀ (st:St) (key:Nat),Nam (Nak cfg (NaE cfg (F + 50)) 11) false st key [.i .i64 x0,.i .i64 ((l'.length + 1:Nat):Int)] = some (.i .i64 (k:Int),st):=fun st key => Nay rfl rk rfl
    obtain ⟨p,hp,rp⟩:=Ngp hc (fuel:=F + 50) Zaa x1 (n:=(cd.T.length:Int)) ⟨by omega,by omega⟩
    have gP:∀ (st:St) (key:Nat),Nam (Nak cfg (NaE cfg (F + 50)) 11) false st key [.i .i64 x1,.i .i64 (cd.T.length:Int)] = some (.i .i64 (p:Int),st):=fun st key => Nay rfl rp rfl
    iterate 4
     (try rw [Z0])
     (try simp (maxSteps:=2000000) (disch:=first | omega | rfl | assumption) only [↓Yaa,Yab,Nae,Naa,rA,rB,rC,rD,reduceIte,unP,rE,g1,g3,g7,g8,kA,gG,gS,aw,Nag,Naf,hmin,hsl,lT,lO,b0,b1,gK])
    have hkl:k ≤ l'.length:=by omega
    have hto:=Nqg (l:=l') hkl
    have hfr:=NpG (l:=l') hkl
    have hce:=fun st => Nhk st (l'.take k)
    have hcd:=fun st => Nhk st (l'.drop k)
    have hon:=NlJ (l'.take k)
    have hond:=NlJ (l'.drop k)
    refine NaD (fun x => x.env.get 1 = .fsl l'.length (l'.flatMap Et.cs) ∧ A < x.st.cnt ∧ x.env.get 3 = .ptr A 0 ∧ x.env.get 8 = .i .i64 x1 ∧ x.env.get 9 = .i .i64 (k:Int) ∧ x.st.get A = some (.cells [slV cd.zo cd.O.length (cd.O.flatMap Dc.cs),slV cd.zt cd.T.length (cd.T.flatMap Tx.cs)] false) ∧ (Top x.st)) ?_ ?_
    ·refine ⟨?_,?_,?_,?_,?_,?_,(ht0.le Zaa)⟩ <;> first | with_reducible rfl | with_reducible assumption | exact kA _ | (simp [Yac,g1,g3,g7,g8] <;> omega) | omega | (simp only [Z0L_,NaC]; omega) | (simp only; omega) | (simp (disch:=omega) only [Nar,Nas,Yae,kA]; first | done | with_reducible rfl | with_reducible assumption)
    clear bA g1 g3 g7 g8 kA ht0
    rintro ⟨env,⟨sto,c⟩⟩ ⟨g1,bA,g3,g8,g9,kA,ht1⟩
    try simp only at g1 bA g3 g8 g9 ht1
    replace kA:∀ n',St.get ⟨sto,n'⟩ A = some (.cells [slV cd.zo cd.O.length (cd.O.flatMap Dc.cs),slV cd.zt cd.T.length (cd.T.flatMap Tx.cs)] false):=fun _ => kA
    have kn:∀ d,d ≠ 0 → d ≠ 32 → d ≠ 96 → c + d ∉ [c,c + 32,c + 96]:=fun d a b e h => by
     simp only [List.mem_cons,List.not_mem_nil,or_false] at h
     omega
    have hnn:∀ d n',St.get ⟨sto,n'⟩ (c + d) = none:=fun d _ => ht1 (c + d) Zad
    have nA:A ∉ [c,c + 32,c + 96]:=fun h => by
     simp only [List.mem_cons,List.not_mem_nil,or_false] at h
     omega
    rw [Z0]
    refine NfG (NdW hok _) (NdE hok _).2 [c,c + 32,c + 96] (by rfl) (ns:=[false,false,false,false,false,true,true,true,true,false,false,false,false,true,true,true,false,false]) (by rfl) ht1 ?_
    (first | rw [NaJ] | rw [Nax])
    (try simp (maxSteps:=2000000) (disch:=first | omega | rfl | assumption) only [↓Xp,↓Xt,Xq,Xc,Nae,Naa,rA,rB,rC,rD,reduceIte,Xa,Xn,unP,Nab,Nac,Nad,Xl,rE,Na8,NaZ,NaU,NaF,Naz,NaG,NaH,g1,g9,hto,hce,hon])
    (first | rw [NaJ] | rw [Nax])
    (try simp (maxSteps:=2000000) (disch:=first | omega | rfl | assumption) only [↓Xp,↓Xt,Xq,Xc,Nae,Naa,rA,rB,rC,rD,reduceIte,Xa,Xn,unP,Nab,Nac,Nad,Xl,rE,Na8,NaZ,NaU,NaF,Naz,NaG,NaH,g1,g9,hto,hce,hon])
    (first | rw [NaJ] | rw [Nax])
    (try simp (maxSteps:=2000000) (disch:=first | omega | rfl | assumption) only [↓Xp,↓Xt,Xq,Xc,Nae,Naa,rA,rB,rC,rD,reduceIte,Xa,Xn,unP,Nab,Nac,Nad,Xl,rE,Na8,NaZ,NaU,NaF,Naz,NaG,NaH,g1,g9,hto,hce,hon])
    (first | rw [NaJ] | rw [Nax])
    (try simp (maxSteps:=2000000) (disch:=first | omega | rfl | assumption) only [↓Xp,↓Xt,Xq,Xc,Nae,Naa,rA,rB,rC,rD,reduceIte,Xa,Xn,unP,Nab,Nac,Nad,Xl,rE,Na8,NaZ,NaU,NaF,Naz,NaG,NaH,g1,g9,hto,hce,hon])
    (first | rw [NaJ] | rw [Nax])
    (try simp (maxSteps:=2000000) (disch:=first | omega | rfl | assumption) only [↓Xp,↓Xt,Xq,Xc,Nae,Naa,rA,rB,rC,rD,reduceIte,Xa,Xn,unP,Nab,Nac,Nad,Xl,rE,Na8,NaZ,NaU,NaF,Naz,NaG,NaH,g1,g9,hto,hce,hon])
    have hEt:=Nav Et.cs_len (l'.take k)
    have hEd:=Nav Et.cs_len (l'.drop k)
    have hlt:(l'.take k).length ≤ 60:=by rw [List.length_take]; omega
    have hld:(l'.drop k).length ≤ 60:=by rw [List.length_drop]; omega
    refine ⟨fun _ => ⟨fun h => by simp [Neq,Njj] at h,nofun⟩,Nbu rfl,Nct (kn 8 Zaa Zaa Zaa),Nbu rfl,Nct (kn 16 Zaa Zaa Zaa),Nbu rfl,Nct (kn 24 Zaa Zaa Zaa),Nbu rfl,by rw [NaZ _ _ _ _ _ _ _ rfl]; trivial,?_⟩
    refine NbM (cs:=[]) (.inr ⟨c,rfl,Yae _ _ _,rfl,by simp only [Z0L_]; omega⟩:Own _ 5 (.rsl c 5 0 0) 0 []) (by simp only [Z0L_]; omega) (by simp [keyOf]) hEt Zaa (by unfold NaL; omega) ?_
    intro v1 st1 ow1 cn1 ky1 fr1
    simp only [Z0L_] at cn1
    rw [Nat.zero_add,Zak] at ow1
    have f1:∀ q,q ≠ c → q ≠ c + 32 → st1.get q = St.get ⟨sto,c⟩ q:=fun q a b => by
     rw [fr1 q b (by simpa [keyOf] using a),Yad (Ne.symm a)]; rfl
    refine ⟨by rw [Naz _ _ _ _ _ _ _ rfl]; exact fun q a b => fr1 q a (by simp only [keyOf,List.mem_singleton]; exact fun e => b (by rw [e]; simp)),?_⟩
    have gA1:st1.get A = some (.cells [slV cd.zo cd.O.length (cd.O.flatMap Dc.cs),slV cd.zt cd.T.length (cd.T.flatMap Tx.cs)] false):=(f1 A Zaa Zaa).trans (kA c)
    have n1:∀ d,32 < d → st1.get (c + d) = none:=fun d hd => (f1 _ Zaa Zaa).trans (hnn d c)
    (first | rw [NaJ] | rw [Nax])
    (try simp (maxSteps:=2000000) (disch:=first | omega | rfl | assumption) only [↓Xp,↓Xt,Xq,Xc,Nae,Naa,rA,rB,rC,rD,reduceIte,Xa,Xn,unP,Nab,Nac,Nad,Xl,rE,Na8,NaZ,NaU,NaF,Naz,NaG,NaH,g3,g8,gA1,gP,lT,NfI,NfJ])
    (first | rw [NaJ] | rw [Nax])
    (try simp (maxSteps:=2000000) (disch:=first | omega | rfl | assumption) only [↓Xp,↓Xt,Xq,Xc,Nae,Naa,rA,rB,rC,rD,reduceIte,Xa,Xn,unP,Nab,Nac,Nad,Xl,rE,Na8,NaZ,NaU,NaF,Naz,NaG,NaH,g3,g8,gA1,gP,lT,NfI,NfJ])
    (first | rw [NaJ] | rw [Nax])
    (try simp (maxSteps:=2000000) (disch:=first | omega | rfl | assumption) only [↓Xp,↓Xt,Xq,Xc,Nae,Naa,rA,rB,rC,rD,reduceIte,Xa,Xn,unP,Nab,Nac,Nad,Xl,rE,Na8,NaZ,NaU,NaF,Naz,NaG,NaH,g3,g8,gA1,gP,lT,NfI,NfJ])
    (first | rw [NaJ] | rw [Nax])
    (try simp (maxSteps:=2000000) (disch:=first | omega | rfl | assumption) only [↓Xp,↓Xt,Xq,Xc,Nae,Naa,rA,rB,rC,rD,reduceIte,Xa,Xn,unP,Nab,Nac,Nad,Xl,rE,Na8,NaZ,NaU,NaF,Naz,NaG,NaH,g3,g8,gA1,gP,lT,NfI,NfJ])
    (first | rw [NaJ] | rw [Nax])
    (try simp (maxSteps:=2000000) (disch:=first | omega | rfl | assumption) only [↓Xp,↓Xt,Xq,Xc,Nae,Naa,rA,rB,rC,rD,reduceIte,Xa,Xn,unP,Nab,Nac,Nad,Xl,rE,Na8,NaZ,NaU,NaF,Naz,NaG,NaH,g3,g8,gA1,gP,lT,NfI,NfJ])
    refine ⟨by rw [NaU _ _ _ _ _ _ _ rfl rfl]; exact kn 40 Zaa Zaa Zaa,NbI rfl (Nfz _ _) (n1 40 Zaa),by rw [NaU _ _ _ _ _ _ _ rfl rfl]; exact kn 48 Zaa Zaa Zaa,NbI rfl (NhU _ _) (n1 48 Zaa),⟨kn 56 Zaa Zaa Zaa,fun _ k o h => by cases h; exact ⟨by omega,nA⟩⟩,NbI rfl (NjZ _ _ _) (n1 56 Zaa),by rw [NaU _ _ _ _ _ _ _ rfl rfl]; exact kn 64 Zaa Zaa Zaa,NbI rfl (Nfz _ _) (n1 64 Zaa),by rw [NaZ _ _ _ _ _ _ _ rfl]; trivial,by rw [Naz _ _ _ _ _ _ _ rfl]; exact fun _ _ _ => rfl,?_⟩
    (first | rw [NaJ] | rw [Nax])
    (try simp (maxSteps:=2000000) (disch:=first | omega | rfl | assumption) only [↓Xp,↓Xt,Xq,Xc,Nae,Naa,rA,rB,rC,rD,reduceIte,Xa,Xn,unP,Nab,Nac,Nad,Xl,rE,Na8,NaZ,NaU,NaF,Naz,NaG,NaH,Naj,Nab,List.length_cons,List.length_nil])
    (first | rw [NaJ] | rw [Nax])
    (try simp (maxSteps:=2000000) (disch:=first | omega | rfl | assumption) only [↓Xp,↓Xt,Xq,Xc,Nae,Naa,rA,rB,rC,rD,reduceIte,Xa,Xn,unP,Nab,Nac,Nad,Xl,rE,Na8,NaZ,NaU,NaF,Naz,NaG,NaH,Naj,Nab,List.length_cons,List.length_nil])
    (first | rw [NaJ] | rw [Nax])
    (try simp (maxSteps:=2000000) (disch:=first | omega | rfl | assumption) only [↓Xp,↓Xt,Xq,Xc,Nae,Naa,rA,rB,rC,rD,reduceIte,Xa,Xn,unP,Nab,Nac,Nad,Xl,rE,Na8,NaZ,NaU,NaF,Naz,NaG,NaH,Naj,Nab,List.length_cons,List.length_nil])
    refine ⟨Nct (kn 80 Zaa Zaa Zaa),Nbu rfl,Nct (kn 88 Zaa Zaa Zaa),Nbu rfl,by rw [NaZ _ _ _ _ _ _ _ rfl]; trivial,?_⟩
    have k1:∀ q,q ∈ keyOf v1 → q = c + 32:=ky1
    refine NbM (ow1.move (by simp only [Z0L_]; omega) fun q hq _ => by have:=k1 q hq; rw [Yad Zaa]) (by simp only [Z0L_]; omega) (fun h => by have:=k1 _ h; omega) rfl Zaa (by unfold NaL; omega) ?_
    intro v2 st2 ow2 cn2 ky2 fr2
    simp only [Z0L_] at cn2
    have f2:∀ q,q ≠ c + 32 → q ≠ c + 88 → q ≠ c + 96 → st2.get q = st1.get q:=fun q a b d => by
     rw [fr2 q d (fun h => a (k1 q h)),Yad (Ne.symm b)]
    refine ⟨by rw [Naz _ _ _ _ _ _ _ rfl]; exact fun q a b => fr2 q a (fun h => b (by rw [k1 q h]; simp)),?_⟩
    have n2:∀ d,96 < d → st2.get (c + d) = none:=fun d hd => (f2 _ Zaa Zaa Zaa).trans (n1 d Zaa)
    (first | rw [NaJ] | rw [Nax])
    (try simp (maxSteps:=2000000) (disch:=first | omega | rfl | assumption) only [↓Xp,↓Xt,Xq,Xc,Nae,Naa,rA,rB,rC,rD,reduceIte,Xa,Xn,unP,Nab,Nac,Nad,Xl,rE,Na8,NaZ,NaU,NaF,Naz,NaG,NaH,g1,g9,hfr,hcd,hond])
    (first | rw [NaJ] | rw [Nax])
    (try simp (maxSteps:=2000000) (disch:=first | omega | rfl | assumption) only [↓Xp,↓Xt,Xq,Xc,Nae,Naa,rA,rB,rC,rD,reduceIte,Xa,Xn,unP,Nab,Nac,Nad,Xl,rE,Na8,NaZ,NaU,NaF,Naz,NaG,NaH,g1,g9,hfr,hcd,hond])
    (first | rw [NaJ] | rw [Nax])
    (try simp (maxSteps:=2000000) (disch:=first | omega | rfl | assumption) only [↓Xp,↓Xt,Xq,Xc,Nae,Naa,rA,rB,rC,rD,reduceIte,Xa,Xn,unP,Nab,Nac,Nad,Xl,rE,Na8,NaZ,NaU,NaF,Naz,NaG,NaH,g1,g9,hfr,hcd,hond])
    (first | rw [NaJ] | rw [Nax])
    (try simp (maxSteps:=2000000) (disch:=first | omega | rfl | assumption) only [↓Xp,↓Xt,Xq,Xc,Nae,Naa,rA,rB,rC,rD,reduceIte,Xa,Xn,unP,Nab,Nac,Nad,Xl,rE,Na8,NaZ,NaU,NaF,Naz,NaG,NaH,g1,g9,hfr,hcd,hond])
    refine ⟨by rw [NaU _ _ _ _ _ _ _ rfl rfl]; exact kn 104 Zaa Zaa Zaa,NbI rfl (Nfy _ _) (n2 104 Zaa),by rw [NaU _ _ _ _ _ _ _ rfl rfl]; exact kn 112 Zaa Zaa Zaa,NbI rfl (Nfz _ _) (n2 112 Zaa),by rw [NaU _ _ _ _ _ _ _ rfl rfl]; exact kn 120 Zaa Zaa Zaa,NbI rfl (Nfy _ _) (n2 120 Zaa),by rw [NaZ _ _ _ _ _ _ _ rfl]; trivial,?_⟩
    have k2:∀ q,q ∈ keyOf v2 → q = c + 96:=ky2
    refine NbM ow2 Zaa (fun h => by have:=k2 _ h; omega) hEd Zaa (by unfold NaL; omega) ?_
    intro v3 st3 ow3 cn3 ky3 fr3
    refine ⟨by rw [Naz _ _ _ _ _ _ _ rfl]; exact fun q a b => fr3 q a (fun h => b (by rw [k2 q h]; simp)),?_⟩
    have fA:st3.get A = some (.cells [slV cd.zo cd.O.length (cd.O.flatMap Dc.cs),slV cd.zt cd.T.length (cd.T.flatMap Tx.cs)] false):=by
     rw [fr3 A Zaa (fun h => by have:=k2 A h; omega),f2 A Zaa Zaa Zaa]; exact gA1
    (first | rw [NaJ] | rw [Nax])
    (try simp (maxSteps:=2000000) (disch:=first | omega | rfl | assumption) only [↓Xp,↓Xt,Xq,Xc,Nae,Naa,rA,rB,rC,rD,reduceIte,Xa,Xn,unP,Nab,Nac,Nad,Xl,rE,Na8,NaZ,NaU,NaF,Naz,NaG,NaH])
    refine ⟨Nct (kn 136 Zaa Zaa Zaa),Nbu rfl,?_⟩
    rw [Niy]
    obtain ⟨mm,hm⟩:∃ mm,l'.take k ++ NlU p :: l'.drop k = mm:=⟨_,rfl⟩
    have hml:mm.length = l'.length + 1:=by rw [← hm,List.length_append,List.length_cons,List.length_take,List.length_drop]; omega
    have ow3':Own st3 5 v3 mm.length (mm.flatMap Et.cs):=by
     have e:mm.flatMap Et.cs = ((l'.take k).flatMap Et.cs ++ [.i .i64 (p:Int),.i .u8 ((27:Nat):Int),.i .i64 ((0:Nat):Int),.i .i64 ((0:Nat):Int),.i .i64 ((0:Nat):Int)]) ++ (l'.drop k).flatMap Et.cs:=by
      rw [← hm,List.flatMap_append,List.flatMap_cons,List.append_assoc]
      rfl
     rw [e,← hm,List.length_append,List.length_cons]
     have:(l'.take k).length + ((l'.drop k).length + 1) = (l'.take k).length + 1 + (l'.drop k).length:=by omega
     rw [this]
     exact ow3
    refine NaD (fun x => ∃ (K3:Nat),x.env.get 1 = .fsl l'.length (l'.flatMap Et.cs) ∧ A < x.st.cnt ∧ (A < K3) ∧ K3 < x.st.cnt ∧ x.env.get 3 = .ptr A 0 ∧ x.env.get 9 = .i .i64 (k:Int) ∧ x.env.get 10 = v3 ∧ x.st.get A = some (.cells [slV cd.zo cd.O.length (cd.O.flatMap Dc.cs),slV cd.zt cd.T.length (cd.T.flatMap Tx.cs)] false) ∧ ((∀ q,q ∈ keyOf v3 → q = K3)) ∧ (Own x.st 5 v3 mm.length (mm.flatMap Et.cs))) ?_ ?_
    ·refine ⟨c + 128,?_,?_,?_,?_,?_,?_,?_,(by exact fA),ky3,ow3'⟩ <;> first | with_reducible rfl | with_reducible assumption | (simp [Yac,g1,g3,g8,g9] <;> omega) | omega | (simp only [Z0L_,NaC]; omega) | (simp only; omega) | assumption | rfl | (simp; omega) | (simp; done)
    clear g1 bA g3 g8 g9 kA ht1
    rintro ⟨env,⟨sto,c⟩⟩ ⟨K3,g1,bA,oK3,bK3,g3,g9,g10,kA,hk3,ho3⟩
    try simp only at g1 bA bK3 g3 g9 g10 ho3
    replace kA:∀ n',St.get ⟨sto,n'⟩ A = some (.cells [slV cd.zo cd.O.length (cd.O.flatMap Dc.cs),slV cd.zt cd.T.length (cd.T.flatMap Tx.cs)] false):=fun _ => kA
    have ht1:trV 0 cd mm = true:=by
     rw [← hm]
     unfold trV at ht' ⊢
     simp only [Bool.and_eq_true,List.all_eq_true] at ht' ⊢
     refine ⟨ht'.1,fun e he => ?_⟩
     rcases List.mem_append.1 he with he | he
     ·exact ht'.2 e (List.mem_of_mem_take he)
     rcases List.mem_cons.1 he with rfl | he
     ·unfold etB NlU
      simp only [Bool.and_eq_true,decide_eq_true_eq]
      omega
     ·exact ht'.2 e (List.mem_of_mem_drop he)
    obtain ⟨R,hR⟩:∃ R,NeJ cd l' cd.O.length = R:=⟨_,rfl⟩
    have hR1:NeJ cd mm cd.O.length = R.map (shR k):=by rw [← hm,Nlg hok' hkl Zaa Zaa Zaa,hR]; rfl
    have hRl:R.length ≤ 64:=by
     have:=NjO cd l' cd.O.length
     have:=(hok0 rfl).1.1
     rw [← hR]; omega
    have hrun:∀ (z:Bool) (L:List Et) (S:List (Nat × Nat × Nat)),L.length ≤ 80 → trV 0 cd L = true → NeJ cd L cd.O.length = S → Nak cfg (NaE cfg (F + 50)) 12 [.agg [slV cd.zo cd.O.length (cd.O.flatMap Dc.cs),slV cd.zt cd.T.length (cd.T.flatMap Tx.cs)],slV z L.length (L.flatMap Et.cs)] = some (Nnf S):=fun z L S hL h1 hn => by
     have:=NjQ (fuel:=F + 43) hok hc.toCfgA (z:=z) (l:=L) (hckr (NaE cfg (F + 48))) Zaa Zaa Zaa hwO hwT (fun _ => hok64) (fun _ => (hok0 rfl).1.1)
     have h0:Nnw 0 cd L = S:=by unfold Nnw; rw [if_pos h1,hn]
     rw [h0] at this
     exact this
    have hr0:=hrun false l' R Zaa ht' hR
    rw [Nlp] at hr0
    (try rw [Z0])
    (try simp (maxSteps:=2000000) (disch:=first | omega | rfl | assumption) only [↓Yaa,Yab,Nae,Naa,rA,rB,rC,rD,reduceIte,unP,rE,g1,g3,g9,g10,kA])
    refine NaD (fun x => x.env.get 1 = .fsl l'.length (l'.flatMap Et.cs) ∧ A < x.st.cnt ∧ K3 < x.st.cnt ∧ x.env.get 3 = .ptr A 0 ∧ x.env.get 9 = .i .i64 (k:Int) ∧ x.env.get 10 = v3 ∧ x.st.get A = some (.cells [slV cd.zo cd.O.length (cd.O.flatMap Dc.cs),slV cd.zt cd.T.length (cd.T.flatMap Tx.cs)] false) ∧ (Own x.st 5 v3 mm.length (mm.flatMap Et.cs)) ∧ x.env.get 11 = .nsl) ?_ ?_
    ·refine ⟨?_,?_,?_,?_,?_,?_,?_,(ho3.move Zad fun _ _ _ => rfl),?_⟩ <;> first | with_reducible rfl | with_reducible assumption | exact kA _ | (simp [Yac,g1,g3,g9,g10] <;> omega) | omega | (simp only [Z0L_,NaC]; omega) | (simp only; omega) | (simp (disch:=omega) only [Nar,Nas,Yae,kA]; first | done | with_reducible rfl | with_reducible assumption)
    clear g1 bA bK3 g3 g9 g10 kA ho3
    rintro ⟨env,⟨sto,c⟩⟩ ⟨g1,bA,bK3,g3,g9,g10,kA,ho3,g11⟩
    try simp only at g1 bA bK3 g3 g9 g10 ho3 g11
    replace kA:∀ n',St.get ⟨sto,n'⟩ A = some (.cells [slV cd.zo cd.O.length (cd.O.flatMap Dc.cs),slV cd.zt cd.T.length (cd.T.flatMap Tx.cs)] false):=fun _ => kA
    have l3:∀ q,q ∈ keyOf v3 → q < c:=fun q hq => ho3.lt q hq
    have bK3:K3 < c ∨ mm = []:=by
     rcases ho3 with ⟨_,h0,_⟩ | ⟨q,rfl,_,_,h1⟩
     ·exact .inr (List.eq_nil_of_length_eq_zero h0)
     ·have:=hk3 q (by simp [keyOf]); simp only at h1; exact .inl Zaa
    have bK3:K3 < c:=bK3.resolve_right fun h => by rw [h] at hml; simp at hml
    refine NaV (fun x => ∃ (wv:PV),x.env.get 3 = .ptr A 0 ∧ A < x.st.cnt ∧ x.env.get 10 = v3 ∧ x.env.get 11 = wv ∧ x.st.get A = some (.cells [slV cd.zo cd.O.length (cd.O.flatMap Dc.cs),slV cd.zt cd.T.length (cd.T.flatMap Tx.cs)] false) ∧ (Own x.st 5 v3 mm.length (mm.flatMap Et.cs)) ∧ (Own x.st 3 wv R.length ((R.map (shR k)).flatMap rcC))) ?_ ?_
    ·intro K1 hK1
     iterate 2
      (try rw [Z0])
      (try simp (maxSteps:=2000000) (disch:=first | omega | rfl | assumption) only [↓Yaa,Yab,Nae,Naa,rA,rB,rC,rD,reduceIte,unP,rE,g1,g3,g9,g10,kA,g11,Nag,Naf])
     refine Nhg (NaX Nbp rfl) hr0 (NhQ R) (Ng9 R) (Nfv R) Zad ?_
     rintro v1 ⟨sto1,c1⟩ ow1 ky1 cn1 fr1
     simp only at cn1
     subst cn1
     obtain ⟨K1,hKd⟩:∃ K1,c + 16 = K1:=⟨_,rfl⟩
     rw [hKd] at ky1
     have hAK:A < K1:=by omega
     have hKK:K3 < K1:=by omega
     have lo1:=ow1.len
     have gA1:St.get ⟨sto1,c + 40⟩ A = _:=(fr1 A Zaa).trans (kA _)
     have o31:=ho3.move (st':=⟨sto1,c + 40⟩) Zad fun q hq _ => fr1 q (by have:=l3 q hq; omega)
     iterate 2
      (try rw [Z0])
      (try simp (maxSteps:=2000000) (disch:=first | omega | rfl | assumption) only [↓Yaa,Yab,Nae,Naa,rA,rB,rC,rD,reduceIte,unP,rE,g1,g3,g9,g10,kA,g11,lo1])
     refine Z9 (k:=R.length - 0) (fun m x => ∃ (i:Nat) (ov:PV),m = R.length - i ∧ x.env.get 3 = .ptr A 0 ∧ A < x.st.cnt ∧ x.env.get 9 = .i .i64 (k:Int) ∧ x.env.get 10 = v3 ∧ x.env.get 11 = ov ∧ x.env.get 68 = v1 ∧ x.env.get 69 = .i .i64 (R.length:Int) ∧ x.env.get 70 = .i .i64 (i:Int) ∧ x.st.get A = some (.cells [slV cd.zo cd.O.length (cd.O.flatMap Dc.cs),slV cd.zt cd.T.length (cd.T.flatMap Tx.cs)] false) ∧ (i ≤ R.length) ∧ (Own x.st 5 v3 mm.length (mm.flatMap Et.cs)) ∧ (Own x.st 3 v1 R.length (R.flatMap rcC)) ∧ (Own x.st 3 ov i (((R.take i).map (shR k)).flatMap rcC)) ∧ ((∀ q,q ∈ keyOf ov → K1 < q)) ∧ (K1 < x.st.cnt)) ?_ ?_ Zaa
     ·clear g1 bA bK3 g3 g9 g10 kA ho3 g11
      rintro m ⟨env,⟨sto,c⟩⟩ ⟨i,ov,rfl,g3,bA,g9,g10,g11,g68,g69,g70,kA,hi,ho3,ho1,how,hkv,hcK⟩
      try simp only at g3 bA g9 g10 g11 g68 g69 g70 ho3 ho1 how hcK
      replace kA:∀ n',St.get ⟨sto,n'⟩ A = some (.cells [slV cd.zo cd.O.length (cd.O.flatMap Dc.cs),slV cd.zt cd.T.length (cd.T.flatMap Tx.cs)] false):=fun _ => kA
      by_cases hil:i < R.length
      ·rcases ho1 with ⟨_,h0,_⟩ | ⟨q1,rfl,gq1,lq1,bq1⟩
       ·omega
       have e1:=ky1 q1 (by simp [keyOf])
       simp only at bq1
       have gq1':∀ n',St.get ⟨sto,n'⟩ q1 = _:=fun _ => gq1
       have hat:=Nqe hil
       have hcl:=Nfv R
       have hnx:((R.take (i + 1)).map (shR k)).flatMap rcC = ((R.take i).map (shR k)).flatMap rcC ++ rcC (shR k R[i]):=by
        rw [List.take_succ_eq_append_getElem hil,List.map_append,List.flatMap_append]
        simp
       obtain ⟨⟨ra,rb,rd⟩,hr⟩:∃ r,R[i] = r:=⟨_,rfl⟩
       rw [hr] at hat hnx
       simp only [rcC,shR] at hat hnx
       have hrl:=Nne (cd:=cd) (l:=l') (n:=cd.O.length) (r:=(ra,rb,rd)) (by rw [hR,← hr]; exact List.getElem_mem _)
       simp only at hrl
       obtain ⟨hrb1,hrd1⟩:=hrl
       have l3:∀ q,q ∈ keyOf v3 → q = K3:=hk3
       have lv:∀ q,q ∈ keyOf ov → q < c:=fun q hq => how.lt q hq
       by_cases hb:k ≤ rb
       ·by_cases hd:k ≤ rd
        ·skip
         rw [show shK k rb = rb + 1 from by unfold shK; rw [if_neg Zaa],show shK k rd = rd + 1 from by unfold shK; rw [if_neg Zaa]] at hnx
         iterate 8
          (try rw [Z0])
          (try simp (maxSteps:=2000000) (disch:=first | omega | rfl | assumption) only [↓Yaa,Yab,Nae,Naa,rA,rB,rC,rD,reduceIte,unP,rE,g3,g9,g10,g11,g68,g69,g70,kA,gq1',hat,hcl,Naj])
         refine NbM (how.move (by simp only [Z0L_]; omega) fun q hq _ => by have:=lv q hq; simp (disch:=omega) only [Nar,Nas]; rfl) (by simp only [Z0L_]; omega) (fun h => by have:=lv _ h; omega) rfl Zaa (by unfold NaL; omega) ?_
         intro v' st' hown hcnt hkey hj
         simp only [Z0L_] at hcnt
         have pz:∀ q,q < c → q ∉ keyOf ov → st'.get q = St.get ⟨sto,c⟩ q:=fun q a b => by rw [hj q Zaa b]; simp (disch:=omega) only [Nar,Nas]; rfl
         refine ⟨R.length - (i + 1),by omega,i + 1,v',rfl,by omega,rfl,rfl,?_,by omega,?_,?_,?_,fun q hq => by have:=hkey q hq; omega,by omega⟩
         ·rw [pz A Zaa (fun h => by have:=hkv A h; omega)]; exact kA _
         ·exact ho3.move Zad fun q hq _ => by have:=l3 q hq; exact pz q Zaa (fun h => by have:=hkv q h; omega)
         ·exact .inr ⟨q1,rfl,(pz q1 Zaa (fun h => by have:=hkv q1 h; omega)).trans gq1,lq1,by simp only; omega⟩
         ·rw [hnx]
          exact hown.move Zad fun _ _ _ => rfl
        ·skip
         rw [show shK k rb = rb + 1 from by unfold shK; rw [if_neg Zaa],show shK k rd = rd from by unfold shK; rw [if_pos Zaa]] at hnx
         iterate 8
          (try rw [Z0])
          (try simp (maxSteps:=2000000) (disch:=first | omega | rfl | assumption) only [↓Yaa,Yab,Nae,Naa,rA,rB,rC,rD,reduceIte,unP,rE,g3,g9,g10,g11,g68,g69,g70,kA,gq1',hat,hcl,Naj])
         refine NbM (how.move (by simp only [Z0L_]; omega) fun q hq _ => by have:=lv q hq; simp (disch:=omega) only [Nar,Nas]; rfl) (by simp only [Z0L_]; omega) (fun h => by have:=lv _ h; omega) rfl Zaa (by unfold NaL; omega) ?_
         intro v' st' hown hcnt hkey hj
         simp only [Z0L_] at hcnt
         have pz:∀ q,q < c → q ∉ keyOf ov → st'.get q = St.get ⟨sto,c⟩ q:=fun q a b => by rw [hj q Zaa b]; simp (disch:=omega) only [Nar,Nas]; rfl
         refine ⟨R.length - (i + 1),by omega,i + 1,v',rfl,by omega,rfl,rfl,?_,by omega,?_,?_,?_,fun q hq => by have:=hkey q hq; omega,by omega⟩
         ·rw [pz A Zaa (fun h => by have:=hkv A h; omega)]; exact kA _
         ·exact ho3.move Zad fun q hq _ => by have:=l3 q hq; exact pz q Zaa (fun h => by have:=hkv q h; omega)
         ·exact .inr ⟨q1,rfl,(pz q1 Zaa (fun h => by have:=hkv q1 h; omega)).trans gq1,lq1,by simp only; omega⟩
         ·rw [hnx]
          exact hown.move Zad fun _ _ _ => rfl
       ·by_cases hd:k ≤ rd
        ·skip
         rw [show shK k rb = rb from by unfold shK; rw [if_pos Zaa],show shK k rd = rd + 1 from by unfold shK; rw [if_neg Zaa]] at hnx
         iterate 8
          (try rw [Z0])
          (try simp (maxSteps:=2000000) (disch:=first | omega | rfl | assumption) only [↓Yaa,Yab,Nae,Naa,rA,rB,rC,rD,reduceIte,unP,rE,g3,g9,g10,g11,g68,g69,g70,kA,gq1',hat,hcl,Naj])
         refine NbM (how.move (by simp only [Z0L_]; omega) fun q hq _ => by have:=lv q hq; simp (disch:=omega) only [Nar,Nas]; rfl) (by simp only [Z0L_]; omega) (fun h => by have:=lv _ h; omega) rfl Zaa (by unfold NaL; omega) ?_
         intro v' st' hown hcnt hkey hj
         simp only [Z0L_] at hcnt
         have pz:∀ q,q < c → q ∉ keyOf ov → st'.get q = St.get ⟨sto,c⟩ q:=fun q a b => by rw [hj q Zaa b]; simp (disch:=omega) only [Nar,Nas]; rfl
         refine ⟨R.length - (i + 1),by omega,i + 1,v',rfl,by omega,rfl,rfl,?_,by omega,?_,?_,?_,fun q hq => by have:=hkey q hq; omega,by omega⟩
         ·rw [pz A Zaa (fun h => by have:=hkv A h; omega)]; exact kA _
         ·exact ho3.move Zad fun q hq _ => by have:=l3 q hq; exact pz q Zaa (fun h => by have:=hkv q h; omega)
         ·exact .inr ⟨q1,rfl,(pz q1 Zaa (fun h => by have:=hkv q1 h; omega)).trans gq1,lq1,by simp only; omega⟩
         ·rw [hnx]
          exact hown.move Zad fun _ _ _ => rfl
        ·skip
         rw [show shK k rb = rb from by unfold shK; rw [if_pos Zaa],show shK k rd = rd from by unfold shK; rw [if_pos Zaa]] at hnx
         iterate 8
          (try rw [Z0])
          (try simp (maxSteps:=2000000) (disch:=first | omega | rfl | assumption) only [↓Yaa,Yab,Nae,Naa,rA,rB,rC,rD,reduceIte,unP,rE,g3,g9,g10,g11,g68,g69,g70,kA,gq1',hat,hcl,Naj])
         refine NbM (how.move (by simp only [Z0L_]; omega) fun q hq _ => by have:=lv q hq; simp (disch:=omega) only [Nar,Nas]; rfl) (by simp only [Z0L_]; omega) (fun h => by have:=lv _ h; omega) rfl Zaa (by unfold NaL; omega) ?_
         intro v' st' hown hcnt hkey hj
         simp only [Z0L_] at hcnt
         have pz:∀ q,q < c → q ∉ keyOf ov → st'.get q = St.get ⟨sto,c⟩ q:=fun q a b => by rw [hj q Zaa b]; simp (disch:=omega) only [Nar,Nas]; rfl
         refine ⟨R.length - (i + 1),by omega,i + 1,v',rfl,by omega,rfl,rfl,?_,by omega,?_,?_,?_,fun q hq => by have:=hkey q hq; omega,by omega⟩
         ·rw [pz A Zaa (fun h => by have:=hkv A h; omega)]; exact kA _
         ·exact ho3.move Zad fun q hq _ => by have:=l3 q hq; exact pz q Zaa (fun h => by have:=hkv q h; omega)
         ·exact .inr ⟨q1,rfl,(pz q1 Zaa (fun h => by have:=hkv q1 h; omega)).trans gq1,lq1,by simp only; omega⟩
         ·rw [hnx]
          exact hown.move Zad fun _ _ _ => rfl
      ·skip
       have hin:i = R.length:=by omega
       subst hin
       iterate 5
        (try rw [Z0])
        (try simp (maxSteps:=2000000) (disch:=first | omega | rfl | assumption) only [↓Yaa,Yab,Nae,Naa,rA,rB,rC,rD,reduceIte,unP,rE,g3,g9,g10,g11,g68,g69,g70,kA])
       rw [List.take_length] at how
       refine hK1 _ ⟨ov,?_,?_,?_,?_,?_,(ho3.move Zad fun _ _ _ => rfl),(how.move Zad fun _ _ _ => rfl)⟩ <;> first | with_reducible rfl | with_reducible assumption | exact kA _ | (simp [Yac,g3,g9,g10,g11,g68,g69,g70] <;> omega) | omega | (simp only [Z0L_,NaC]; omega) | (simp only; omega) | (simp (disch:=omega) only [Nar,Nas,Yae,kA]; first | done | with_reducible rfl | with_reducible assumption)
     ·skip
      refine ⟨0,.nsl,rfl,?_,?_,?_,?_,?_,?_,?_,?_,(by exact gA1),?_,(o31.move Zad fun _ _ _ => rfl),(ow1.move Zad fun _ _ _ => rfl),(Own.nil _ _),(fun q h => by simp [keyOf] at h),?_⟩ <;> first | with_reducible rfl | with_reducible assumption | (simp [Yac,g1,g3,g9,g10,g11] <;> omega) | omega | (simp only [Z0L_,NaC]; omega) | (simp only; omega) | assumption | rfl | (simp; omega) | (simp; done)
    clear g1 bA bK3 g3 g9 g10 kA ho3 g11
    rintro ⟨env,⟨sto,c⟩⟩ ⟨wv,g3,bA,g10,g11,kA,ho3,how⟩
    try simp only at g3 bA g10 g11 ho3 how
    replace kA:∀ n',St.get ⟨sto,n'⟩ A = some (.cells [slV cd.zo cd.O.length (cd.O.flatMap Dc.cs),slV cd.zt cd.T.length (cd.T.flatMap Tx.cs)] false):=fun _ => kA
    have hxs:cfg.ext 16 = none:=by rw [← hcfg]; rfl
    obtain ⟨z1,d1⟩:=NjG ho3 rfl
    obtain ⟨S,hS⟩:∃ S,R.map (shR k) = S:=⟨_,rfl⟩
    have hSl:S.length = R.length:=by rw [← hS,List.length_map]
    rw [hS] at hR1 how
    rw [← hSl] at how
    have hr1:=hrun z1 mm S Zaa ht1 hR1
    (try rw [Z0])
    (try simp (maxSteps:=2000000) (disch:=first | omega | rfl | assumption) only [↓Yaa,Yab,Nae,Naa,rA,rB,rC,rD,reduceIte,unP,rE,g3,g10,g11,kA,Nag,Naf])
    refine Nhg (NaX Nbp d1) hr1 (NhQ S) (Ng9 S) (Nfv S) Zad ?_
    rintro v2 ⟨sto2,c2⟩ ow2 ky2 cn2 fr2
    simp only at cn2
    subst cn2
    obtain ⟨z2,d2⟩:=NjU ow2
    obtain ⟨z3,d3⟩:=NjU (how.move (st':=⟨sto2,c + 72⟩) Zad fun q hq _ => fr2 q (by have:=how.lt q hq; simp only at this; omega))
    refine Nfb (NaX d2 d3) (NjY (fuel:=F + 49) (hc.fn _ _ (by kernel_rfl)) hxs Zaa Zaa) rfl rfl ?_
    iterate 3
     (try rw [Z0])
     (try simp (maxSteps:=2000000) (disch:=first | omega | rfl | assumption) only [↓Yaa,Yab,Nae,Naa,rA,rB,rC,rD,reduceIte,unP,rE,g3,g10,g11,kA,aw])
    exact ⟨nofun,_,rfl,by simp only [NaA,Yac,if_true]⟩
   ·have hf:trV ck cd l = false:=by simpa using ht
    rw [hf] at gS
    iterate 6
     (try rw [Z0])
     (try simp (maxSteps:=2000000) (disch:=first | omega | rfl | assumption) only [↓Yaa,Yab,Nae,Naa,rA,rB,rC,rD,reduceIte,unP,rE,g1,g3,g7,g8,kA,gG,gS,aw,Nag,Naf])
    exact ⟨nofun,_,rfl,by simp only [NaA,Yac,if_true]⟩
theorem Nk2 (f:Nat) (z0:List PV) (i0:(NiK f).Is z0) (n1:Nat) (z1:List PV) (l1:z1.length = n1 * etSh.width) (b1:n1 ≤ reachBytes) (i1:∀ j,j < n1 → etSh.Is ((z1.drop (j * etSh.width)).take etSh.width)) (z2:List PV) (i2:(Sh.cons (.i .i64) (.cons (.i .i64) .nil)).Is z2):∃ cd hwf fuel,evP (NfO cd hwf) fuel 6 [.agg z0,.fsl n1 z1,.agg z2] = some (.b true):=by
 obtain ⟨cd,rfl,hwf⟩:=Np3 f z0 i0
 obtain ⟨l,hl,hn,hw⟩:=NgV (f:=Et.cs) (Q:=Et.wf) (w:=5) n1 z1 l1 (fun j hj => Np5 _ (i1 j hj))
 obtain ⟨h0,h1,h2⟩:=i2
 simp only [Sh.width] at h0 h1 h2
 obtain ⟨x0,e0,-⟩:=Ncc h0
 obtain ⟨x1,e1,-⟩:=Ncc h1
 simp only [Sh.Is] at h2
 rw [h2] at e1
 rw [e0,e1,hn,← hl]
 obtain ⟨fuel,hev⟩:=NmU hwf (l:=l) Zaa (x0:=x0) (x1:=x1)
 exact ⟨cd,hwf,fuel,hev⟩
end Go.Pe
