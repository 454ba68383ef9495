/-
 RaceAlone: the law, walked. No condition.
-/
import Derived.Test.YtgnmmphmkoaicaaGreatDoorZPeTbl
import Derived.Test.YtgnmmphmkoaicaaGreatDoorZRacS
set_option linter.unusedVariables false
set_option linter.unusedSimpArgs false
set_option maxRecDepth 100000
open Nat renaming reduceAdd → rA,reduceMul → rB,reduceLT → rC,reduceEqDiff → rD,reduceLeDiff → rE
namespace Go.Pe
open Go Go.Am Go.RowKit
noncomputable def m4 : MFunc:={ body:=.seq (.region [Qt 3 (.box (.t 0)),Qt 6 (.mv (.c (.b false)))]) (.seq (.seq (.region [Ql 10 (.load true 2 (.t 3)),Ql 11 (.call 14 false [.l 10]),Qh 12 11,Qs 13 (.load true 2 (.t 3)) 12 false,Qs 14 (.mv (.t 1)) 12 false,Qs 15 (.call 15 false [.l 13,.l 14]) 12 false,Qs 16 (.un .not (.l 15)) 12 false,Ql 17 (.pick (.l 12) (.c (.b true)) (.l 16)),Qh 18 17,Qs 19 (.fieldAddr 1 (.t 3)) 18 false,Qs 20 (.load false 1 (.l 19)) 18 false,Qs 21 (.len (.l 20)) 18 false,Qs 22 (.bin .eql (.l 21) (Qk 0)) 18 false,Qt 23 (.pick (.l 18) (.c (.b true)) (.l 22))]) (.cond (.t 23) (.seq (.region [Ql 24 (.call 13 false []),Qm 6 24]) .ret) .skip)) (.seq (.region [Qa 25 1,Qa 26 1,Ql 27 (.len (.l 26)),Ql 28 (.min (.l 27) [.c (.i .i64 (.ofNat 80))]),Ql 29 (.slice none 5 (.l 25) none (some (.l 28))),Qm 1 29]) (.seq (.region [Ql 30 (.bslice 0 5 [] []),Qa 31 1,Ql 32 (.append 5 40 (.l 30) (.l 31)),Ql 33 (.bslice 0 5 [] []),Qa 34 1,Ql 35 (.append 5 40 (.l 33) (.l 34)),Qm 7 32,Qm 8 35]) (.seq (.seq (.region [Qa 36 1,Qt 37 (.len (.l 36)),Qt 38 (.mv (Qk 0))]) (.block 0 (.loop (.seq (.region [Qt 39 (.bin .lss (.t 38) (.t 37))]) (.seq (.cond (.t 39) .skip (.exit 0)) (.seq (.block 1 (.seq (.region [Qa 40 38,Qm 9 40]) (.seq (.region [Qa 41 7,Qa 42 9,Qa 43 2,Qg 44 1 3,Qr 45 44,Ql 46 (.len (.l 45)),Ql 47 (.call 11 false [.l 43,.l 46]),Ql 48 (.indexAddr none 5 (.l 41) (.l 42)),Qf 49 0 48,Qn (.store 1 (.l 49) (.l 47))]) (.seq (.region [Qa 50 1,Qa 51 9,Ql 52 (.indexAddr none 5 (.l 50) (.l 51)),Qf 53 1 52,Qr 54 53,Qt 55 (.bin .eql (.l 54) (.c (.i .u8 (.ofNat 23))))]) (.cond (.t 55) (.region [Qa 56 8,Qa 57 9,Ql 58 (.indexAddr none 5 (.l 56) (.l 57)),Qf 59 1 58,Qn (.store 1 (.l 59) (.c (.i .u8 (.ofNat 22))))]) .skip))))) (.region [Ql 60 (.bin .add (.t 38) (Qk 1)),Qm 38 60]))))))) (.seq (.region [Ql 61 (.load true 2 (.t 3)),Qa 62 7,Ql 63 (.call 12 false [.l 61,.l 62]),Ql 64 (.len (.l 63)),Ql 65 (.bin .eql (.l 64) (Qk 0)),Qh 66 65,Qs 67 (.load true 2 (.t 3)) 66 true,Qs 68 (.mv (.t 8)) 66 true,Qs 69 (.call 12 false [.l 67,.l 68]) 66 true,Qs 70 (.len (.l 69)) 66 true,Qs 71 (.bin .eql (.l 70) (Qk 0)) 66 true,Ql 72 (.pick (.l 66) (.l 71) (.c (.b false))),Qh 73 72,Qs 74 (.call 13 false []) 73 true,Ql 75 (.pick (.l 73) (.l 74) (.c (.b false))),Qm 6 75]) .ret))))),res:=[.t 6] }
theorem t4 : Qx 4 = some m4:=by kernel_rfl
noncomputable def tblX4 : List (Nat × MFunc):=(4,m4) :: tblL
theorem Nln : Nnl Go.Proofs.Tryz.prog (Nah Go.Proofs.Tryz.prog []) tblX4:=⟨t4,Nfy⟩
end Go.Pe
set_option maxHeartbeats 8000000
namespace Go.Pe
open Go Go.Am Go.RowKit

noncomputable def NfI (cd : Cd) (hwf : cd.wf) : Cfg:={ fn:=fun f => Nc0 f tblX4,ext:=Npt cd hwf }
theorem Nha {cd : Cd} {hwf : cd.wf} {Gl : Gmap} {m : Int} (hg : Gl 0 0 = some (.int .i64 m)) : CfgOK Go.Proofs.Tryz.prog Gl (NfI cd hwf):=Ne9 Nln (Nmi hg)
theorem Nke {cd : Cd} {hwf : cd.wf} (f : FuncId) (m : MFunc) (h : Nc0 f tblL = some m) : (NfI cd hwf).fn f = some m:=by
 show Nc0 f tblX4 = some m
 by_cases h6 : f = 4
 ·subst h6
  have h0 : Nc0 4 tblL = none:=by kernel_rfl
  rw [h0] at h; cases h
 ·have hb : Nat.beq f 4 = false:=by
   cases h : Nat.beq f 4 with
   | false => rfl
   | true => exact absurd (Nat.eq_of_beq_eq_true h) h6
  show (Bool.rec (motive:=fun _ => Option MFunc) (Nc0 f tblL) (some m4) (Nat.beq f 4)) = some m
  rw [hb]
  exact h
theorem Nl4 {cd : Cd} {hwf : cd.wf} : CfgG (NfI cd hwf) where
 fn:=Nke
 jn:=by rfl
 tk:=by rfl
 r1:=by rfl
 r2:=by rfl
 r3:=by rfl
 r4:=by rfl
 r5:=by rfl
 r6:=by rfl
 r7:=by rfl
 r8:=by rfl
 a1:=by rfl
 a2:=by rfl
 a3:=by rfl
 n2:=by rfl
 n3:=by rfl
 n4:=by rfl
 n5:=by rfl
theorem NmH {cd : Cd} (hwf : cd.wf) {l : List Et} (hl : l.length ≤ reachBytes) {x0 : Int} : ∃ fuel,evP (NfI cd hwf) fuel 4 [.agg (Cd.cs cd),.fsl l.length (l.flatMap Et.cs),.i .i64 x0] = some (.b true):=by
 obtain ⟨F,hF,hFl⟩:=Nlz cd (l.length + cd.O.length + 200)
 obtain ⟨ck,hck0⟩ : ∃ ck,No8 cd hwf = ck:=⟨_,rfl⟩
 have hok0:=Nl8 cd hwf
 rw [hck0] at hok0
 refine ⟨(F + 50) + 1,Nks rfl rfl (fun _ => rfl) (Nax (by kernel_rfl : (NfI cd hwf).fn 4 = some m4) ?_)⟩
 delta m4 Qa Qr Qf Qg Ql Qt Qn Qs Qk Qm Qh
 have hc : CfgG (NfI cd hwf):=Nl4
 have hok:=Nha (cd:=cd) (hwf:=hwf) (Gl:=fun _ _ => some (.int .i64 0)) rfl
 obtain ⟨cfg,hcfg⟩ : ∃ cfg,NfI cd hwf = cfg:=⟨_,rfl⟩
 have hxk : cfg.ext 27 = some (gCk cd hwf):=by rw [← hcfg]; rfl
 have hxa : cfg.ext 13 = some gTrue:=by rw [← hcfg]; rfl
 rw [hcfg] at hc hok ⊢
 have hckr : ∀ callE,Naj cfg callE 27 [.agg (Cd.cs cd)] = some (.i .i64 ck):=fun callE => by
  rw [Nbb hxk]
  unfold gCk
  rw [if_pos rfl,hck0]
 obtain ⟨hwO,hwT,-,-⟩:=id hwf
 have hrb : reachBytes = 140737488351232:=rfl
 have aw : ∀ (st : St) (key : Nat),Nam (Naj cfg (NaB cfg (F + 50)) 13) false st key [] = some (.b true,st):=fun st key => Nay rfl (by rw [Nbb hxa]; rfl) rfl
 have awq : Naj cfg (NaB cfg (F + 50)) 13 [] = some (.b true):=by rw [Nbb hxa]; rfl
 obtain ⟨gb,hgb⟩:=Ni3 hc (F:=F) (cd:=cd) hwf hF
 have gG : ∀ (st : St) (key : Nat),Nam (Naj cfg (NaB cfg (F + 50)) 14) false st key [.agg [slV cd.zo cd.O.length (cd.O.flatMap Dc.cs),slV cd.zt cd.T.length (cd.T.flatMap Tx.cs)]] = some (.b gb,st):=fun st key => NaH (Nbc Nbi) hgb rfl rfl
 have hsn:=Nle (z:=false) (l:=l) hc (hckr (NaB cfg (F + 49))) Zab hwO hwT hl
 rw [Nof] at hsn
 have gS : ∀ (st : St) (key : Nat),Nam (Naj cfg (NaB cfg (F + 50)) 15) false st key [.agg [slV cd.zo cd.O.length (cd.O.flatMap Dc.cs),slV cd.zt cd.T.length (cd.T.flatMap Tx.cs)],.fsl l.length (l.flatMap Et.cs)] = some (.b (trV ck cd l),st):=fun st key => NaH (NaU Nbi rfl) hsn rfl rfl
 rw [show Cd.cs cd = [slV cd.zo cd.O.length (cd.O.flatMap Dc.cs),slV cd.zt cd.T.length (cd.T.flatMap Tx.cs)] from rfl]
 have hE:=NaA Et.cs_len l
 have lT:=Naw cd.zt cd.T.length (cd.T.flatMap Tx.cs)
 simp only [Nak]
 (try rw [Z0])
 (try simp (maxSteps:=2000000) (disch:=first | omega | rfl | assumption) only [↓Yaa,Yab,Nae,Naa,rA,rB,rC,rD,reduceIte,unP,rE,Nag,Naf])
 refine NaC (fun x => ∃ (A : Nat),A < x.st.cnt ∧ x.env.get 1 = .fsl l.length (l.flatMap Et.cs) ∧ x.env.get 2 = .i .i64 x0 ∧ x.env.get 3 = .ptr A 0 ∧ x.st.get A = some (.cells [slV cd.zo cd.O.length (cd.O.flatMap Dc.cs),slV cd.zt cd.T.length (cd.T.flatMap Tx.cs)] false)) ?_ ?_
 ·exact ⟨1,Zaa,Zad,Zad,Zad,(by first | exact kA _ | with_reducible rfl | with_reducible assumption | (simp (disch:=omega) only [Nar,Nas,Yae]; first | done | with_reducible rfl | with_reducible assumption))⟩
 rintro ⟨env,⟨sto,c⟩⟩ ⟨A,bA,g1,g2,g3,kA⟩
 try simp only at bA g1 g2 g3
 replace kA : ∀ n',St.get ⟨sto,n'⟩ A = some (.cells [slV cd.zo cd.O.length (cd.O.flatMap Dc.cs),slV cd.zt cd.T.length (cd.T.flatMap Tx.cs)] false):=fun _ => kA
 cases gb with
 | true =>
   iterate 6
    (try rw [Z0])
    (try simp (maxSteps:=2000000) (disch:=first | omega | rfl | assumption) only [↓Yaa,Yab,Nae,Naa,rA,rB,rC,rD,reduceIte,unP,rE,g1,g2,g3,kA,gG,aw,Nag,Naf])
   exact ⟨nofun,_,rfl,by simp only [Nav,Yac,if_true]⟩
 | false =>
   by_cases ht : trV ck cd l = true
   ·rw [ht] at gS
    have hck:=Nls ht
    subst hck
    by_cases hT0 : cd.T.length = 0
    ·have b0 : ((cd.T.length : Int) == Int.ofNat 0) = true:=by rw [hT0]; rfl
     iterate 6
      (try rw [Z0])
      (try simp (maxSteps:=2000000) (disch:=first | omega | rfl | assumption) only [↓Yaa,Yab,Nae,Naa,rA,rB,rC,rD,reduceIte,unP,rE,g1,g2,g3,kA,gG,gS,aw,Nag,Naf,lT,b0])
     exact ⟨nofun,_,rfl,by simp only [Nav,Yac,if_true]⟩
    have b0 : ((cd.T.length : Int) == Int.ofNat 0) = false:=by
     rw [beq_eq_false_iff_ne]
     show ((cd.T.length : Int)) ≠ ((0 : Nat) : Int)
     omega
    obtain ⟨l',hl'⟩ : ∃ l',l.take 80 = l':=⟨_,rfl⟩
    have ht' : trV 0 cd l' = true:=hl' ▸ Nlr ht 80
    have hlen : l'.length ≤ 80:=by rw [← hl',List.length_take]; omega
    have hok64 : cd.T.length ≤ 64:=by have:=(hok0 rfl).1.2; omega
    have hmin:=NqD 80 l
    have hsl:=NpZ 80 l
    rw [hl'] at hmin hsl
    have hE':=NaA Et.cs_len l'
    iterate 3
     (try rw [Z0])
     (try simp (maxSteps:=2000000) (disch:=first | omega | rfl | assumption) only [↓Yaa,Yab,Nae,Naa,rA,rB,rC,rD,reduceIte,unP,rE,g1,g2,g3,kA,gG,gS,aw,Nag,Naf,hmin,hsl,lT,b0])
    have hce:=fun st => Nkd st l'
    have hon:=NnD l'
    (try rw [Z0])
    (try simp (maxSteps:=2000000) (disch:=first | omega | rfl | assumption) only [↓Yaa,Yab,Nae,Naa,rA,rB,rC,rD,reduceIte,unP,rE,g1,g2,g3,kA,hE',hce,hon])
    refine NcL (cs:=[]) (.inr ⟨c + 160,rfl,by exact Yae _ _ _,rfl,by simp only [Nal]; omega⟩ : Own _ 5 (.rsl (c + 160) 5 0 0) 0 []) Zai (by simp [keyOf]) hE' Zab (by unfold NaL; omega) ?_
    intro o1 st1 hown1 hcnt1 hkey1 hj1
    simp only [Nal] at hcnt1
    refine NcL (cs:=[]) (.inr ⟨c + 184,rfl,by exact Yae _ _ _,rfl,by simp only [Nal]; omega⟩ : Own _ 5 (.rsl (c + 184) 5 0 0) 0 []) Zai (by simp [keyOf]) hE' Zab (by unfold NaL; omega) ?_
    intro o2 st2 hown2 hcnt2 hkey2 hj2
    simp only [Nal] at hcnt2
    rw [Nat.zero_add,Zan] at hown1 hown2
    have f2 : ∀ k,k ≠ c + 160 → k ≠ c + 176 → k ≠ c + 184 → k ≠ c + 200 → st2.get k = St.get ⟨sto,c⟩ k:=fun k a b d e => by
     rw [hj2 k e (by simpa [keyOf] using d),Yad Zab]
     show st1.get k = _
     rw [hj1 k b (by simpa [keyOf] using a),Yad Zab]; rfl
    have f1 : ∀ k,k ≠ c + 184 → k ≠ c + 200 → st2.get k = st1.get k:=fun k d e => by
     rw [hj2 k e (by simpa [keyOf] using d),Yad Zab]
    have hown1' : Own st2 5 o1 l'.length (l'.flatMap Et.cs):=hown1.move Zab fun k hk _ => by have:=hkey1 k hk; exact f1 k Zab Zab
    refine NaC (fun x => ∃ (K1 : Nat) (K2 : Nat),A < x.st.cnt ∧ (A < K1) ∧ (K1 < K2) ∧ x.env.get 1 = .fsl l'.length (l'.flatMap Et.cs) ∧ x.env.get 2 = .i .i64 x0 ∧ x.env.get 3 = .ptr A 0 ∧ x.env.get 7 = o1 ∧ x.env.get 8 = o2 ∧ x.st.get A = some (.cells [slV cd.zo cd.O.length (cd.O.flatMap Dc.cs),slV cd.zt cd.T.length (cd.T.flatMap Tx.cs)] false) ∧ ((∀ k,k ∈ keyOf o1 → k = K1)) ∧ ((∀ k,k ∈ keyOf o2 → k = K2)) ∧ (Own x.st 5 o1 l'.length (l'.flatMap Et.cs)) ∧ (Own x.st 5 o2 l'.length (l'.flatMap Et.cs))) ?_ ?_
    ·refine ⟨c + 176,c + 200,Zaa,Zac,Zac,?_,?_,?_,?_,?_,(by exact (f2 A (by omega) (by omega) (by omega) (by omega)).trans (kA _)),hkey1,hkey2,hown1',hown2⟩ <;> first | with_reducible rfl | with_reducible assumption | (simp [Yac,g1,g2,g3] <;> omega)
    clear bA g1 g2 g3 kA
    rintro ⟨env,⟨sto,c⟩⟩ ⟨K1,K2,bA,oK1,oK2,g1,g2,g3,g7,g8,kA,hk1,hk2,ho1,ho2⟩
    try simp only at bA g1 g2 g3 g7 g8 ho1 ho2
    replace kA : ∀ n',St.get ⟨sto,n'⟩ A = some (.cells [slV cd.zo cd.O.length (cd.O.flatMap Dc.cs),slV cd.zt cd.T.length (cd.T.flatMap Tx.cs)] false):=fun _ => kA
    obtain ⟨p,hp,rp⟩:=NjB hc (fuel:=F + 50) Zab x0 (n:=(cd.T.length : Int)) ⟨by omega,by omega⟩
    have gP : ∀ (st : St) (key : Nat),Nam (Naj cfg (NaB cfg (F + 50)) 11) false st key [.i .i64 x0,.i .i64 (cd.T.length : Int)] = some (.i .i64 (p : Int),st):=fun st key => Nay rfl rp rfl
    refine NaN (fun x => x.env.get 3 = .ptr A 0 ∧ x.env.get 7 = o1 ∧ x.env.get 8 = o2 ∧ x.st.get A = some (.cells [slV cd.zo cd.O.length (cd.O.flatMap Dc.cs),slV cd.zt cd.T.length (cd.T.flatMap Tx.cs)] false) ∧ (Own x.st 5 o1 l'.length ((l'.map (toT p)).flatMap Et.cs)) ∧ (Own x.st 5 o2 l'.length ((l'.map Nj1).flatMap Et.cs))) ?_ ?_
    ·intro K1 hK1
     iterate 2
      (try rw [Z0])
      (try simp (maxSteps:=2000000) (disch:=first | omega | rfl | assumption) only [↓Yaa,Yab,Nae,Naa,rA,rB,rC,rD,reduceIte,unP,rE,g1,g2,g3,g7,g8,kA])
     refine Z9 (k:=l'.length - 0) (fun m x => ∃ (i : Nat),m = l'.length - i ∧ x.env.get 1 = .fsl l'.length (l'.flatMap Et.cs) ∧ x.env.get 2 = .i .i64 x0 ∧ x.env.get 3 = .ptr A 0 ∧ x.env.get 7 = o1 ∧ x.env.get 8 = o2 ∧ x.env.get 37 = .i .i64 (l'.length : Int) ∧ x.env.get 38 = .i .i64 (i : Int) ∧ x.st.get A = some (.cells [slV cd.zo cd.O.length (cd.O.flatMap Dc.cs),slV cd.zt cd.T.length (cd.T.flatMap Tx.cs)] false) ∧ A < x.st.cnt ∧ (i ≤ l'.length) ∧ (Own x.st 5 o1 l'.length ((Nck (toT p) l' i).flatMap Et.cs)) ∧ (Own x.st 5 o2 l'.length ((Nck Nj1 l' i).flatMap Et.cs))) ?_ ?_ Zab
     ·clear bA g1 g2 g3 g7 g8 kA ho1 ho2
      rintro m ⟨env,⟨sto,c⟩⟩ ⟨i,rfl,g1,g2,g3,g7,g8,g37,g38,kA,bA,hi,ho1,ho2⟩
      try simp only at g1 g2 g3 g7 g8 g37 g38 bA ho1 ho2
      replace kA : ∀ n',St.get ⟨sto,n'⟩ A = some (.cells [slV cd.zo cd.O.length (cd.O.flatMap Dc.cs),slV cd.zt cd.T.length (cd.T.flatMap Tx.cs)] false):=fun _ => kA
      by_cases hil : i < l'.length
      ·rcases ho1 with ⟨_,h0,_⟩ | ⟨k1,rfl,gk1,lk1,bk1⟩
       ·omega
       rcases ho2 with ⟨_,h0,_⟩ | ⟨k2,rfl,gk2,lk2,bk2⟩
       ·omega
       simp only at bk1 bk2
       have e1:=hk1 k1 (by simp [keyOf])
       have e2:=hk2 k2 (by simp [keyOf])
       replace gk1 : ∀ n',St.get ⟨sto,n'⟩ k1 = _:=fun _ => gk1
       replace gk2 : ∀ n',St.get ⟨sto,n'⟩ k2 = _:=fun _ => gk2
       have hs1:=Ne3 (f:=toT (p : Int)) hil (q:=0) (v:=.i .i64 (p : Int)) Zab rfl
       have c1:=NbC (toT (p : Int)) l' hi
       have c2:=NbC Nj1 l' hi
       have hldO:=fun st => NkV (st:=st) hil
       simp only [Nat.add_zero] at hs1
       by_cases h23 : l'[i].O.toNat = 23
       ·have e23 : ((l'[i].O.toNat : Int) == ((23 : Nat) : Int)) = true:=by rw [h23]; rfl
        have hs2:=Ne3 (f:=Nj1) hil (q:=1) (v:=.i .u8 ((22 : Nat) : Int)) Zab (by
         unfold Nj1
         rw [if_pos (UInt8.toNat_inj.1 h23 : l'[i].O = 23)]
         rfl)
        iterate 8
         (try rw [Z0])
         (try simp (maxSteps:=2000000) (disch:=first | omega | rfl | assumption) only [↓Yaa,Yab,Nae,Naa,rA,rB,rC,rD,reduceIte,unP,rE,g1,g2,g3,g7,g8,g37,g38,kA,gk1,gk2,gP,lT,c1,c2,hE',hldO,hs1,hs2,e23])
        exact ⟨l'.length - (i + 1),by omega,i + 1,rfl,rfl,by omega,.inr ⟨k1,rfl,by simp (disch:=omega) only [Nar,Nas,Yae],NbC _ l' Zab,by simp only [Nal]; omega⟩,.inr ⟨k2,rfl,by simp (disch:=omega) only [Nar,Nas,Yae],NbC _ l' Zab,by simp only [Nal]; omega⟩⟩
       ·have e23 : ((l'[i].O.toNat : Int) == ((23 : Nat) : Int)) = false:=by simp; omega
        have hs2:=Nh3 Nj1 l' hil (by unfold Nj1; rw [if_neg (fun h => h23 (by rw [h]; rfl))])
        iterate 8
         (try rw [Z0])
         (try simp (maxSteps:=2000000) (disch:=first | omega | rfl | assumption) only [↓Yaa,Yab,Nae,Naa,rA,rB,rC,rD,reduceIte,unP,rE,g1,g2,g3,g7,g8,g37,g38,kA,gk1,gk2,gP,lT,c1,c2,hE',hldO,hs1,e23])
        exact ⟨l'.length - (i + 1),by omega,i + 1,rfl,rfl,by omega,.inr ⟨k1,rfl,by simp (disch:=omega) only [Nar,Nas,Yae],NbC _ l' Zab,by simp only [Nal]; omega⟩,.inr ⟨k2,rfl,by rw [hs2]; simp (disch:=omega) only [Nar,Nas]; exact gk2 _,NbC _ l' Zab,by simp only [Nal]; omega⟩⟩
      ·skip
       have hin : i = l'.length:=by omega
       subst hin
       iterate 5
        (try rw [Z0])
        (try simp (maxSteps:=2000000) (disch:=first | omega | rfl | assumption) only [↓Yaa,Yab,Nae,Naa,rA,rB,rC,rD,reduceIte,unP,rE,g1,g2,g3,g7,g8,g37,g38,kA])
       rw [Njg] at ho1 ho2
       refine hK1 _ ⟨?_,?_,?_,?_,(ho1.move Zaf fun _ _ _ => rfl),(ho2.move Zaf fun _ _ _ => rfl)⟩ <;> first | with_reducible rfl | with_reducible assumption | exact kA _ | (simp [Yac,g1,g2,g3,g7,g8,g37,g38] <;> omega) | (simp (disch:=omega) only [Nar,Nas,Yae,kA]; first | done | with_reducible rfl | with_reducible assumption)
     ·skip
      refine ⟨0,rfl,?_,?_,?_,?_,?_,?_,?_,?_,Zaa,Zac,(by rw [NeU]; exact ho1.move (by simp only; omega) fun _ _ _ => rfl),(by rw [NeU]; exact ho2.move (by simp only; omega) fun _ _ _ => rfl)⟩ <;> first | with_reducible rfl | with_reducible assumption | exact kA _ | (simp [Yac,g1,g2,g3,g7,g8] <;> omega) | (simp (disch:=omega) only [Nar,Nas,Yae,kA]; first | done | with_reducible rfl | with_reducible assumption)
    clear bA g1 g2 g3 g7 g8 kA ho1 ho2
    rintro ⟨env,⟨sto,c⟩⟩ ⟨g3,g7,g8,kA,ho1,ho2⟩
    try simp only at g3 g7 g8 ho1 ho2
    replace kA : ∀ n',St.get ⟨sto,n'⟩ A = some (.cells [slV cd.zo cd.O.length (cd.O.flatMap Dc.cs),slV cd.zt cd.T.length (cd.T.flatMap Tx.cs)] false):=fun _ => kA
    have hrun : ∀ (z : Bool) (L : List Et),L.length ≤ 80 → (∀ n,Nft cd L n = []) → Naj cfg (NaB cfg (F + 50)) 12 [.agg [slV cd.zo cd.O.length (cd.O.flatMap Dc.cs),slV cd.zt cd.T.length (cd.T.flatMap Tx.cs)],slV z L.length (L.flatMap Et.cs)] = some .nsl:=fun z L hL hn => by
     have:=NjJ (fuel:=F + 43) hok hc.toCfgA (z:=z) (l:=L) (hckr (NaB cfg (F + 48))) Zab Zab Zab hwO hwT (fun _ => hok64) (fun _ => (hok0 rfl).1.1)
     have h0 : Nnj 0 cd L = []:=by unfold Nnj; rw [hn]; simp
     rw [h0] at this
     exact this
    obtain ⟨z1,d1⟩:=Ngf ho1 (by rw [List.length_map])
    obtain ⟨z2,d2⟩:=Ngf ho2 (by rw [List.length_map])
    have gR1 : ∀ (n' key : Nat),Nam (Naj cfg (NaB cfg (F + 50)) 12) false ⟨sto,n'⟩ key [.agg [slV cd.zo cd.O.length (cd.O.flatMap Dc.cs),slV cd.zt cd.T.length (cd.T.flatMap Tx.cs)],o1] = some (.nsl,⟨sto,n'⟩):=fun n' key => NaH (NaU Nbi d1) (hrun z1 _ (by rw [List.length_map]; exact hlen) (Nk9 _)) rfl rfl
    have gR2 : ∀ (n' key : Nat),Nam (Naj cfg (NaB cfg (F + 50)) 12) false ⟨sto,n'⟩ key [.agg [slV cd.zo cd.O.length (cd.O.flatMap Dc.cs),slV cd.zt cd.T.length (cd.T.flatMap Tx.cs)],o2] = some (.nsl,⟨sto,n'⟩):=fun n' key => NaH (NaU Nbi d2) (hrun z2 _ (by rw [List.length_map]; exact hlen) Nid) rfl rfl
    have b00 : (((0 : Nat) : Int) == ((0 : Nat) : Int)) = true:=rfl
    iterate 3
     (try rw [Z0])
     (try simp (maxSteps:=2000000) (disch:=first | omega | rfl | assumption) only [↓Yaa,Yab,Nae,Naa,rA,rB,rC,rD,reduceIte,unP,rE,g3,g7,g8,kA,gR1,gR2,aw,Nag,Naf,b00])
    exact ⟨nofun,_,rfl,by simp only [Nav,Yac,if_true]⟩
   ·have hf : trV ck cd l = false:=by simpa using ht
    rw [hf] at gS
    iterate 6
     (try rw [Z0])
     (try simp (maxSteps:=2000000) (disch:=first | omega | rfl | assumption) only [↓Yaa,Yab,Nae,Naa,rA,rB,rC,rD,reduceIte,unP,rE,g1,g2,g3,kA,gG,gS,aw,Nag,Naf])
    exact ⟨nofun,_,rfl,by simp only [Nav,Yac,if_true]⟩
theorem Niv (f : Nat) (z0 : List PV) (i0 : (NiC f).Is z0) (n1 : Nat) (z1 : List PV) (l1 : z1.length = n1 * etSh.width) (b1 : n1 ≤ reachBytes) (i1 : ∀ j,j < n1 → etSh.Is ((z1.drop (j * etSh.width)).take etSh.width)) (x0 : Int) {P : Prop} (_ : P) : ∃ cd hwf fuel,evP (NfI cd hwf) fuel 4 [.agg z0,.fsl n1 z1,.i .i64 x0] = some (.b true):=by
 obtain ⟨cd,rfl,hwf⟩:=NpN f z0 i0
 obtain ⟨l,hl,hn,hw⟩:=NgP (f:=Et.cs) (Q:=Et.wf) (w:=5) n1 z1 l1 (fun j hj => NpP _ (i1 j hj))
 rw [hn,← hl]
 obtain ⟨fuel,hev⟩:=NmH hwf (l:=l) Zab (x0:=x0)
 exact ⟨cd,hwf,fuel,hev⟩
end Go.Pe
