/-
 RaceNames: the law, walked. No condition.
-/
import Derived.Test.YtgnmmphmkoaicaaGreatDoorZPeTbl
import Derived.Test.YtgnmmphmkoaicaaGreatDoorZRacS
set_option linter.unusedVariables false
set_option linter.unusedSimpArgs false
set_option maxRecDepth 100000
open Nat renaming reduceAdd → rA,reduceMul → rB,reduceLT → rC,reduceEqDiff → rD,reduceLeDiff → rE
namespace Go.Pe
open Go Go.Am Go.RowKit
noncomputable def m5 : MFunc:={ body:=.seq (.region [Qt 3 (.box (.t 0)),Qt 6 (.mv (.c (.b false)))]) (.seq (.seq (.region [Ql 10 (.load true 2 (.t 3)),Ql 11 (.call 14 false [.l 10]),Qh 12 11,Qs 13 (.load true 2 (.t 3)) 12 false,Qs 14 (.mv (.t 1)) 12 false,Qs 15 (.call 15 false [.l 13,.l 14]) 12 false,Qs 16 (.un .not (.l 15)) 12 false,Ql 17 (.pick (.l 12) (.c (.b true)) (.l 16)),Qh 18 17,Qs 19 (.fieldAddr 1 (.t 3)) 18 false,Qs 20 (.load false 1 (.l 19)) 18 false,Qs 21 (.len (.l 20)) 18 false,Qs 22 (.bin .eql (.l 21) (Qk 0)) 18 false,Qt 23 (.pick (.l 18) (.c (.b true)) (.l 22))]) (.cond (.t 23) (.seq (.region [Ql 24 (.call 13 false []),Qm 6 24]) .ret) .skip)) (.seq (.region [Qa 25 1,Qa 26 1,Ql 27 (.len (.l 26)),Ql 28 (.min (.l 27) [.c (.i .i64 (.ofNat 80))]),Ql 29 (.slice none 5 (.l 25) none (some (.l 28))),Qm 1 29]) (.seq (.region [Ql 30 (.bslice 0 5 [] []),Qa 31 1,Ql 32 (.append 5 40 (.l 30) (.l 31)),Qm 7 32]) (.seq (.region [Qg 33 1 3,Qr 34 33,Ql 35 (.len (.l 34)),Qm 8 35]) (.seq (.seq (.region [Qa 36 7,Qt 37 (.len (.l 36)),Qt 38 (.mv (Qk 0))]) (.block 0 (.loop (.seq (.region [Qt 39 (.bin .lss (.t 38) (.t 37))]) (.seq (.cond (.t 39) .skip (.exit 0)) (.seq (.block 1 (.seq (.region [Qa 40 38,Qm 9 40]) (.region [Qa 41 7,Qa 42 9,Qa 43 7,Qa 44 9,Ql 45 (.indexAddr none 5 (.l 43) (.l 44)),Qf 46 0 45,Qr 47 46,Qa 48 2,Qa 49 8,Ql 50 (.callq 11 [.l 48,.l 49]),Ql 51 (.bin .add (.l 47) (.l 50)),Qa 52 8,Ql 53 (.bin .rem (.l 51) (.l 52)),Ql 54 (.indexAddr none 5 (.l 41) (.l 42)),Qf 55 0 54,Qn (.store 1 (.l 55) (.l 53))]))) (.region [Ql 56 (.bin .add (.t 38) (Qk 1)),Qm 38 56]))))))) (.seq (.region [Ql 57 (.load true 2 (.t 3)),Qa 58 1,Ql 59 (.callq 12 [.l 57,.l 58]),Ql 60 (.load true 2 (.t 3)),Qa 61 7,Ql 62 (.callq 12 [.l 60,.l 61]),Ql 63 (.callq 16 [.l 59,.l 62]),Qh 64 63,Qs 65 (.callq 13 []) 64 true,Ql 66 (.pick (.l 64) (.l 65) (.c (.b false))),Qm 6 66]) .ret)))))),res:=[.t 6] }
theorem t5 : Qx 5 = some m5:=by kernel_rfl
noncomputable def tblX5 : List (Nat × MFunc):=(5,m5) :: tblL
theorem NlD : NnH Go.Proofs.Tryz.prog (Nah Go.Proofs.Tryz.prog []) tblX5:=⟨t5,NfA⟩
end Go.Pe
namespace Go.Pe
open Go Go.Am Go.RowKit

theorem NjV (rs : List (Nat × Nat × Nat)) : (PV.osl 3 rs.length (rs.flatMap rcC)).closedB = true:=by
 show (rs.flatMap rcC).all (PV.closed 11) = true
 rw [List.all_eq_true]
 intro p hp
 obtain ⟨e,-,he⟩:=List.mem_flatMap.1 hp
 simp only [rcC,List.mem_cons,List.not_mem_nil,or_false] at he
 rcases he with rfl | rfl | rfl <;> rfl
theorem NjX {st : St} {v : PV} {rs : List (Nat × Nat × Nat)} (h : Own st 3 v rs.length (rs.flatMap rcC)) : ∃ z,Go.Pe.deep st 12 v = some (slV z rs.length (rs.flatMap rcC)):=by
 rcases h.deep (Ng4 rs) with ⟨_,h0,h1,h2⟩ | h2
 ·exact ⟨true,by rw [h2,h0]; rfl⟩
 ·exact ⟨false,by rw [h2,Nlx]⟩
theorem NfF {g : List PV → Option PV} {st : St} {key : Nat} {ps ps' : List PV} {rs : List (Nat × Nat × Nat)} {Q : PV → St → Prop} (hd : Na5 st ps = some ps') (hg : g ps' = some (Nnm rs)) (hk : key < st.cnt)
 (q : ∀ v st',Own st' 3 v rs.length (rs.flatMap rcC) → st'.cnt = st.cnt → (∀ j,j ∈ keyOf v → j = key) → (∀ j,j ≠ key → st'.get j = st.get j) → Q v st') :
 WV (match Na5 st ps with
  | some l => match g l with
    | some r => if r.closedB then NaD st key r else none
    | none => none
  | none => none) Q:=by
 unfold Nnm at hg
 by_cases h0 : rs = []
 ·rw [if_pos h0] at hg
  refine Na7 hd hg rfl rfl (q _ _ ?_ rfl (fun j hj => by simp [keyOf] at hj) fun _ _ => rfl)
  subst h0
  exact Own.nil _ _
 ·rw [if_neg h0] at hg
  exact NdP hd hg (NjV rs) (Nlm rs) hk fun st' h1 _ h3 h4 => q _ _ h1 h3 (fun j hj => by simpa [keyOf] using hj) h4
theorem NjF {z z' : Bool} {n n' : Nat} (cs cs' : List PV) : NaF [slV z n cs,slV z' n' cs'] = ([slV z n cs,slV z' n' cs'],{ sto:=.leaf,cnt:=1 }):=by
 unfold slV
 split <;> split <;> rfl
theorem Nj2 {cfg : Cfg} (hf : cfg.fn 16 = some m16) (hx : cfg.ext 16 = none) {fuel : Nat} {rs : List (Nat × Nat × Nat)} {z z' : Bool} (hl : rs.length + 2 ≤ fuel) (hb : rs.length ≤ reachBytes) : Naj cfg (NaC cfg (fuel + 1)) 16 [slV z rs.length (rs.flatMap rcC),slV z' rs.length (rs.flatMap rcC)] = some (.b true) :=
 Nas hx (NjF _ _) (fun _ => rfl) (Nlr hf hl hb)
theorem Nmz {cd : Cd} {n q : Int} (hn : n = cd.T.length) (hq : 0 ≤ q ∧ q < n) (e : Et) (h : etB cd e = true) : etB cd (Ngn n q e) = true:=by
 unfold etB Ngn at *
 simp only [Bool.and_eq_true,decide_eq_true_eq] at *
 have:=NjZ (n:=n) (q:=q) (a:=e.T) ⟨by omega,by omega⟩ hq
 omega
theorem Nm8 (f : Et → Et) (l : List Et) {i : Nat} (h : i < l.length) : List.take 1 (List.drop (i * 5) ((NcG f l i).flatMap Et.cs)) = [.i .i64 l[i].T]:=by
 rw [NhF f l h,List.drop_append,Nej f l Zaa,List.drop_of_length_le (by rw [Nej f l (by omega)]; omega),Nat.sub_self]
 rfl
end Go.Pe
set_option maxHeartbeats 8000000
namespace Go.Pe
open Go Go.Am Go.RowKit

noncomputable def NfK (cd : Cd) (hwf : cd.wf) : Cfg:={ fn:=fun f => NcZ f tblX5,ext:=NpP cd hwf }
theorem Nhf {cd : Cd} {hwf : cd.wf} {Gl : Gmap} {m : Int} (hg : Gl 0 0 = some (.int .i64 m)) : CfgOK Go.Proofs.Tryz.prog Gl (NfK cd hwf):=Nfe NlD (NmB hg)
theorem Nkq {cd : Cd} {hwf : cd.wf} (f : FuncId) (m : MFunc) (h : NcZ f tblL = some m) : (NfK cd hwf).fn f = some m:=by
 show NcZ f tblX5 = some m
 by_cases h6 : f = 5
 ·subst h6
  have h0 : NcZ 5 tblL = none:=by kernel_rfl
  rw [h0] at h; cases h
 ·have hb : Nat.beq f 5 = false:=by
   cases h : Nat.beq f 5 with
   | false => rfl
   | true => exact absurd (Nat.eq_of_beq_eq_true h) h6
  show (Bool.rec (motive:=fun _ => Option MFunc) (NcZ f tblL) (some m5) (Nat.beq f 5)) = some m
  rw [hb]
  exact h
theorem Nmm {cd : Cd} {hwf : cd.wf} : CfgG (NfK cd hwf) where
 fn:=Nkq
 jn:=by rfl
 tk:=by rfl
 r1:=by rfl
 r2:=by rfl
 r3:=by rfl
 r4:=by rfl
 r5:=by rfl
 r6:=by rfl
 r7:=by rfl
 r8:=by rfl
 a1:=by rfl
 a2:=by rfl
 a3:=by rfl
 n2:=by rfl
 n3:=by rfl
 n4:=by rfl
 n5:=by rfl
theorem Nm0 {cd : Cd} (hwf : cd.wf) {l : List Et} (hl : l.length ≤ reachBytes) {x0 : Int} : ∃ fuel,evP (NfK cd hwf) fuel 5 [.agg (Cd.cs cd),.fsl l.length (l.flatMap Et.cs),.i .i64 x0] = some (.b true):=by
 obtain ⟨F,hF,hFl⟩:=NlP cd (l.length + cd.O.length + 200)
 obtain ⟨ck,hck0⟩ : ∃ ck,Npv cd hwf = ck:=⟨_,rfl⟩
 have hok0:=Nmq cd hwf
 rw [hck0] at hok0
 refine ⟨(F + 50) + 1,NkE rfl rfl (fun _ => rfl) (Nay (by kernel_rfl : (NfK cd hwf).fn 5 = some m5) ?_)⟩
 delta m5 Qa Qr Qf Qg Ql Qt Qn Qs Qk Qm Qh
 have hc : CfgG (NfK cd hwf):=Nmm
 have hok:=Nhf (cd:=cd) (hwf:=hwf) (Gl:=fun _ _ => some (.int .i64 0)) rfl
 obtain ⟨cfg,hcfg⟩ : ∃ cfg,NfK cd hwf = cfg:=⟨_,rfl⟩
 have hxk : cfg.ext 27 = some (gCk cd hwf):=by rw [← hcfg]; rfl
 have hxa : cfg.ext 13 = some gTrue:=by rw [← hcfg]; rfl
 rw [hcfg] at hc hok ⊢
 have hckr : ∀ callE,Naj cfg callE 27 [.agg (Cd.cs cd)] = some (.i .i64 ck):=fun callE => by
  rw [Nbc hxk]
  unfold gCk
  rw [if_pos rfl,hck0]
 obtain ⟨hwO,hwT,-,-⟩:=id hwf
 have hrb : reachBytes = 140737488351232:=rfl
 have aw : ∀ (st : St) (key : Nat),Nan (Naj cfg (NaC cfg (F + 50)) 13) false st key [] = some (.b true,st):=fun st key => NaB rfl (by rw [Nbc hxa]; rfl) rfl
 have awq : Naj cfg (NaC cfg (F + 50)) 13 [] = some (.b true):=by rw [Nbc hxa]; rfl
 obtain ⟨gb,hgb⟩:=Ni8 hc (F:=F) (cd:=cd) hwf hF
 have gG : ∀ (st : St) (key : Nat),Nan (Naj cfg (NaC cfg (F + 50)) 14) false st key [.agg [slV cd.zo cd.O.length (cd.O.flatMap Dc.cs),slV cd.zt cd.T.length (cd.T.flatMap Tx.cs)]] = some (.b gb,st):=fun st key => NaL (Nbd Nbj) hgb rfl rfl
 have hsn:=Nlt (z:=false) (l:=l) hc (hckr (NaC cfg (F + 49))) Zaa hwO hwT hl
 rw [Nlx] at hsn
 have gS : ∀ (st : St) (key : Nat),Nan (Naj cfg (NaC cfg (F + 50)) 15) false st key [.agg [slV cd.zo cd.O.length (cd.O.flatMap Dc.cs),slV cd.zt cd.T.length (cd.T.flatMap Tx.cs)],.fsl l.length (l.flatMap Et.cs)] = some (.b (trV ck cd l),st):=fun st key => NaL (NaQ Nbj rfl) hsn rfl rfl
 rw [show Cd.cs cd = [slV cd.zo cd.O.length (cd.O.flatMap Dc.cs),slV cd.zt cd.T.length (cd.T.flatMap Tx.cs)] from rfl]
 have hE:=Nax Et.cs_len l
 have lT:=Nav cd.zt cd.T.length (cd.T.flatMap Tx.cs)
 simp only [Nak]
 (try rw [Z0])
 (try simp (maxSteps:=2000000) (disch:=first | omega | rfl | assumption) only [↓Yaa,Yab,Nae,Naa,rA,rB,rC,rD,reduceIte,unP,rE,Nag,Naf])
 refine NaA (fun x => ∃ (A : Nat),A < x.st.cnt ∧ x.env.get 1 = .fsl l.length (l.flatMap Et.cs) ∧ x.env.get 2 = .i .i64 x0 ∧ x.env.get 3 = .ptr A 0 ∧ x.st.get A = some (.cells [slV cd.zo cd.O.length (cd.O.flatMap Dc.cs),slV cd.zt cd.T.length (cd.T.flatMap Tx.cs)] false)) ?_ ?_
 ·exact ⟨1,Zab,Zad,Zad,Zad,(by first | exact kA _ | with_reducible rfl | with_reducible assumption | (simp (disch:=omega) only [Nar,Nau,Yae]; first | done | with_reducible rfl | with_reducible assumption))⟩
 rintro ⟨env,⟨sto,c⟩⟩ ⟨A,bA,g1,g2,g3,kA⟩
 try simp only at bA g1 g2 g3
 replace kA : ∀ n',St.get ⟨sto,n'⟩ A = some (.cells [slV cd.zo cd.O.length (cd.O.flatMap Dc.cs),slV cd.zt cd.T.length (cd.T.flatMap Tx.cs)] false):=fun _ => kA
 cases gb with
 | true =>
   iterate 6
    (try rw [Z0])
    (try simp (maxSteps:=2000000) (disch:=first | omega | rfl | assumption) only [↓Yaa,Yab,Nae,Naa,rA,rB,rC,rD,reduceIte,unP,rE,g1,g2,g3,kA,gG,aw,Nag,Naf])
   exact ⟨nofun,_,rfl,by simp only [Naw,Yac,if_true]⟩
 | false =>
   by_cases ht : trV ck cd l = true
   ·rw [ht] at gS
    have hck:=NlI ht
    subst hck
    by_cases hT0 : cd.T.length = 0
    ·have b0 : ((cd.T.length : Int) == Int.ofNat 0) = true:=by rw [hT0]; rfl
     iterate 6
      (try rw [Z0])
      (try simp (maxSteps:=2000000) (disch:=first | omega | rfl | assumption) only [↓Yaa,Yab,Nae,Naa,rA,rB,rC,rD,reduceIte,unP,rE,g1,g2,g3,kA,gG,gS,aw,Nag,Naf,lT,b0])
     exact ⟨nofun,_,rfl,by simp only [Naw,Yac,if_true]⟩
    have b0 : ((cd.T.length : Int) == Int.ofNat 0) = false:=by
     rw [beq_eq_false_iff_ne]
     show ((cd.T.length : Int)) ≠ ((0 : Nat) : Int)
     omega
    obtain ⟨l',hl'⟩ : ∃ l',l.take 80 = l':=⟨_,rfl⟩
    have ht' : trV 0 cd l' = true:=hl' ▸ NlH ht 80
    have hlen : l'.length ≤ 80:=by rw [← hl',List.length_take]; omega
    have hok64 : cd.T.length ≤ 64:=by have:=(hok0 rfl).1.2; omega
    have hmin:=NqZ 80 l
    have hsl:=Nql 80 l
    rw [hl'] at hmin hsl
    have hE':=Nax Et.cs_len l'
    iterate 3
     (try rw [Z0])
     (try simp (maxSteps:=2000000) (disch:=first | omega | rfl | assumption) only [↓Yaa,Yab,Nae,Naa,rA,rB,rC,rD,reduceIte,unP,rE,g1,g2,g3,kA,gG,gS,aw,Nag,Naf,hmin,hsl,lT,b0])
    have hce:=fun st => Nkp st l'
    have hon:=Nn1 l'
    (try rw [Z0])
    (try simp (maxSteps:=2000000) (disch:=first | omega | rfl | assumption) only [↓Yaa,Yab,Nae,Naa,rA,rB,rC,rD,reduceIte,unP,rE,g1,g2,g3,kA,hE',hce,hon])
    refine Nc9 (cs:=[]) (.inr ⟨c + 160,rfl,by exact Yae _ _ _,rfl,by simp only [Nal]; omega⟩ : Own _ 5 (.rsl (c + 160) 5 0 0) 0 []) Zai (by simp [keyOf]) hE' Zaa (by unfold NaP; omega) ?_
    intro o1 st1 hown1 hcnt1 hkey1 hj1
    simp only [Nal] at hcnt1
    rw [Nat.zero_add,Zan] at hown1
    have f1 : ∀ k,k ≠ c + 160 → k ≠ c + 176 → st1.get k = St.get ⟨sto,c⟩ k:=fun k a b => by
     rw [hj1 k b (by simpa [keyOf] using a),Yad Zaa]; rfl
    refine NaA (fun x => ∃ (K1 : Nat),A < x.st.cnt ∧ (A < K1) ∧ x.env.get 1 = .fsl l'.length (l'.flatMap Et.cs) ∧ x.env.get 2 = .i .i64 x0 ∧ x.env.get 3 = .ptr A 0 ∧ x.env.get 7 = o1 ∧ x.st.get A = some (.cells [slV cd.zo cd.O.length (cd.O.flatMap Dc.cs),slV cd.zt cd.T.length (cd.T.flatMap Tx.cs)] false) ∧ ((∀ k,k ∈ keyOf o1 → k = K1)) ∧ (Own x.st 5 o1 l'.length (l'.flatMap Et.cs))) ?_ ?_
    ·refine ⟨c + 176,Zab,Zac,?_,?_,?_,?_,(by exact (f1 A (by omega) (by omega)).trans (kA _)),hkey1,hown1⟩ <;> first | with_reducible rfl | with_reducible assumption | (simp [Yac,g1,g2,g3] <;> omega)
    clear bA g1 g2 g3 kA
    rintro ⟨env,⟨sto,c⟩⟩ ⟨K1,bA,oK1,g1,g2,g3,g7,kA,hk1,ho1⟩
    try simp only at bA g1 g2 g3 g7 ho1
    replace kA : ∀ n',St.get ⟨sto,n'⟩ A = some (.cells [slV cd.zo cd.O.length (cd.O.flatMap Dc.cs),slV cd.zt cd.T.length (cd.T.flatMap Tx.cs)] false):=fun _ => kA
    obtain ⟨p,hp,rp⟩:=NjI hc (fuel:=F + 50) Zaa x0 (n:=(cd.T.length : Int)) ⟨by omega,by omega⟩
    (try rw [Z0])
    (try simp (maxSteps:=2000000) (disch:=first | omega | rfl | assumption) only [↓Yaa,Yab,Nae,Naa,rA,rB,rC,rD,reduceIte,unP,rE,g1,g2,g3,g7,kA,lT])
    refine NaA (fun x => A < x.st.cnt ∧ x.env.get 1 = .fsl l'.length (l'.flatMap Et.cs) ∧ x.env.get 2 = .i .i64 x0 ∧ x.env.get 3 = .ptr A 0 ∧ x.env.get 7 = o1 ∧ x.st.get A = some (.cells [slV cd.zo cd.O.length (cd.O.flatMap Dc.cs),slV cd.zt cd.T.length (cd.T.flatMap Tx.cs)] false) ∧ (Own x.st 5 o1 l'.length (l'.flatMap Et.cs)) ∧ x.env.get 8 = .i .i64 (cd.T.length : Int)) ?_ ?_
    ·refine ⟨Zab,?_,?_,?_,?_,?_,(ho1.move Zaf fun _ _ _ => rfl),?_⟩ <;> first | with_reducible rfl | with_reducible assumption | exact kA _ | (simp [Yac,g1,g2,g3,g7] <;> omega) | (simp (disch:=omega) only [Nar,Nau,Yae,kA]; first | done | with_reducible rfl | with_reducible assumption)
    clear bA g1 g2 g3 g7 kA ho1
    rintro ⟨env,⟨sto,c⟩⟩ ⟨bA,g1,g2,g3,g7,kA,ho1,g8⟩
    try simp only at bA g1 g2 g3 g7 ho1 g8
    replace kA : ∀ n',St.get ⟨sto,n'⟩ A = some (.cells [slV cd.zo cd.O.length (cd.O.flatMap Dc.cs),slV cd.zt cd.T.length (cd.T.flatMap Tx.cs)] false):=fun _ => kA
    have lo1:=ho1.len
    have hn64 : (cd.T.length : Int) ≤ 64:=by omega
    have hok':=Nmb ht' hok64
    have hin':=NoI ht'
    have hpq : 0 ≤ (p : Int) ∧ (p : Int) < (cd.T.length : Int):=⟨by omega,hp⟩
    refine NaN (fun x => x.env.get 1 = .fsl l'.length (l'.flatMap Et.cs) ∧ x.env.get 3 = .ptr A 0 ∧ x.env.get 7 = o1 ∧ A < x.st.cnt ∧ x.st.get A = some (.cells [slV cd.zo cd.O.length (cd.O.flatMap Dc.cs),slV cd.zt cd.T.length (cd.T.flatMap Tx.cs)] false) ∧ (Own x.st 5 o1 l'.length ((l'.map (Ngn cd.T.length p)).flatMap Et.cs))) ?_ ?_
    ·intro K1 hK1
     iterate 2
      (try rw [Z0])
      (try simp (maxSteps:=2000000) (disch:=first | omega | rfl | assumption) only [↓Yaa,Yab,Nae,Naa,rA,rB,rC,rD,reduceIte,unP,rE,g1,g2,g3,g7,kA,g8,lo1,lT])
     refine Z9 (k:=l'.length - 0) (fun m x => ∃ (i : Nat),m = l'.length - i ∧ x.env.get 1 = .fsl l'.length (l'.flatMap Et.cs) ∧ x.env.get 2 = .i .i64 x0 ∧ x.env.get 3 = .ptr A 0 ∧ x.env.get 7 = o1 ∧ x.env.get 8 = .i .i64 (cd.T.length : Int) ∧ x.env.get 37 = .i .i64 (l'.length : Int) ∧ x.env.get 38 = .i .i64 (i : Int) ∧ x.st.get A = some (.cells [slV cd.zo cd.O.length (cd.O.flatMap Dc.cs),slV cd.zt cd.T.length (cd.T.flatMap Tx.cs)] false) ∧ A < x.st.cnt ∧ (i ≤ l'.length) ∧ (Own x.st 5 o1 l'.length ((NcG (Ngn cd.T.length p) l' i).flatMap Et.cs))) ?_ ?_ Zaa
     ·clear bA g1 g2 g3 g7 kA ho1 g8
      rintro m ⟨env,⟨sto,c⟩⟩ ⟨i,rfl,g1,g2,g3,g7,g8,g37,g38,kA,bA,hi,ho1⟩
      try simp only at g1 g2 g3 g7 g8 g37 g38 bA ho1
      replace kA : ∀ n',St.get ⟨sto,n'⟩ A = some (.cells [slV cd.zo cd.O.length (cd.O.flatMap Dc.cs),slV cd.zt cd.T.length (cd.T.flatMap Tx.cs)] false):=fun _ => kA
      by_cases hil : i < l'.length
      ·rcases ho1 with ⟨_,h0,_⟩ | ⟨k1,rfl,gk1,lk1,bk1⟩
       ·omega
       simp only at bk1
       have e1:=hk1 k1 (by simp [keyOf])
       replace gk1 : ∀ n',St.get ⟨sto,n'⟩ k1 = _:=fun _ => gk1
       have hTi:=hin' _ (List.getElem_mem hil)
       have hmod : (l'[i].T + (p : Int)).tmod (cd.T.length : Int) = Nit cd.T.length p l'[i].T:=by
        rw [Int.tmod_eq_emod_of_nonneg Zaa]
        exact Nlp hTi hpq
       have hn0 : ((cd.T.length : Int) = 0) = False:=eq_false Zaa
       have hTt:=Nm8 (Ngn cd.T.length p) l' hil
       have hs1:=Nik (f:=Ngn cd.T.length p) hil (q:=0) (v:=.i .i64 (Nit cd.T.length p l'[i].T)) Zaa rfl
       simp only [Nat.add_zero] at hs1
       have c1:=Nei (Ngn cd.T.length p) l' hi
       iterate 4
        (try rw [Z0])
        (try simp (maxSteps:=2000000) (disch:=first | omega | rfl | assumption) only [↓Yaa,Yab,Nae,Naa,rA,rB,rC,rD,reduceIte,unP,rE,g1,g2,g3,g7,g8,g37,g38,kA,gk1,lT,c1,hE',hTt])
       refine Na7 (NbB rfl) rp rfl rfl ?_
       (try rw [Z0])
       (try simp (maxSteps:=2000000) (disch:=first | omega | rfl | assumption) only [↓Yaa,Yab,Nae,Naa,rA,rB,rC,rD,reduceIte,unP,rE,g1,g2,g3,g7,g8,g37,g38,kA,gk1,lT,c1,hE',hTt,hmod,hn0,hs1])
       exact ⟨l'.length - (i + 1),by omega,i + 1,rfl,rfl,by omega,.inr ⟨k1,rfl,by simp (disch:=omega) only [Nar,Nau,Yae],Nei _ l' Zaa,by simp only [Nal]; omega⟩⟩
      ·skip
       have hin : i = l'.length:=by omega
       subst hin
       iterate 5
        (try rw [Z0])
        (try simp (maxSteps:=2000000) (disch:=first | omega | rfl | assumption) only [↓Yaa,Yab,Nae,Naa,rA,rB,rC,rD,reduceIte,unP,rE,g1,g2,g3,g7,g8,g37,g38,kA])
       rw [Njl] at ho1
       refine hK1 _ ⟨?_,?_,?_,Zab,?_,(ho1.move Zaf fun _ _ _ => rfl)⟩ <;> first | with_reducible rfl | with_reducible assumption | exact kA _ | (simp [Yac,g1,g2,g3,g7,g8,g37,g38] <;> omega) | (simp (disch:=omega) only [Nar,Nau,Yae,kA]; first | done | with_reducible rfl | with_reducible assumption)
     ·skip
      refine ⟨0,rfl,?_,?_,?_,?_,?_,?_,?_,?_,Zab,Zac,(by rw [Nh7]; exact ho1.move (by simp only; omega) fun _ _ _ => rfl)⟩ <;> first | with_reducible rfl | with_reducible assumption | exact kA _ | (simp [Yac,g1,g2,g3,g7,g8] <;> omega) | (simp (disch:=omega) only [Nar,Nau,Yae,kA]; first | done | with_reducible rfl | with_reducible assumption)
    clear bA g1 g2 g3 g7 kA ho1 g8
    rintro ⟨env,⟨sto,c⟩⟩ ⟨g1,g3,g7,bA,kA,ho1⟩
    try simp only at g1 g3 g7 bA ho1
    replace kA : ∀ n',St.get ⟨sto,n'⟩ A = some (.cells [slV cd.zo cd.O.length (cd.O.flatMap Dc.cs),slV cd.zt cd.T.length (cd.T.flatMap Tx.cs)] false):=fun _ => kA
    have hxs : cfg.ext 16 = none:=by rw [← hcfg]; rfl
    have ht1 : trV 0 cd (l'.map (Ngn cd.T.length p)) = true:=Nnx ht' fun e he => Nmz rfl hpq e he
    obtain ⟨R,hR⟩ : ∃ R,Ne4 cd l' cd.O.length = R:=⟨_,rfl⟩
    have hR1 : Ne4 cd (l'.map (Ngn cd.T.length p)) cd.O.length = R:=by rw [Nlk hok' hin' hn64 hpq Zaa,hR]
    have hRl : R.length ≤ 64:=by
     have:=NjP cd l' cd.O.length
     have:=(hok0 rfl).1.1
     rw [← hR]; omega
    have hrun : ∀ (z : Bool) (L : List Et),L.length ≤ 80 → trV 0 cd L = true → Ne4 cd L cd.O.length = R → Naj cfg (NaC cfg (F + 50)) 12 [.agg [slV cd.zo cd.O.length (cd.O.flatMap Dc.cs),slV cd.zt cd.T.length (cd.T.flatMap Tx.cs)],slV z L.length (L.flatMap Et.cs)] = some (Nnm R):=fun z L hL h1 hn => by
     have:=NjR (fuel:=F + 43) hok hc.toCfgA (z:=z) (l:=L) (hckr (NaC cfg (F + 48))) Zaa Zaa Zaa hwO hwT (fun _ => hok64) (fun _ => (hok0 rfl).1.1)
     have h0 : NnF 0 cd L = R:=by unfold NnF; rw [if_pos h1,hn]
     rw [h0] at this
     exact this
    have hr0:=hrun false l' hlen ht' hR
    rw [Nlx] at hr0
    (try rw [Z0])
    (try simp (maxSteps:=2000000) (disch:=first | omega | rfl | assumption) only [↓Yaa,Yab,Nae,Naa,rA,rB,rC,rD,reduceIte,unP,rE,g1,g3,g7,kA,Nag,Naf])
    refine NfF (NaQ Nbj rfl) hr0 Zaf ?_
    rintro v1 ⟨sto1,c1⟩ ow1 cn1 ky1 fr1
    simp only at cn1
    subst cn1
    have kA1 : ∀ n',St.get ⟨sto1,n'⟩ A = _:=fun _ => (fr1 A Zaa).trans (kA _)
    have ho1':=ho1.move (st':=⟨sto1,c + 88⟩) Zaf fun k hk _ => fr1 k (by have:=ho1.lt k hk; simp only at this; omega)
    obtain ⟨z1,d1⟩:=NjG ho1' (by rw [List.length_map])
    (try rw [Z0])
    (try simp (maxSteps:=2000000) (disch:=first | omega | rfl | assumption) only [↓Yaa,Yab,Nae,Naa,rA,rB,rC,rD,reduceIte,unP,rE,g1,g3,g7,kA,Nag,Naf,kA1])
    refine NfF (NaQ Nbj d1) (hrun z1 _ (by rw [List.length_map]; exact hlen) ht1 hR1) Zaf ?_
    rintro v2 ⟨sto2,c2⟩ ow2 cn2 ky2 fr2
    simp only at cn2
    subst cn2
    obtain ⟨z2,d2⟩:=NjX (ow1.move (st':=⟨sto2,c + 88⟩) Zaf fun k hk _ => fr2 k (by have:=ky1 k hk; omega))
    obtain ⟨z3,d3⟩:=NjX ow2
    refine Na7 (NaQ d2 d3) (Nj2 (fuel:=F + 49) (hc.fn _ _ (by kernel_rfl)) hxs Zaa Zaa) rfl rfl ?_
    (try rw [Z0])
    (try simp (maxSteps:=2000000) (disch:=first | omega | rfl | assumption) only [↓Yaa,Yab,Nae,Naa,rA,rB,rC,rD,reduceIte,unP,rE,g1,g3,g7,kA])
    refine Na7 (show Na5 _ [] = some [] from rfl) awq rfl rfl ?_
    iterate 2
     (try rw [Z0])
     (try simp (maxSteps:=2000000) (disch:=first | omega | rfl | assumption) only [↓Yaa,Yab,Nae,Naa,rA,rB,rC,rD,reduceIte,unP,rE,g1,g3,g7,kA])
    exact ⟨nofun,_,rfl,by simp only [Naw,Yac,if_true]⟩
   ·have hf : trV ck cd l = false:=by simpa using ht
    rw [hf] at gS
    iterate 6
     (try rw [Z0])
     (try simp (maxSteps:=2000000) (disch:=first | omega | rfl | assumption) only [↓Yaa,Yab,Nae,Naa,rA,rB,rC,rD,reduceIte,unP,rE,g1,g2,g3,kA,gG,gS,aw,Nag,Naf])
    exact ⟨nofun,_,rfl,by simp only [Naw,Yac,if_true]⟩
theorem Njp (f : Nat) (z0 : List PV) (i0 : (NiJ f).Is z0) (n1 : Nat) (z1 : List PV) (l1 : z1.length = n1 * etSh.width) (b1 : n1 ≤ reachBytes) (i1 : ∀ j,j < n1 → etSh.Is ((z1.drop (j * etSh.width)).take etSh.width)) (x0 : Int) {P : Prop} (_ : P) : ∃ cd hwf fuel,evP (NfK cd hwf) fuel 5 [.agg z0,.fsl n1 z1,.i .i64 x0] = some (.b true):=by
 obtain ⟨cd,rfl,hwf⟩:=Np9 f z0 i0
 obtain ⟨l,hl,hn,hw⟩:=NgS (f:=Et.cs) (Q:=Et.wf) (w:=5) n1 z1 l1 (fun j hj => Nqb _ (i1 j hj))
 rw [hn,← hl]
 obtain ⟨fuel,hev⟩:=Nm0 hwf (l:=l) Zaa (x0:=x0)
 exact ⟨cd,hwf,fuel,hev⟩
end Go.Pe
