/-
 RaceOrder: the law, walked. No condition.
-/
import Derived.Test.YtgnmmphmkoaicaaGreatDoorZPeTbl
import Derived.Test.YtgnmmphmkoaicaaGreatDoorZGrtA
import Derived.Test.YtgnmmphmkoaicaaGreatDoorZCoeF
import Derived.Test.YtgnmmphmkoaicaaGreatDoorZRacF
set_option linter.unusedVariables false
set_option linter.unusedSimpArgs false
set_option maxRecDepth 100000
open Nat (reduceAdd reduceMul reduceLT reduceEqDiff reduceLeDiff)
namespace Go.Pe
open Go Go.Am Go.RowKit
noncomputable def m8 : MFunc := { body := .seq (.region [Qt 3 (.box (.t 0)), Qt 5 (.box (.t 2)), Qt 6 (.mv (.c (.b false)))]) (.seq (.seq (.region [Ql 13 (.load true 2 (.t 3)), Ql 14 (.call 14 false [.l 13]), Qh 15 14, Qs 16 (.load true 2 (.t 3)) 15 false, Qs 17 (.mv (.t 1)) 15 false, Qs 18 (.call 15 false [.l 16, .l 17]) 15 false, Qs 19 (.un .not (.l 18)) 15 false, Qt 20 (.pick (.l 15) (.c (.b true)) (.l 19))]) (.cond (.t 20) (.seq (.region [Ql 21 (.call 13 false []), Qm 6 21]) .ret) .skip)) (.seq (.region [Qa 22 1, Qa 23 1, Ql 24 (.len (.l 23)), Ql 25 (.min (.l 24) [.c (.i .i64 (.ofNat 40))]), Ql 26 (.slice none 5 (.l 22) none (some (.l 25))), Qm 1 26]) (.seq (.seq (.region [Qa 27 1, Ql 28 (.len (.l 27)), Qt 29 (.bin .eql (.l 28) (Qk 0))]) (.cond (.t 29) (.seq (.region [Ql 30 (.call 13 false []), Qm 6 30]) .ret) .skip)) (.seq (.region [Ql 31 (.indexAddr (some 3) 1 (.t 5) (Qk 0)), Qr 32 31, Qa 33 1, Ql 34 (.len (.l 33)), Ql 35 (.callq 11 [.l 32, .l 34]), Ql 36 (.indexAddr (some 3) 1 (.t 5) (Qk 1)), Qr 37 36, Qa 38 1, Ql 39 (.len (.l 38)), Ql 40 (.callq 11 [.l 37, .l 39]), Ql 41 (.indexAddr (some 3) 1 (.t 5) (Qk 2)), Qr 42 41, Qa 43 1, Ql 44 (.len (.l 43)), Ql 45 (.callq 11 [.l 42, .l 44]), Qm 7 35, Qm 8 40, Qm 9 45]) (.seq (.region [Ql 46 (.load true 2 (.t 3)), Qa 47 1, Qa 48 7, Qa 49 8, Ql 50 (.callq 18 [.l 46, .l 47, .l 48, .l 49]), Ql 51 (.load true 2 (.t 3)), Qa 52 1, Qa 53 8, Qa 54 9, Ql 55 (.callq 18 [.l 51, .l 52, .l 53, .l 54]), Ql 56 (.load true 2 (.t 3)), Qa 57 1, Qa 58 7, Qa 59 9, Ql 60 (.callq 18 [.l 56, .l 57, .l 58, .l 59]), Qm 10 50, Qm 11 55, Qm 12 60]) (.seq (.seq (.region [Ql 61 (.load true 2 (.t 3)), Qa 62 1, Qa 63 7, Qa 64 7, Ql 65 (.call 18 false [.l 61, .l 62, .l 63, .l 64]), Qh 66 65, Qs 67 (.mv (.t 10)) 66 false, Qs 68 (.mv (.l 67)) 66 false, Qs 69 (.load true 2 (.t 3)) 68 true, Qs 70 (.mv (.t 1)) 68 true, Qs 71 (.mv (.t 8)) 68 true, Qs 72 (.mv (.t 7)) 68 true, Qs 73 (.call 18 false [.l 69, .l 70, .l 71, .l 72]) 68 true, Qs 74 (.pick (.l 68) (.l 73) (.c (.b false))) 66 false, Ql 75 (.pick (.l 66) (.c (.b true)) (.l 74)), Qh 76 75, Qs 77 (.mv (.t 10)) 76 false, Qs 78 (.mv (.l 77)) 76 false, Qs 79 (.mv (.t 11)) 78 true, Qs 80 (.pick (.l 78) (.l 79) (.c (.b false))) 76 false, Qs 81 (.mv (.l 80)) 76 false, Qs 82 (.mv (.t 12)) 81 true, Qs 83 (.un .not (.l 82)) 81 true, Qs 84 (.pick (.l 81) (.l 83) (.c (.b false))) 76 false, Ql 85 (.pick (.l 76) (.c (.b true)) (.l 84)), Qh 86 85, Qs 87 (.mv (.t 10)) 86 false, Qs 88 (.mv (.l 87)) 86 false, Qs 89 (.mv (.t 7)) 88 true, Qs 90 (.mv (.t 8)) 88 true, Qs 91 (.bin .geq (.l 89) (.l 90)) 88 true, Qs 92 (.pick (.l 88) (.l 91) (.c (.b false))) 86 false, Qt 93 (.pick (.l 86) (.c (.b true)) (.l 92))]) (.cond (.t 93) (.seq (.region [Qt 6 (.mv (.c (.b false)))]) .ret) .skip)) (.seq (.region [Qa 94 1, Qa 95 7, Ql 96 (.indexAddr none 5 (.l 94) (.l 95)), Qf 97 0 96, Qr 98 97, Qa 99 1, Qa 100 8, Ql 101 (.indexAddr none 5 (.l 99) (.l 100)), Qf 102 0 101, Qr 103 102, Ql 104 (.bin .neq (.l 98) (.l 103)), Qh 105 104, Qs 106 (.mv (.t 10)) 105 false, Qs 107 (.mv (.t 7)) 105 false, Qs 108 (.mv (.t 8)) 105 false, Qs 109 (.bin .lss (.l 107) (.l 108)) 105 false, Qs 110 (.eqb false (.l 106) (.l 109)) 105 false, Ql 111 (.pick (.l 105) (.c (.b true)) (.l 110)), Qh 112 111, Qs 113 (.callq 13 []) 112 true, Ql 114 (.pick (.l 112) (.l 113) (.c (.b false))), Qm 6 114]) .ret))))))), res := [.t 6] }
theorem t8 : Qx 8 = some m8 := by kernel_rfl
noncomputable def tblX8 : List (Nat × MFunc) := (8, m8) :: tblL
theorem Nkc : NlY Go.Proofs.Tryz.prog (Nah Go.Proofs.Tryz.prog []) tblX8 := ⟨t8, NeZ⟩
end Go.Pe
set_option maxRecDepth 100000
namespace Go.Pe
open Go Go.Am Go.RowKit

theorem NiJ : fvP cfgNx 400 13 [] = some (.b true) := by kernel_rfl
theorem NeV (args : List PV) (r : PV) (h : gTrue args = some r) : ∃ fuel, evP cfgNx fuel 13 args = some r := by
 unfold gTrue at h
 split at h
 ·rw [← h]
  refine ⟨400, ?_⟩
  have := NiJ
  rwa [Nkq] at this
 ·cases h
def Nnb : FuncId → Option (List PV → Option PV) := fun f => if f = 52 then some gNext else if f = 75 then some gJoin else if f = 72 then some gTick else none
theorem Nh3 {Gl : Gmap} {m : Int} (hg : Gl 0 0 = some (.int .i64 m)) : ∀ f g, Nnb f = some g → Nbo Go.Proofs.Tryz.prog Gl f g := by
 intro f g h
 unfold Nnb at h
 split at h
 ·rename_i e; simp only [Sj] at h; subst h; subst e
  exact Nfx (Ngy hg)
 split at h
 ·rename_i e; simp only [Sj] at h; subst h; subst e
  exact Nlq
 split at h
 ·rename_i e; simp only [Sj] at h; subst h; subst e
  exact NlP
 ·cases h
noncomputable def cfgR : Cfg := { fn := fun f => NcA f tblL, ext := Nnb }
theorem NkR {Gl : Gmap} {m : Int} (hg : Gl 0 0 = some (.int .i64 m)) : CfgOK Go.Proofs.Tryz.prog Gl cfgR := NeH NeZ (Nh3 hg)
theorem Nl7 : CfgZ cfgR where
 nx := by rfl
 fn := fun _ _ h => h
 jn := by rfl
 tk := by rfl
 x1 := by rfl
 x2 := by rfl
 x3 := by rfl
 x4 := by rfl
 x5 := by rfl
 x6 := by rfl
 x7 := by rfl
 x8 := by rfl
 x9 := by rfl
 y1 := by rfl
 y2 := by rfl
 y3 := by rfl
 y4 := by rfl
 y5 := by rfl
 y6 := by rfl
 z1 := by rfl
 z2 := by rfl
 z3 := by rfl
 z4 := by rfl
 z5 := by rfl
 z6 := by rfl
 z7 := by rfl
 z8 := by rfl
 r1 := by rfl
 r2 := by rfl
 r3 := by rfl
 r4 := by rfl
 r5 := by rfl
 r6 := by rfl
 r7 := by rfl
 r8 := by rfl
 a1 := by rfl
 a2 := by rfl
 a3 := by rfl
 a4 := by rfl
 k1 := by rfl
 k2 := by rfl
 k3 := by rfl
 k4 := by rfl
 k5 := by rfl
 k6 := by rfl
 k7 := by rfl
 k8 := by rfl
 k9 := by rfl
theorem Ncx {α : Type} (f : α → Nat) : ∀ l : List α, ∃ B, ∀ a, a ∈ l → f a ≤ B
 | [] => ⟨0, by simp⟩
 | a :: r => by
   obtain ⟨B, hB⟩ := Ncx f r
   refine ⟨f a + B, fun b hb => ?_⟩
   rcases List.mem_cons.1 hb with rfl | hb
   ·omega
   ·have := hB b hb; omega
theorem Nkm (cd : Cd) (M : Nat) : ∃ F, CdF cd F ∧ M ≤ F := by
 obtain ⟨B1, h1⟩ := Ncx (fun t : Tx => t.C.length) cd.T
 obtain ⟨B2, h2⟩ := Ncx (fun t : Tx => Classical.choose (Ncx (fun x : In => Exs.size x.A + x.A.length + 100) t.C)) cd.T
 refine ⟨cd.O.length + cd.T.length + B1 + B2 + M, ⟨by omega, by omega, fun t ht => by have := h1 t ht; (try simp only at this); omega, fun t ht x hx => ?_⟩, by omega⟩
 have a1 := Classical.choose_spec (Ncx (fun x : In => Exs.size x.A + x.A.length + 100) t.C) x hx
 have a2 := h2 t ht
 try simp only at a1 a2
 omega
theorem CdF.up {cd : Cd} {F F' : Nat} (h : CdF cd F) (hF : F ≤ F') : CdF cd F' := ⟨Nat.le_trans h.o hF, Nat.le_trans h.t hF, fun t ht => Nat.le_trans (h.c t ht) hF, fun t ht x hx => Nat.le_trans (h.a t ht x hx) hF⟩
theorem NkV (cd : Cd) (hwf : cd.wf) : ∃ ck : Int, (∃ fuel, evP cfgR fuel 27 [.agg (Cd.cs cd)] = some (.i .i64 ck)) ∧ (ck = 0 → OkC cd ∧ ∀ d, d ∈ cd.O → Ne2 cd d = true) := by
 obtain ⟨F, hF, -⟩ := Nkm cd 0
 obtain ⟨ck, h1, h2⟩ := NfX (F := F) Nl7 hwf hF
 exact ⟨ck, ⟨F + 50, h1⟩, h2⟩
noncomputable def Nna (cd : Cd) (hwf : cd.wf) : Int := Classical.choose (NkV cd hwf)
theorem Njf (cd : Cd) (hwf : cd.wf) : ∃ fuel, evP cfgR fuel 27 [.agg (Cd.cs cd)] = some (.i .i64 (Nna cd hwf)) := (Classical.choose_spec (NkV cd hwf)).1
theorem NkU (cd : Cd) (hwf : cd.wf) : Nna cd hwf = 0 → OkC cd ∧ ∀ d, d ∈ cd.O → Ne2 cd d = true := (Classical.choose_spec (NkV cd hwf)).2
open Classical in
noncomputable def gCk (cd : Cd) (hwf : cd.wf) : List PV → Option PV := fun args => if args = [.agg (Cd.cs cd)] then some (.i .i64 (Nna cd hwf)) else none
theorem Nl9 (cd : Cd) (hwf : cd.wf) (args : List PV) (r : PV) (h : gCk cd hwf args = some r) : ∃ fuel, evP cfgR fuel 27 args = some r := by
 unfold gCk at h
 split at h
 ·rename_i e
  simp only [Sj] at h
  subst h; subst e
  exact Njf cd hwf
 ·cases h
theorem Njp {cfg : Cfg} {f : FuncId} (hx : cfg.ext f = none) {fuel : Nat} {args : List PV} {r : PV} (ho : NaC args = (args, { sto := .leaf, cnt := 1 })) (hc : ∀ st, Na2 st r = some r) (h : ∃ r' st', Nay cfg fuel f args { sto := .leaf, cnt := 1 } = some (r', st') ∧ r' = r) : evP cfg fuel f args = some r := by
 obtain ⟨r', st', h1, h2⟩ := h
 exact Nh0 hx ho ⟨r', st', h1, by rw [h2]; exact hc st'⟩
noncomputable def Nny (cd : Cd) (hwf : cd.wf) : FuncId → Option (List PV → Option PV) := fun f => if f = 13 then some gTrue else if f = 27 then some (gCk cd hwf) else Nnb f
theorem Nk4 {cd : Cd} {hwf : cd.wf} {Gl : Gmap} {m : Int} (hg : Gl 0 0 = some (.int .i64 m)) : ∀ f g, Nny cd hwf f = some g → Nbo Go.Proofs.Tryz.prog Gl f g := by
 intro f g h
 unfold Nny at h
 split at h
 ·rename_i e; simp only [Sj] at h; subst h; subst e
  exact NiF (Njc hg) NeV
 split at h
 ·rename_i e; simp only [Sj] at h; subst h; subst e
  exact NiF (NkR hg) (Nl9 cd hwf)
 ·exact Nh3 hg f g h
end Go.Pe
namespace Go.Pe
open Go Go.Am Go.RowKit

abbrev AhE (cd : Cd) (l : List Et) (i j : Nat) : Prop := Ah (thL l) (gvL cd l) (tkL cd l) i j
theorem Ngv {cd : Cd} {l : List Et} (hv : ∀ e, e ∈ l → EtOK cd e) (ht : trV 0 cd l = true) (hl : l.length < 1000) {i j : Int} : Nde 0 cd l i j = true ↔ 0 ≤ i ∧ i < j ∧ j < l.length ∧ AhE cd l i.toNat j.toNat := by
 unfold Nde
 rw [ht]
 simp only [Bool.true_and, Bool.and_eq_true, decide_eq_true_eq]
 have hth : ∀ k, k < l.length → 0 ≤ thL l k ∧ thL l k < 64 := fun k _ => by have := NeB hv k; omega
 constructor
 ·rintro ⟨⟨⟨h1, h2⟩, h3⟩, h4⟩
  refine ⟨h1, h2, h3, ?_⟩
  exact (Ne7 (N := l.length) Zaa hth (i := i.toNat) (j := j.toNat) Zaa Zaa).1 h4
 ·rintro ⟨h1, h2, h3, h4⟩
  refine ⟨⟨⟨h1, h2⟩, h3⟩, ?_⟩
  exact (Ne7 (N := l.length) Zaa hth (i := i.toNat) (j := j.toNat) Zaa Zaa).2 h4
theorem Ni5 {cd : Cd} {l : List Et} {i : Int} : Nde 0 cd l i i = false := by
 unfold Nde
 simp
theorem Ngw {cd : Cd} {l : List Et} {i j : Int} (h : Nde 0 cd l i j = true) : Nde 0 cd l j i = false ∧ i < j := by
 unfold Nde at h ⊢
 simp only [Bool.and_eq_true, decide_eq_true_eq] at h
 obtain ⟨⟨⟨⟨h0, h1⟩, h2⟩, h3⟩, h4⟩ := h
 exact ⟨by rw [decide_eq_false (show ¬ j < i by omega)]; simp, h2⟩
theorem Ne8 {cd : Cd} {l : List Et} (hv : ∀ e, e ∈ l → EtOK cd e) (ht : trV 0 cd l = true) (hl : l.length < 1000) {i j k : Int} (h1 : Nde 0 cd l i j = true) (h2 : Nde 0 cd l j k = true) : Nde 0 cd l i k = true := by
 rw [Ngv hv ht hl] at h1 h2 ⊢
 exact ⟨h1.1, by omega, h2.2.2.1, h1.2.2.2.trans h2.2.2.2⟩
theorem Ng7 {cd : Cd} {l : List Et} (hv : ∀ e, e ∈ l → EtOK cd e) (ht : trV 0 cd l = true) (hl : l.length < 1000) {i j : Int} (hi : 0 ≤ i) (hj : j < l.length) (hs : thL l i.toNat = thL l j.toNat) : Nde 0 cd l i j = decide (i < j) := by
 by_cases h : i < j
 ·rw [decide_eq_true h]
  rw [Ngv hv ht hl]
  exact ⟨hi, h, hj, .one ⟨by omega, .inl hs⟩⟩
 ·rw [decide_eq_false h]
  unfold Nde
  rw [decide_eq_false h]
  simp
end Go.Pe
set_option maxHeartbeats 8000000
namespace Go.Pe
open Go Go.Am Go.RowKit

noncomputable def Nfb (cd : Cd) (hwf : cd.wf) : Cfg := { fn := fun f => NcA f tblX8, ext := Nny cd hwf }
theorem Njb {cd : Cd} {hwf : cd.wf} {Gl : Gmap} {m : Int} (hg : Gl 0 0 = some (.int .i64 m)) : CfgOK Go.Proofs.Tryz.prog Gl (Nfb cd hwf) := NeH Nkc (Nk4 hg)
theorem Nja {cd : Cd} {hwf : cd.wf} (f : FuncId) (m : MFunc) (h : NcA f tblL = some m) : (Nfb cd hwf).fn f = some m := by
 show NcA f tblX8 = some m
 by_cases h6 : f = 8
 ·subst h6
  have h0 : NcA 8 tblL = none := by kernel_rfl
  rw [h0] at h; cases h
 ·have hb : Nat.beq f 8 = false := by
   cases h : Nat.beq f 8 with
   | false => rfl
   | true => exact absurd (Nat.eq_of_beq_eq_true h) h6
  show (Bool.rec (motive := fun _ => Option MFunc) (NcA f tblL) (some m8) (Nat.beq f 8)) = some m
  rw [hb]
  exact h
theorem NkQ {cd : Cd} {hwf : cd.wf} : CfgG (Nfb cd hwf) where
 fn := Nja
 jn := by rfl
 tk := by rfl
 r1 := by rfl
 r2 := by rfl
 r3 := by rfl
 r4 := by rfl
 r5 := by rfl
 r6 := by rfl
 r7 := by rfl
 r8 := by rfl
 a1 := by rfl
 a2 := by rfl
 a3 := by rfl
 n2 := by rfl
 n3 := by rfl
 n4 := by rfl
 n5 := by rfl
theorem Nkf {ck : Int} {cd : Cd} {l : List Et} (h : trV ck cd l = true) (n : Nat) : trV ck cd (l.take n) = true := by
 unfold trV at h ⊢
 simp only [Bool.and_eq_true, List.all_eq_true] at h ⊢
 exact ⟨h.1, fun e he => h.2 e (List.mem_of_mem_take he)⟩
theorem Nh9 {l : List Et} {n : Nat} : (l.flatMap Et.cs).take (n * 5) = (l.take n).flatMap Et.cs := by
 induction l generalizing n with
 | nil => simp
 | cons a r ih =>
   cases n with
   | zero => simp
   | succ n =>
     rw [List.take_succ_cons, List.flatMap_cons, List.flatMap_cons, ← ih, List.take_append, Et.cs_len, List.take_of_length_le (by rw [Et.cs_len]; omega)]
     congr 2
     omega
theorem NmU (n : Nat) (cs : List PV) : slV false n cs = .fsl n cs := by unfold slV; rw [if_neg Zai]
theorem Nhh {st : St} {w1 v1 w2 v2 w3 v3 w4 v4 : PV} (h1 : Go.Pe.deep st 12 w1 = some v1) (h2 : Go.Pe.deep st 12 w2 = some v2) (h3 : Go.Pe.deep st 12 w3 = some v3) (h4 : Go.Pe.deep st 12 w4 = some v4) : NaW st [w1, w2, w3, w4] = some [v1, v2, v3, v4] := by
 have h1' : Go.Pe.deep st NbA w1 = some v1 := h1
 have h2' : Go.Pe.deep st NbA w2 = some v2 := h2
 have h3' : Go.Pe.deep st NbA w3 = some v3 := h3
 have h4' : Go.Pe.deep st NbA w4 = some v4 := h4
 unfold NaW
 simp only [mapO, h1', h2', h3', h4']
theorem Nd2 {cfg : Cfg} (hc : CfgG cfg) {fuel : Nat} (hf : 1 ≤ fuel) (x : Int) {n : Int} (hn : 1 ≤ n ∧ n ≤ 4611686018427387904) : ∃ p : Nat, (p : Int) < n ∧ Naj cfg (Nay cfg fuel) 11 [.i .i64 x, .i .i64 n] = some (.i .i64 (p : Int)) := by
 obtain ⟨q, rfl⟩ : ∃ q, fuel = q + 1 := ⟨fuel - 1, by omega⟩
 obtain ⟨r, st', h1, p, h2, h3⟩ := Nj0 (fuel := q) (st := { sto := .leaf, cnt := 1 }) (x := x) hc hn
 exact ⟨p, h2, Naq hc.n3 rfl (fun _ => rfl) ⟨r, st', h1, h3⟩⟩
theorem Nn1 (l : List Et) : Nhp (.i .i64 (l.length : Int)) [.i .i64 ((40 : Nat) : Int)] = some (.i .i64 ((l.take 40).length : Int)) := by
 unfold Nhp
 simp only [if_true, List.length_take]
 unfold Nhp
 congr 2
 split <;> omega
theorem NmX (l : List Et) : Nce 5 none (some (.i .i64 ((l.take 40).length : Int))) (.fsl l.length (l.flatMap Et.cs)) = some (.fsl (l.take 40).length ((l.take 40).flatMap Et.cs)) := by
 have h1 : (l.take 40).length ≤ l.length := by rw [List.length_take]; omega
 have h2 : (l.flatMap Et.cs).take ((l.take 40).length * 5) = (l.take 40).flatMap Et.cs := by
  rw [Nh9]
  congr 1
  rw [List.length_take]
  by_cases h : 40 ≤ l.length
  ·rw [Nat.min_eq_left h]
  ·rw [Nat.min_eq_right Zaa, List.take_of_length_le (Nat.le_refl _), List.take_of_length_le Zaa]
 have hE := NaA Et.cs_len l
 unfold Nce
 simp only [bound]
 rw [if_pos ⟨by omega, by omega⟩]
 simp only [Int.toNat_natCast, Nat.sub_zero, Nat.zero_mul, List.drop_zero]
 rw [if_pos hE, h2]
theorem NbW : Njo false (.b false) (.b false) = some (.b true) := rfl
theorem NbX : Njo false (.b true) (.b true) = some (.b true) := rfl
theorem NjX {cd : Cd} (hwf : cd.wf) {l : List Et} (hl : l.length ≤ reachBytes) {x0 x1 x2 : Int} : ∃ fuel, evP (Nfb cd hwf) fuel 8 [.agg (Cd.cs cd), .fsl l.length (l.flatMap Et.cs), .agg [.i .i64 x0, .i .i64 x1, .i .i64 x2]] = some (.b true) := by
 obtain ⟨F, hF, hFl⟩ := Nkm cd (l.length + 100)
 obtain ⟨ck, hck0⟩ : ∃ ck, Nna cd hwf = ck := ⟨_, rfl⟩
 have hok0 := NkU cd hwf
 rw [hck0] at hok0
 refine ⟨(F + 50) + 1, Njp rfl rfl (fun _ => rfl) (Nau (by kernel_rfl : (Nfb cd hwf).fn 8 = some m8) ?_)⟩
 delta m8 Qa Qr Qf Ql Qt Qs Qk Qm Qh
 have hc : CfgG (Nfb cd hwf) := NkQ
 obtain ⟨cfg, hcfg⟩ : ∃ cfg, Nfb cd hwf = cfg := ⟨_, rfl⟩
 have hxk : cfg.ext 27 = some (gCk cd hwf) := by rw [← hcfg]; rfl
 have hxa : cfg.ext 13 = some gTrue := by rw [← hcfg]; rfl
 rw [hcfg] at hc ⊢
 have hckr : ∀ callE, Naj cfg callE 27 [.agg (Cd.cs cd)] = some (.i .i64 ck) := fun callE => by
  rw [Na7 hxk]
  unfold gCk
  rw [if_pos rfl, hck0]
 obtain ⟨hwO, hwT, -, -⟩ := id hwf
 have aw : ∀ (st : St) (key : Nat), Nal (Naj cfg (Nay cfg (F + 50)) 13) false st key [] = some (.b true, st) := fun st key => Naw rfl (by rw [Na7 hxa]; rfl) rfl
 have awq : Naj cfg (Nay cfg (F + 50)) 13 [] = some (.b true) := by rw [Na7 hxa]; rfl
 obtain ⟨gb, hgb⟩ := Nia hc (F := F) (cd := cd) hwf hF
 have gG : ∀ (st : St) (key : Nat), Nal (Naj cfg (Nay cfg (F + 50)) 14) false st key [.agg [slV cd.zo cd.O.length (cd.O.flatMap Dc.cs), slV cd.zt cd.T.length (cd.T.flatMap Tx.cs)]] = some (.b gb, st) := fun st key => NaL (Na8 Nbl) hgb rfl rfl
 have hsn := Nj3 (z := false) (l := l) hc (hckr (Nay cfg (F + 49))) Zaa hwO hwT hl
 rw [NmU] at hsn
 have gS : ∀ (st : St) (key : Nat), Nal (Naj cfg (Nay cfg (F + 50)) 15) false st key [.agg [slV cd.zo cd.O.length (cd.O.flatMap Dc.cs), slV cd.zt cd.T.length (cd.T.flatMap Tx.cs)], .fsl l.length (l.flatMap Et.cs)] = some (.b (trV ck cd l), st) := fun st key => NaL (Na3 Nbl rfl) hsn rfl rfl
 rw [show Cd.cs cd = [slV cd.zo cd.O.length (cd.O.flatMap Dc.cs), slV cd.zt cd.T.length (cd.T.flatMap Tx.cs)] from rfl]
 have hE := NaA Et.cs_len l
 simp only [Nak]
 (try rw [Z0])
 (try simp (maxSteps := 2000000) (disch := first | omega | rfl | assumption) only [↓Xp, ↓Xt, Xq, Xc, Nae, Naa, reduceAdd, reduceMul, reduceLT, reduceEqDiff, reduceIte, Xa, Xn, unP, Nab, Nac, Nad, Xm, reduceLeDiff, Zan, Zao, Nag, Naf])
 refine NaB (fun x => ∃ (A : Nat) (B : Nat), A < x.st.cnt ∧ (A < B) ∧ B < x.st.cnt ∧ x.env.get 1 = .fsl l.length (l.flatMap Et.cs) ∧ x.env.get 3 = .ptr A 0 ∧ x.env.get 5 = .ptr B 0 ∧ x.st.get A = some (.cells [slV cd.zo cd.O.length (cd.O.flatMap Dc.cs), slV cd.zt cd.T.length (cd.T.flatMap Tx.cs)] false) ∧ x.st.get B = some (.cells [.i .i64 x0, .i .i64 x1, .i .i64 x2] false)) ?_ ?_
 ·exact ⟨1, 9, Zab, Zad, Zab, Zac, Zac, Zac, (by first | exact kA _ | with_reducible rfl | with_reducible assumption | (simp (disch := omega) only [Nax, Naz, St.get_putk]; first | done | with_reducible rfl | with_reducible assumption)), (by first | exact kB _ | with_reducible rfl | with_reducible assumption | (simp (disch := omega) only [Nax, Naz, St.get_putk]; first | done | with_reducible rfl | with_reducible assumption))⟩
 rintro ⟨env, ⟨sto, c⟩⟩ ⟨A, B, bA, oB, bB, g1, g3, g5, kA, kB⟩
 try simp only at bA bB g1 g3 g5
 replace kA : ∀ n', St.get ⟨sto, n'⟩ A = some (.cells [slV cd.zo cd.O.length (cd.O.flatMap Dc.cs), slV cd.zt cd.T.length (cd.T.flatMap Tx.cs)] false) := fun _ => kA
 replace kB : ∀ n', St.get ⟨sto, n'⟩ B = some (.cells [.i .i64 x0, .i .i64 x1, .i .i64 x2] false) := fun _ => kB
 cases gb with
 | true =>
   iterate 6
    (try rw [Z0])
    (try simp (maxSteps := 2000000) (disch := first | omega | rfl | assumption) only [↓Xp, ↓Xt, Xq, Xc, Nae, Naa, reduceAdd, reduceMul, reduceLT, reduceEqDiff, reduceIte, Xa, Xn, unP, Nab, Nac, Nad, Xm, reduceLeDiff, Zan, Zao, g1, g3, g5, kA, kB, gG, aw, Nag, Naf])
   exact ⟨nofun, _, rfl, by simp only [Nas, Env.get_put, if_true]⟩
 | false =>
   by_cases ht : trV ck cd l = true
   ·rw [ht] at gS
    have hck : ck = 0 := by
     unfold trV at ht
     simp only [Bool.and_eq_true, beq_iff_eq] at ht
     exact ht.1
    subst hck
    obtain ⟨l', hl'⟩ : ∃ l', l.take 40 = l' := ⟨_, rfl⟩
    have ht' : trV 0 cd l' = true := hl' ▸ Nkf ht 40
    have hlen : l'.length ≤ 40 := by rw [← hl', List.length_take]; omega
    have hok := NkG ht' (show cd.T.length ≤ 64 by have := (hok0 rfl).1.2; omega)
    have hmin := Nn1 l
    have hsl := NmX l
    rw [hl'] at hmin hsl
    have hE' := NaA Et.cs_len l'
    iterate 4
     (try rw [Z0])
     (try simp (maxSteps := 2000000) (disch := first | omega | rfl | assumption) only [↓Xp, ↓Xt, Xq, Xc, Nae, Naa, reduceAdd, reduceMul, reduceLT, reduceEqDiff, reduceIte, Xa, Xn, unP, Nab, Nac, Nad, Xm, reduceLeDiff, Zan, Zao, g1, g3, g5, kA, kB, gG, gS, aw, Nag, Naf, hmin, hsl])
    by_cases h0 : l'.length = 0
    ·have b0 : ((l'.length : Int) == Int.ofNat 0) = true := by rw [h0]; rfl
     iterate 4
      (try rw [Z0])
      (try simp (maxSteps := 2000000) (disch := first | omega | rfl | assumption) only [↓Xp, ↓Xt, Xq, Xc, Nae, Naa, reduceAdd, reduceMul, reduceLT, reduceEqDiff, reduceIte, Xa, Xn, unP, Nab, Nac, Nad, Xm, reduceLeDiff, Zan, Zao, g1, g3, g5, kA, kB, Nab, aw, b0])
     exact ⟨nofun, _, rfl, by simp only [Nas, Env.get_put, if_true]⟩
    have b0 : ((l'.length : Int) == Int.ofNat 0) = false := by
     rw [beq_eq_false_iff_ne]
     show ((l'.length : Int)) ≠ ((0 : Nat) : Int)
     omega
    obtain ⟨pi, hpi, ri⟩ := Nd2 hc (fuel := F + 50) Zaa x0 (n := (l'.length : Int)) ⟨by omega, by omega⟩
    obtain ⟨pj, hpj, rj⟩ := Nd2 hc (fuel := F + 50) Zaa x1 (n := (l'.length : Int)) ⟨by omega, by omega⟩
    obtain ⟨pk, hpk, rk⟩ := Nd2 hc (fuel := F + 50) Zaa x2 (n := (l'.length : Int)) ⟨by omega, by omega⟩
    have hbf : ∀ i j : Int, Naj cfg (Nay cfg (F + 50)) 18 [.agg [slV cd.zo cd.O.length (cd.O.flatMap Dc.cs), slV cd.zt cd.T.length (cd.T.flatMap Tx.cs)], .fsl l'.length (l'.flatMap Et.cs), .i .i64 i, .i .i64 j] = some (.b (Nde 0 cd l' i j)) := fun i j => by
     have := Ng8 (z := false) (l := l') (i := i) (j := j) (fuel := F + 43) hc.toCfgA (hckr (Nay cfg (F + 48))) Zaa Zaa hwO hwT (fun _ => by have := (hok0 rfl).1.2; omega)
     rw [NmU] at this
     exact this
    have hdb : ∀ (st : St) (i j : Int), NaW st [.agg [slV cd.zo cd.O.length (cd.O.flatMap Dc.cs), slV cd.zt cd.T.length (cd.T.flatMap Tx.cs)], .fsl l'.length (l'.flatMap Et.cs), .i .i64 i, .i .i64 j] = some [.agg [slV cd.zo cd.O.length (cd.O.flatMap Dc.cs), slV cd.zt cd.T.length (cd.T.flatMap Tx.cs)], .fsl l'.length (l'.flatMap Et.cs), .i .i64 i, .i .i64 j] := fun st i j => Nhh Nbl rfl rfl rfl
    have gB : ∀ (i j : Int) (st : St) (key : Nat), Nal (Naj cfg (Nay cfg (F + 50)) 18) false st key [.agg [slV cd.zo cd.O.length (cd.O.flatMap Dc.cs), slV cd.zt cd.T.length (cd.T.flatMap Tx.cs)], .fsl l'.length (l'.flatMap Et.cs), .i .i64 i, .i .i64 j] = some (.b (Nde 0 cd l' i j), st) := fun i j st key => NaL (hdb st i j) (hbf i j) rfl rfl
    iterate 2
     (try rw [Z0])
     (try simp (maxSteps := 2000000) (disch := first | omega | rfl | assumption) only [↓Xp, ↓Xt, Xq, Xc, Nae, Naa, reduceAdd, reduceMul, reduceLT, reduceEqDiff, reduceIte, Xa, Xn, unP, Nab, Nac, Nad, Xm, reduceLeDiff, Zan, Zao, g1, g3, g5, kA, kB, Nab, aw, b0])
    refine NaI (Nbr rfl) ri rfl rfl ?_
    (try rw [Z0])
    (try simp (maxSteps := 2000000) (disch := first | omega | rfl | assumption) only [↓Xp, ↓Xt, Xq, Xc, Nae, Naa, reduceAdd, reduceMul, reduceLT, reduceEqDiff, reduceIte, Xa, Xn, unP, Nab, Nac, Nad, Xm, reduceLeDiff, Zan, Zao, g1, g3, g5, kA, kB])
    refine NaI (Nbr rfl) rj rfl rfl ?_
    (try rw [Z0])
    (try simp (maxSteps := 2000000) (disch := first | omega | rfl | assumption) only [↓Xp, ↓Xt, Xq, Xc, Nae, Naa, reduceAdd, reduceMul, reduceLT, reduceEqDiff, reduceIte, Xa, Xn, unP, Nab, Nac, Nad, Xm, reduceLeDiff, Zan, Zao, g1, g3, g5, kA, kB])
    refine NaI (Nbr rfl) rk rfl rfl ?_
    iterate 2
     (try rw [Z0])
     (try simp (maxSteps := 2000000) (disch := first | omega | rfl | assumption) only [↓Xp, ↓Xt, Xq, Xc, Nae, Naa, reduceAdd, reduceMul, reduceLT, reduceEqDiff, reduceIte, Xa, Xn, unP, Nab, Nac, Nad, Xm, reduceLeDiff, Zan, Zao, g1, g3, g5, kA, kB, Nag, Naf])
    refine NaI (hdb _ _ _) (hbf _ _) rfl rfl ?_
    (try rw [Z0])
    (try simp (maxSteps := 2000000) (disch := first | omega | rfl | assumption) only [↓Xp, ↓Xt, Xq, Xc, Nae, Naa, reduceAdd, reduceMul, reduceLT, reduceEqDiff, reduceIte, Xa, Xn, unP, Nab, Nac, Nad, Xm, reduceLeDiff, Zan, Zao, g1, g3, g5, kA, kB, Nag, Naf])
    refine NaI (hdb _ _ _) (hbf _ _) rfl rfl ?_
    (try rw [Z0])
    (try simp (maxSteps := 2000000) (disch := first | omega | rfl | assumption) only [↓Xp, ↓Xt, Xq, Xc, Nae, Naa, reduceAdd, reduceMul, reduceLT, reduceEqDiff, reduceIte, Xa, Xn, unP, Nab, Nac, Nad, Xm, reduceLeDiff, Zan, Zao, g1, g3, g5, kA, kB, Nag, Naf])
    refine NaI (hdb _ _ _) (hbf _ _) rfl rfl ?_
    refine NaB (fun x => x.env.get 1 = .fsl l'.length (l'.flatMap Et.cs) ∧ x.env.get 3 = .ptr A 0 ∧ x.env.get 7 = .i .i64 (pi : Int) ∧ x.env.get 8 = .i .i64 (pj : Int) ∧ x.env.get 10 = .b (Nde 0 cd l' pi pj) ∧ x.env.get 11 = .b (Nde 0 cd l' pj pk) ∧ x.env.get 12 = .b (Nde 0 cd l' pi pk) ∧ x.st.get A = some (.cells [slV cd.zo cd.O.length (cd.O.flatMap Dc.cs), slV cd.zt cd.T.length (cd.T.flatMap Tx.cs)] false)) ?_ ?_
    ·exact ⟨(by first | with_reducible rfl | with_reducible assumption | (simp [Env.get_put, g1, g3, g5] <;> omega)), (by first | with_reducible rfl | with_reducible assumption | (simp [Env.get_put, g1, g3, g5] <;> omega)), (by first | with_reducible rfl | with_reducible assumption | (simp [Env.get_put, g1, g3, g5] <;> omega)), (by first | with_reducible rfl | with_reducible assumption | (simp [Env.get_put, g1, g3, g5] <;> omega)), (by first | with_reducible rfl | with_reducible assumption | (simp [Env.get_put, g1, g3, g5] <;> omega)), (by first | with_reducible rfl | with_reducible assumption | (simp [Env.get_put, g1, g3, g5] <;> omega)), (by first | with_reducible rfl | with_reducible assumption | (simp [Env.get_put, g1, g3, g5] <;> omega)), (by first | exact kA _ | with_reducible rfl | with_reducible assumption | (simp (disch := omega) only [Nax, Naz, St.get_putk, kA, kB]; first | done | with_reducible rfl | with_reducible assumption))⟩
    clear bA bB g1 g3 g5 kA kB
    rintro ⟨env, ⟨sto, c⟩⟩ ⟨g1, g3, g7, g8, g10, g11, g12, kA⟩
    try simp only at g1 g3 g7 g8 g10 g11 g12
    replace kA : ∀ n', St.get ⟨sto, n'⟩ A = some (.cells [slV cd.zo cd.O.length (cd.O.flatMap Dc.cs), slV cd.zt cd.T.length (cd.T.flatMap Tx.cs)] false) := fun _ => kA
    have gii := gB pi pi
    rw [Ni5] at gii
    have hli : pi < l'.length := by omega
    have hlj : pj < l'.length := by omega
    have hTi := fun st => NeS (st := st) hli
    have hTj := fun st => NeS (st := st) hlj
    have ei : l'[pi].T = thL l' pi := by unfold thL; rw [List.getD_eq_getElem?_getD, List.getElem?_eq_getElem hli]; rfl
    have ej : l'[pj].T = thL l' pj := by unfold thL; rw [List.getD_eq_getElem?_getD, List.getElem?_eq_getElem hlj]; rfl
    rw [ei] at hTi
    rw [ej] at hTj
    have hthr := fun h => Ng7 hok ht' Zaa (i := (pi : Int)) (j := (pj : Int)) Zaa Zaa h
    simp only [Int.toNat_natCast] at hthr
    cases hth : decide (thL l' pi = thL l' pj) with
    | true =>
      have hte : thL l' pi = thL l' pj := by simpa using hth
      have bT : (thL l' pi != thL l' pj) = false := by rw [hte]; simp
      cases hij : Nde 0 cd l' pi pj with
      | false =>
        rw [hij] at g10 hthr
        have hlt : ¬ (pi : Int) < (pj : Int) := by have := hthr hte; simpa using this.symm
        iterate 3
         (try rw [Z0])
         (try simp (maxSteps := 2000000) (disch := first | omega | rfl | assumption) only [↓Xp, ↓Xt, Xq, Xc, Nae, Naa, reduceAdd, reduceMul, reduceLT, reduceEqDiff, reduceIte, Xa, Xn, unP, Nab, Nac, Nad, Xm, reduceLeDiff, Zan, Zao, g1, g3, g7, g8, g10, g11, g12, kA, gii, Nag, Naf, hTi, hTj, hE', bT])
        iterate 3
         (try rw [Z0])
         (try simp (maxSteps := 2000000) (disch := first | omega | rfl | assumption) only [↓Xp, ↓Xt, Xq, Xc, Nae, Naa, reduceAdd, reduceMul, reduceLT, reduceEqDiff, reduceIte, Xa, Xn, unP, Nab, Nac, Nad, Xm, reduceLeDiff, Zan, Zao, g1, g3, g7, g8, g10, g11, g12, kA, NbW, NbX, Nag, Naf])
        refine NaI (show NaW _ [] = some [] from rfl) awq rfl rfl ?_
        iterate 3
         (try rw [Z0])
         (try simp (maxSteps := 2000000) (disch := first | omega | rfl | assumption) only [↓Xp, ↓Xt, Xq, Xc, Nae, Naa, reduceAdd, reduceMul, reduceLT, reduceEqDiff, reduceIte, Xa, Xn, unP, Nab, Nac, Nad, Xm, reduceLeDiff, Zan, Zao, g1, g3, g7, g8, g10, g11, g12, kA])
        exact ⟨nofun, _, rfl, by simp only [Nas, Env.get_put, if_true]⟩
      | true =>
        rw [hij] at g10 hthr
        obtain ⟨hji, hltij⟩ := Ngw hij
        have gji := gB pj pi
        rw [hji] at gji
        cases hjk : Nde 0 cd l' pj pk with
        | false =>
          rw [hjk] at g11
          iterate 3
           (try rw [Z0])
           (try simp (maxSteps := 2000000) (disch := first | omega | rfl | assumption) only [↓Xp, ↓Xt, Xq, Xc, Nae, Naa, reduceAdd, reduceMul, reduceLT, reduceEqDiff, reduceIte, Xa, Xn, unP, Nab, Nac, Nad, Xm, reduceLeDiff, Zan, Zao, g1, g3, g7, g8, g10, g11, g12, kA, gii, gji, Nag, Naf, hTi, hTj, hE', bT])
          iterate 3
           (try rw [Z0])
           (try simp (maxSteps := 2000000) (disch := first | omega | rfl | assumption) only [↓Xp, ↓Xt, Xq, Xc, Nae, Naa, reduceAdd, reduceMul, reduceLT, reduceEqDiff, reduceIte, Xa, Xn, unP, Nab, Nac, Nad, Xm, reduceLeDiff, Zan, Zao, g1, g3, g7, g8, g10, g11, g12, kA, NbW, NbX, Nag, Naf])
          refine NaI (show NaW _ [] = some [] from rfl) awq rfl rfl ?_
          iterate 3
           (try rw [Z0])
           (try simp (maxSteps := 2000000) (disch := first | omega | rfl | assumption) only [↓Xp, ↓Xt, Xq, Xc, Nae, Naa, reduceAdd, reduceMul, reduceLT, reduceEqDiff, reduceIte, Xa, Xn, unP, Nab, Nac, Nad, Xm, reduceLeDiff, Zan, Zao, g1, g3, g7, g8, g10, g11, g12, kA])
          exact ⟨nofun, _, rfl, by simp only [Nas, Env.get_put, if_true]⟩
        | true =>
          have hik := Ne8 hok ht' Zaa hij hjk
          rw [hjk] at g11
          rw [hik] at g12
          iterate 3
           (try rw [Z0])
           (try simp (maxSteps := 2000000) (disch := first | omega | rfl | assumption) only [↓Xp, ↓Xt, Xq, Xc, Nae, Naa, reduceAdd, reduceMul, reduceLT, reduceEqDiff, reduceIte, Xa, Xn, unP, Nab, Nac, Nad, Xm, reduceLeDiff, Zan, Zao, g1, g3, g7, g8, g10, g11, g12, kA, gii, gji, Nag, Naf, hTi, hTj, hE', bT])
          iterate 3
           (try rw [Z0])
           (try simp (maxSteps := 2000000) (disch := first | omega | rfl | assumption) only [↓Xp, ↓Xt, Xq, Xc, Nae, Naa, reduceAdd, reduceMul, reduceLT, reduceEqDiff, reduceIte, Xa, Xn, unP, Nab, Nac, Nad, Xm, reduceLeDiff, Zan, Zao, g1, g3, g7, g8, g10, g11, g12, kA, NbW, NbX, Nag, Naf])
          refine NaI (show NaW _ [] = some [] from rfl) awq rfl rfl ?_
          iterate 3
           (try rw [Z0])
           (try simp (maxSteps := 2000000) (disch := first | omega | rfl | assumption) only [↓Xp, ↓Xt, Xq, Xc, Nae, Naa, reduceAdd, reduceMul, reduceLT, reduceEqDiff, reduceIte, Xa, Xn, unP, Nab, Nac, Nad, Xm, reduceLeDiff, Zan, Zao, g1, g3, g7, g8, g10, g11, g12, kA])
          exact ⟨nofun, _, rfl, by simp only [Nas, Env.get_put, if_true]⟩
    | false =>
      have hte : ¬ thL l' pi = thL l' pj := by simpa using hth
      have bT : (thL l' pi != thL l' pj) = true := by simpa using hte
      cases hij : Nde 0 cd l' pi pj with
      | false =>
        rw [hij] at g10
        iterate 3
         (try rw [Z0])
         (try simp (maxSteps := 2000000) (disch := first | omega | rfl | assumption) only [↓Xp, ↓Xt, Xq, Xc, Nae, Naa, reduceAdd, reduceMul, reduceLT, reduceEqDiff, reduceIte, Xa, Xn, unP, Nab, Nac, Nad, Xm, reduceLeDiff, Zan, Zao, g1, g3, g7, g8, g10, g11, g12, kA, gii, Nag, Naf, hTi, hTj, hE', bT])
        refine NaI (show NaW _ [] = some [] from rfl) awq rfl rfl ?_
        iterate 3
         (try rw [Z0])
         (try simp (maxSteps := 2000000) (disch := first | omega | rfl | assumption) only [↓Xp, ↓Xt, Xq, Xc, Nae, Naa, reduceAdd, reduceMul, reduceLT, reduceEqDiff, reduceIte, Xa, Xn, unP, Nab, Nac, Nad, Xm, reduceLeDiff, Zan, Zao, g1, g3, g7, g8, g10, g11, g12, kA])
        exact ⟨nofun, _, rfl, by simp only [Nas, Env.get_put, if_true]⟩
      | true =>
        rw [hij] at g10
        obtain ⟨hji, hltij⟩ := Ngw hij
        have gji := gB pj pi
        rw [hji] at gji
        cases hjk : Nde 0 cd l' pj pk with
        | false =>
          rw [hjk] at g11
          iterate 3
           (try rw [Z0])
           (try simp (maxSteps := 2000000) (disch := first | omega | rfl | assumption) only [↓Xp, ↓Xt, Xq, Xc, Nae, Naa, reduceAdd, reduceMul, reduceLT, reduceEqDiff, reduceIte, Xa, Xn, unP, Nab, Nac, Nad, Xm, reduceLeDiff, Zan, Zao, g1, g3, g7, g8, g10, g11, g12, kA, gii, gji, Nag, Naf, hTi, hTj, hE', bT])
          refine NaI (show NaW _ [] = some [] from rfl) awq rfl rfl ?_
          iterate 3
           (try rw [Z0])
           (try simp (maxSteps := 2000000) (disch := first | omega | rfl | assumption) only [↓Xp, ↓Xt, Xq, Xc, Nae, Naa, reduceAdd, reduceMul, reduceLT, reduceEqDiff, reduceIte, Xa, Xn, unP, Nab, Nac, Nad, Xm, reduceLeDiff, Zan, Zao, g1, g3, g7, g8, g10, g11, g12, kA])
          exact ⟨nofun, _, rfl, by simp only [Nas, Env.get_put, if_true]⟩
        | true =>
          have hik := Ne8 hok ht' Zaa hij hjk
          rw [hjk] at g11
          rw [hik] at g12
          iterate 3
           (try rw [Z0])
           (try simp (maxSteps := 2000000) (disch := first | omega | rfl | assumption) only [↓Xp, ↓Xt, Xq, Xc, Nae, Naa, reduceAdd, reduceMul, reduceLT, reduceEqDiff, reduceIte, Xa, Xn, unP, Nab, Nac, Nad, Xm, reduceLeDiff, Zan, Zao, g1, g3, g7, g8, g10, g11, g12, kA, gii, gji, Nag, Naf, hTi, hTj, hE', bT])
          refine NaI (show NaW _ [] = some [] from rfl) awq rfl rfl ?_
          iterate 3
           (try rw [Z0])
           (try simp (maxSteps := 2000000) (disch := first | omega | rfl | assumption) only [↓Xp, ↓Xt, Xq, Xc, Nae, Naa, reduceAdd, reduceMul, reduceLT, reduceEqDiff, reduceIte, Xa, Xn, unP, Nab, Nac, Nad, Xm, reduceLeDiff, Zan, Zao, g1, g3, g7, g8, g10, g11, g12, kA])
          exact ⟨nofun, _, rfl, by simp only [Nas, Env.get_put, if_true]⟩
   ·have hf : trV ck cd l = false := by simpa using ht
    rw [hf] at gS
    iterate 6
     (try rw [Z0])
     (try simp (maxSteps := 2000000) (disch := first | omega | rfl | assumption) only [↓Xp, ↓Xt, Xq, Xc, Nae, Naa, reduceAdd, reduceMul, reduceLT, reduceEqDiff, reduceIte, Xa, Xn, unP, Nab, Nac, Nad, Xm, reduceLeDiff, Zan, Zao, g1, g3, g5, kA, kB, gG, gS, aw, Nag, Naf])
    exact ⟨nofun, _, rfl, by simp only [Nas, Env.get_put, if_true]⟩
theorem NiB (f : Nat) (z0 : List PV) (i0 : (NhN f).Is z0) (n1 : Nat) (z1 : List PV) (l1 : z1.length = n1 * etSh.width) (b1 : n1 ≤ reachBytes) (i1 : ∀ j, j < n1 → etSh.Is ((z1.drop (j * etSh.width)).take etSh.width)) (z2 : List PV) (i2 : (Sh.cons (.i .i64) (.cons (.i .i64) (.cons (.i .i64) .nil))).Is z2) : ∃ cd hwf fuel, evP (Nfb cd hwf) fuel 8 [.agg z0, .fsl n1 z1, .agg z2] = some (.b true) := by
 obtain ⟨cd, rfl, hwf⟩ := NnT f z0 i0
 obtain ⟨l, hl, hn, hw⟩ := Nga (f := Et.cs) (Q := Et.wf) (w := 5) n1 z1 l1 (fun j hj => NnV _ (i1 j hj))
 obtain ⟨h0, h1, h2, h3⟩ := i2
 simp only [Sh.width] at h0 h1 h2 h3
 obtain ⟨x0, e0, -⟩ := NbJ h0
 obtain ⟨x1, e1, -⟩ := NbJ h1
 obtain ⟨x2, e2, -⟩ := NbJ h2
 simp only [Sh.Is] at h3
 rw [h3] at e2
 rw [e0, e1, e2, hn, ← hl]
 obtain ⟨fuel, hev⟩ := NjX hwf (l := l) Zaa (x0 := x0) (x1 := x1) (x2 := x2)
 exact ⟨cd, hwf, fuel, hev⟩
end Go.Pe
