/-
 Races: at, ahead, trace, Before, walked. No condition.
-/
import Derived.Test.YtgnmmphmkoaicaaGreatDoorZRacE
set_option linter.unusedVariables false
set_option linter.unusedSimpArgs false
set_option maxHeartbeats 4000000
open Nat (reduceAdd reduceMul reduceLT reduceEqDiff reduceLeDiff)
namespace Go.Pe
open Go Go.Am Go.RowKit

structure CfgA (cfg : Cfg) : Prop extends CfgR cfg where
 a1 : cfg.ext 23 = none
 a2 : cfg.ext 18 = none
 a3 : cfg.ext 12 = none
theorem Nma {st0 : St} {a : List Int} {i : Nat} (h : i < a.length) : Na6 st0 1 (.fptr ((Na1 a).drop (i * 1))) = some [.i .i64 (gi a i)] := by
 show cut? _ 0 1 = _
 unfold cut?
 rw [if_pos (by rw [List.length_drop, NaR]; omega), List.drop_zero, Nat.mul_one, NdO h]
 have : i < (Na1 a).length := by rw [NaR]; exact h
 rw [List.drop_eq_getElem_cons this]
 simp [Na1]
theorem Nnr {cfg : Cfg} (hc : CfgA cfg) {fuel : Nat} {st : St} {a : List Int} {t : Int} (h0 : 0 ≤ t) (hl : a.length < 1000) :
 ∃ r st', Nay cfg (fuel + 1) 44 [clP a, .i .i64 t] st = some (r, st') ∧ r = .i .i64 (aT a t) := by
 refine Nau (hc.fn _ _ (by kernel_rfl) : cfg.fn 44 = some m44) ?_
 delta m44 Qa Qr Ql Qt Qk Qm clP
 have hil := NaR a
 obtain ⟨R, hR⟩ : ∃ R, aT a t = R := ⟨_, rfl⟩
 rw [hR]
 unfold aT at hR
 rw [if_pos h0] at hR
 simp only [Nak]
 by_cases h : t < (a.length : Int)
 ·have hc2 := fun st => Nma (st0 := st) (a := a) (i := t.toNat) Zaa
  have hc3 := fun st => (Nat.mul_one t.toNat ▸ hc2 st : Na6 st 1 (.fptr ((Na1 a).drop t.toNat)) = _)
  iterate 4
   (try rw [Z0])
   (try simp (maxSteps := 2000000) (disch := first | omega | rfl | assumption) only [↓Xp, ↓Xt, Xq, Xc, Nae, Naa, reduceAdd, reduceMul, reduceLT, reduceEqDiff, reduceIte, Xa, Xn, unP, Nab, Nac, Nad, Xm, reduceLeDiff, Zan, Zao, Nab, hil, hc3])
  exact ⟨nofun, _, rfl, by simp only [Nas, Env.get_put, if_true]; rw [hR]⟩
 ·rw [NcO Zaa] at hR
  subst hR
  iterate 4
   (try rw [Z0])
   (try simp (maxSteps := 2000000) (disch := first | omega | rfl | assumption) only [↓Xp, ↓Xt, Xq, Xc, Nae, Naa, reduceAdd, reduceMul, reduceLT, reduceEqDiff, reduceIte, Xa, Xn, unP, Nab, Nac, Nad, Xm, reduceLeDiff, Zan, Zao, Nab, hil])
  exact ⟨nofun, _, rfl, by simp only [Nas, Env.get_put, if_true]; rfl⟩
theorem Nl2 {cfg : Cfg} (hc : CfgA cfg) {fuel : Nat} {a : List Int} {t : Int} (h0 : 0 ≤ t) (hl : a.length < 1000) : Naj cfg (Nay cfg (fuel + 1)) 44 [clP a, .i .i64 t] = some (.i .i64 (aT a t)) :=
 Naq hc.r6 rfl (fun _ => rfl) (Nnr hc h0 hl)
theorem Ni2 {cfg : Cfg} (hc : CfgA cfg) {fuel : Nat} {st : St} {a b : List Int} {t : Int} (h0 : 0 ≤ t) (hl : a.length < 1000) (hl2 : b.length < 1000) :
 ∃ r st', Nay cfg (fuel + 2) 25 [clP a, .i .i64 t, clP b] st = some (r, st') ∧ r = .b (decide (aT a t ≤ aT b t)) := by
 refine Nau (hc.fn _ _ (by kernel_rfl) : cfg.fn 25 = some m25) ?_
 delta m25 Qa Ql Qt Qm
 have g1 : ∀ (st : St) (key : Nat) (a : List Int), a.length < 1000 → Nal (Naj cfg (Nay cfg (fuel + 1)) 44) false st key [clP a, .i .i64 t] = some (.i .i64 (aT a t), st) := fun st key a hl => Naw rfl (Nl2 hc h0 hl) rfl
 have ga := fun st key => g1 st key a hl
 have gb := fun st key => g1 st key b hl2
 simp only [Nak]
 iterate 2
  (try rw [Z0])
  (try simp (maxSteps := 2000000) (disch := first | omega | rfl | assumption) only [↓Xp, ↓Xt, Xq, Xc, Nae, Naa, reduceAdd, reduceMul, reduceLT, reduceEqDiff, reduceIte, Xa, Xn, unP, Nab, Nac, Nad, Xm, reduceLeDiff, Zan, Zao, ga, gb])
 exact ⟨nofun, _, rfl, by simp only [Nas, Env.get_put, if_true]⟩
theorem NhF {cfg : Cfg} (hc : CfgA cfg) {fuel : Nat} {a b : List Int} {t : Int} (h0 : 0 ≤ t) (hl : a.length < 1000) (hl2 : b.length < 1000) : Naj cfg (Nay cfg (fuel + 2)) 25 [clP a, .i .i64 t, clP b] = some (.b (decide (aT a t ≤ aT b t))) :=
 Naq hc.r7 rfl (fun _ => rfl) (Ni2 hc h0 hl hl2)
def etB (cd : Cd) (e : Et) : Bool := decide (0 ≤ e.T) && decide (e.T < cd.T.length) && decide (0 ≤ e.J) && decide (e.J < cd.O.length)
def trV (ck : Int) (cd : Cd) (l : List Et) : Bool := (ck == 0) && l.all (etB cd)
theorem Nbl {st : St} {cd : Cd} : Go.Pe.deep st 12 (.agg (Cd.cs cd)) = some (.agg (Cd.cs cd)) := by
 unfold Cd.cs slV
 split <;> split <;> rfl
theorem NfF {cd : Cd} : NaC [.agg (Cd.cs cd)] = ([.agg (Cd.cs cd)], { sto := .leaf, cnt := 1 }) := by
 unfold Cd.cs slV
 split <;> split <;> rfl
theorem NcU {cd : Cd} {v : PV} : NaC [.agg (Cd.cs cd), v] = ([.agg (Cd.cs cd), v], { sto := .leaf, cnt := 1 }) := rfl
theorem NgB {st : St} {z : Bool} {n : Nat} {cs : List PV} : Go.Pe.deep st 12 (slV z n cs) = some (slV z n cs) := Nj6 st 11 z n cs
theorem Nkg {cfg : Cfg} (hc : CfgA cfg) {fuel : Nat} {st : St} {cd : Cd} {z : Bool} {l : List Et} {ck : Int} (hck : Naj cfg (Nay cfg fuel) 27 [.agg (Cd.cs cd)] = some (.i .i64 ck)) (hl : l.length ≤ fuel) (hO : cd.O.length ≤ reachBytes) (hT : cd.T.length ≤ reachBytes) (hr : l.length ≤ reachBytes) :
 ∃ r st', Nay cfg (fuel + 1) 23 [.agg (Cd.cs cd), slV z l.length (l.flatMap Et.cs)] st = some (r, st') ∧ r = .b (trV ck cd l) := by
 refine Nau (hc.fn _ _ (by kernel_rfl) : cfg.fn 23 = some m23) ?_
 have gc : ∀ (st : St) (key : Nat), Nal (Naj cfg (Nay cfg fuel) 27) false st key [.agg [slV cd.zo cd.O.length (cd.O.flatMap Dc.cs), slV cd.zt cd.T.length (cd.T.flatMap Tx.cs)]] = some (.i .i64 ck, st) := fun st key => NaL (Na8 Nbl) hck rfl rfl
 delta m23 Qr Qg Ql Qt Qn Qs Qk Qm Qh Cd.cs
 have hrb : reachBytes < 4611686018427387904 := by decide
 have hlv := Nav z l.length (l.flatMap Et.cs)
 have lD := Nav cd.zo cd.O.length (cd.O.flatMap Dc.cs)
 have lT := Nav cd.zt cd.T.length (cd.T.flatMap Tx.cs)
 have hE := NaA Et.cs_len l
 obtain ⟨R, hR⟩ : ∃ R, trV ck cd l = R := ⟨_, rfl⟩
 rw [hR]
 unfold trV at hR
 obtain ⟨sto0, c0⟩ := st
 simp only [Nak]
 by_cases h0 : ck = 0
 ·have b0 : (ck != Int.ofNat 0) = false := by rw [h0]; rfl
  rw [h0] at hR
  simp only [beq_self_eq_true, Bool.true_and] at hR
  iterate 3
   (try rw [Z0])
   (try simp (maxSteps := 2000000) (disch := first | omega | rfl | assumption) only [↓Xp, ↓Xt, Xq, Xc, Nae, Naa, reduceAdd, reduceMul, reduceLT, reduceEqDiff, reduceIte, Xa, Xn, unP, Nab, Nac, Nad, Xm, reduceLeDiff, Zan, Zao, Nag, Naf, gc, b0])
  refine NaB (fun x => ∃ (B : Nat), B < x.st.cnt ∧ x.env.get 1 = slV z l.length (l.flatMap Et.cs) ∧ x.env.get 2 = .ptr B 0 ∧ x.st.get B = some (.cells [slV cd.zo cd.O.length (cd.O.flatMap Dc.cs), slV cd.zt cd.T.length (cd.T.flatMap Tx.cs)] false)) ?_ ?_
  ·exact ⟨c0, Zab, Zac, Zac, (by first | exact kB _ | with_reducible rfl | with_reducible assumption | (simp (disch := omega) only [Nax, Naz, St.get_putk]; first | done | with_reducible rfl | with_reducible assumption))⟩
  rintro ⟨env, ⟨sto, c⟩⟩ ⟨B, bB, g1, g2, kB⟩
  try simp only at bB g1 g2
  replace kB : ∀ n', St.get ⟨sto, n'⟩ B = some (.cells [slV cd.zo cd.O.length (cd.O.flatMap Dc.cs), slV cd.zt cd.T.length (cd.T.flatMap Tx.cs)] false) := fun _ => kB
  iterate 2
   (try rw [Z0])
   (try simp (maxSteps := 2000000) (disch := first | omega | rfl | assumption) only [↓Xp, ↓Xt, Xq, Xc, Nae, Naa, reduceAdd, reduceMul, reduceLT, reduceEqDiff, reduceIte, Xa, Xn, unP, Nab, Nac, Nad, Xm, reduceLeDiff, Zan, Zao, g1, g2, kB, hlv])
  refine Z9 (k := l.length - 0) (fun m x => ∃ (i : Nat), m = l.length - i ∧ x.env.get 2 = .ptr B 0 ∧ x.env.get 10 = slV z l.length (l.flatMap Et.cs) ∧ x.env.get 11 = .i .i64 (l.length : Int) ∧ x.env.get 12 = .i .i64 (i : Int) ∧ x.st.get B = some (.cells [slV cd.zo cd.O.length (cd.O.flatMap Dc.cs), slV cd.zt cd.T.length (cd.T.flatMap Tx.cs)] false) ∧ B < x.st.cnt ∧ (i ≤ l.length) ∧ ((l.drop i).all (etB cd) = R)) ?_ ?_ Zaa
  ·clear bB g1 g2 kB
   rintro m ⟨env, ⟨sto, c⟩⟩ ⟨i, rfl, g2, g10, g11, g12, kB, bB, hi, hob⟩
   try simp only at g2 g10 g11 g12 bB
   replace kB : ∀ n', St.get ⟨sto, n'⟩ B = some (.cells [slV cd.zo cd.O.length (cd.O.flatMap Dc.cs), slV cd.zt cd.T.length (cd.T.flatMap Tx.cs)] false) := fun _ => kB
   by_cases hil : i < l.length
   ·rw [Nar hil] at g10
    obtain ⟨e, he⟩ : ∃ e, l[i] = e := ⟨_, rfl⟩
    have hld := fun st => Ngb (st := st) hil
    simp only [he] at hld
    rw [List.drop_eq_getElem_cons hil, he, List.all_cons] at hob
    by_cases c1 : e.T < 0
    ·have hb : etB cd e = false := by unfold etB; simp; omega
     rw [hb] at hob
     iterate 9
      (try rw [Z0])
      (try simp (maxSteps := 2000000) (disch := first | omega | rfl | assumption) only [↓Xp, ↓Xt, Xq, Xc, Nae, Naa, reduceAdd, reduceMul, reduceLT, reduceEqDiff, reduceIte, Xa, Xn, unP, Nab, Nac, Nad, Xm, reduceLeDiff, Zan, Zao, g2, g10, g11, g12, kB, hld, hE, lD, lT])
     exact ⟨nofun, _, rfl, by simp only [Nas, Env.get_put, if_true]; rw [← hob]; rfl⟩
    by_cases c2 : (cd.T.length : Int) ≤ e.T
    ·have hb : etB cd e = false := by unfold etB; simp; omega
     rw [hb] at hob
     iterate 9
      (try rw [Z0])
      (try simp (maxSteps := 2000000) (disch := first | omega | rfl | assumption) only [↓Xp, ↓Xt, Xq, Xc, Nae, Naa, reduceAdd, reduceMul, reduceLT, reduceEqDiff, reduceIte, Xa, Xn, unP, Nab, Nac, Nad, Xm, reduceLeDiff, Zan, Zao, g2, g10, g11, g12, kB, hld, hE, lD, lT])
     exact ⟨nofun, _, rfl, by simp only [Nas, Env.get_put, if_true]; rw [← hob]; rfl⟩
    by_cases c3 : e.J < 0
    ·have hb : etB cd e = false := by unfold etB; simp; omega
     rw [hb] at hob
     iterate 9
      (try rw [Z0])
      (try simp (maxSteps := 2000000) (disch := first | omega | rfl | assumption) only [↓Xp, ↓Xt, Xq, Xc, Nae, Naa, reduceAdd, reduceMul, reduceLT, reduceEqDiff, reduceIte, Xa, Xn, unP, Nab, Nac, Nad, Xm, reduceLeDiff, Zan, Zao, g2, g10, g11, g12, kB, hld, hE, lD, lT])
     exact ⟨nofun, _, rfl, by simp only [Nas, Env.get_put, if_true]; rw [← hob]; rfl⟩
    by_cases c4 : (cd.O.length : Int) ≤ e.J
    ·have hb : etB cd e = false := by unfold etB; simp; omega
     rw [hb] at hob
     iterate 9
      (try rw [Z0])
      (try simp (maxSteps := 2000000) (disch := first | omega | rfl | assumption) only [↓Xp, ↓Xt, Xq, Xc, Nae, Naa, reduceAdd, reduceMul, reduceLT, reduceEqDiff, reduceIte, Xa, Xn, unP, Nab, Nac, Nad, Xm, reduceLeDiff, Zan, Zao, g2, g10, g11, g12, kB, hld, hE, lD, lT])
     exact ⟨nofun, _, rfl, by simp only [Nas, Env.get_put, if_true]; rw [← hob]; rfl⟩
    have hb : etB cd e = true := by unfold etB; simp; omega
    rw [hb, Bool.true_and] at hob
    iterate 9
     (try rw [Z0])
     (try simp (maxSteps := 2000000) (disch := first | omega | rfl | assumption) only [↓Xp, ↓Xt, Xq, Xc, Nae, Naa, reduceAdd, reduceMul, reduceLT, reduceEqDiff, reduceIte, Xa, Xn, unP, Nab, Nac, Nad, Xm, reduceLeDiff, Zan, Zao, g2, g10, g11, g12, kB, hld, hE, lD, lT])
    exact ⟨l.length - (i + 1), by omega, i + 1, rfl, (Nar hil).symm, rfl, by omega, hob⟩
   ·have h0 : l.drop i = [] := List.drop_of_length_le Zaa
    rw [h0] at hob
    iterate 5
     (try rw [Z0])
     (try simp (maxSteps := 2000000) (disch := first | omega | rfl | assumption) only [↓Xp, ↓Xt, Xq, Xc, Nae, Naa, reduceAdd, reduceMul, reduceLT, reduceEqDiff, reduceIte, Xa, Xn, unP, Nab, Nac, Nad, Xm, reduceLeDiff, Zan, Zao, g2, g10, g11, g12, kB])
    exact ⟨nofun, _, rfl, by simp only [Nas, Env.get_put, if_true]; rw [← hob]; rfl⟩
  ·skip
   exact ⟨0, rfl, (by first | with_reducible rfl | with_reducible assumption | (simp [Env.get_put, g1, g2] <;> omega)), (by simp [Env.get_put, g1]), Zah, Zah, (by first | exact kB _ | with_reducible rfl | with_reducible assumption | (simp (disch := omega) only [Nax, Naz, St.get_putk, kB]; first | done | with_reducible rfl | with_reducible assumption)), Zab, Zad, (by rw [List.drop_zero]; exact hR)⟩
 ·have b0 : (ck != Int.ofNat 0) = true := by simpa using h0
  have : (ck == 0) = false := by simpa using h0
  rw [this] at hR
  iterate 4
   (try rw [Z0])
   (try simp (maxSteps := 2000000) (disch := first | omega | rfl | assumption) only [↓Xp, ↓Xt, Xq, Xc, Nae, Naa, reduceAdd, reduceMul, reduceLT, reduceEqDiff, reduceIte, Xa, Xn, unP, Nab, Nac, Nad, Xm, reduceLeDiff, Zan, Zao, Nag, Naf, gc, b0])
  exact ⟨nofun, _, rfl, by simp only [Nas, Env.get_put, if_true]; rw [← hR]; rfl⟩
theorem NiU {cfg : Cfg} (hc : CfgA cfg) {fuel : Nat} {cd : Cd} {z : Bool} {l : List Et} {ck : Int} (hck : Naj cfg (Nay cfg fuel) 27 [.agg (Cd.cs cd)] = some (.i .i64 ck)) (hl : l.length ≤ fuel) (hO : cd.O.length ≤ reachBytes) (hT : cd.T.length ≤ reachBytes) (hr : l.length ≤ reachBytes) :
 Naj cfg (Nay cfg (fuel + 1)) 23 [.agg (Cd.cs cd), slV z l.length (l.flatMap Et.cs)] = some (.b (trV ck cd l)) :=
 Naq hc.a1 NcU (fun _ => rfl) (Nkg hc hck hl hO hT hr)
theorem NhM {g : List PV → Option PV} {st : St} {key sz n : Nat} {ps ps' cs : List PV} (hd : NaW st ps = some ps') (hk : keysL st ps = []) (hg : g ps' = some (.osl sz n cs)) : Nal g false st key ps = some (.rsl key sz 0 n, st.put key (some (.cells cs false))) := by
 unfold Nal
 simp only [hd, hg, hk, NaH, ite_self, NaE]
theorem Nih {st : St} {cd : Cd} {z : Bool} {n : Nat} {cs : List PV} : keysL st [.agg (Cd.cs cd), slV z n cs] = [] := by
 unfold Cd.cs slV
 split <;> split <;> split <;> rfl
theorem Nhc {cfg : Cfg} (hc : CfgA cfg) {fuel : Nat} {cd : Cd} {z : Bool} {l : List Et} (hv : ∀ e, e ∈ l → EtOK cd e) (hl : l.length < 1000) (hfu : l.length + 6 ≤ fuel) :
 Naj cfg (Nay cfg (fuel + 5)) 24 [.agg (Cd.cs cd), slV z l.length (l.flatMap Et.cs)] = some (NkX (Nbn cd l l.length)) := by
 obtain ⟨r, st', h1, h2⟩ := NhR (st := { sto := .leaf, cnt := 1 }) hc.toCfgR (z := z) hv hl hfu
 exact Nh0 hc.r8 NcU ⟨r, st', h1, h2⟩
theorem NfS {cfg : Cfg} (hc : CfgA cfg) {fuel : Nat} {cd : Cd} {z : Bool} {l : List Et} (hv : ∀ e, e ∈ l → EtOK cd e) (hl : l.length < 1000) (hfu : l.length + 6 ≤ fuel) (h0 : 0 < l.length) (st : St) (key : Nat) :
 Nal (Naj cfg (Nay cfg (fuel + 5)) 24) false st key [.agg [slV cd.zo cd.O.length (cd.O.flatMap Dc.cs), slV cd.zt cd.T.length (cd.T.flatMap Tx.cs)], slV z l.length (l.flatMap Et.cs)] = some (.rsl key 1 0 l.length, st.put key (some (.cells ((Nbn cd l l.length).map clP) false))) := by
 have hne : Nbn cd l l.length ≠ [] := by
  intro e
  have : (Nbn cd l l.length).length = l.length := by simp [Nbn]
  rw [e] at this
  simp at this
  omega
 have hr := Nhc hc (z := z) hv hl hfu
 unfold NkX at hr
 rw [if_neg hne] at hr
 have hlen : (Nbn cd l l.length).length = l.length := by simp [Nbn]
 rw [hlen] at hr
 exact NhM (Na3 Nbl NgB) Nih hr
theorem Nea : ∀ {l : List Ch} {n : List Int} {C : Ch → List Int}, NaD n = true → (∀ q, NaD (C q) = true) → ∀ q, NaD (NbI l n C q) = true
 | [], n, C, _, h, q => h q
 | k :: r, n, C, hn, h, q => by
   rw [NbI]
   refine Nea hn (fun p => ?_) q
   unfold NiH
   split
   ·exact Nck (h k) hn
   ·exact h p
theorem NeB {cd : Cd} {l : List Et} (hv : ∀ e, e ∈ l → EtOK cd e) (i : Nat) : 0 ≤ thL l i ∧ thL l i ≤ 63 := by
 unfold thL
 by_cases h : i < l.length
 ·have e : l.getD i etZ = l[i] := by rw [List.getD_eq_getElem?_getD, List.getElem?_eq_getElem h]; rfl
  rw [e]
  exact ⟨(hv _ (List.getElem_mem h)).t0, (hv _ (List.getElem_mem h)).t1⟩
 ·have e : l.getD i etZ = etZ := by rw [List.getD_eq_getElem?_getD, List.getElem?_eq_none Zaa]; rfl
  rw [e]
  exact ⟨by decide, by decide⟩
theorem Nd9 {cd : Cd} {l : List Et} (hv : ∀ e, e ∈ l → EtOK cd e) : ∀ j, (∀ u, NaD ((Nd7 (thL l) (gvL cd l) (tkL cd l) j).T u) = true) ∧ ∀ q, NaD ((Nd7 (thL l) (gvL cd l) (tkL cd l) j).C q) = true
 | 0 => ⟨fun _ => rfl, fun _ => rfl⟩
 | j + 1 => by
   obtain ⟨h1, h2⟩ := Nd9 hv j
   have hn : NaD (NaJ (Nd7 (thL l) (gvL cd l) (tkL cd l) j).C (tkL cd l j) (NbB ((Nd7 (thL l) (gvL cd l) (tkL cd l) j).T (thL l j)) (thL l j))) = true := NgR (NcW (h1 _) (NeB hv j).1 (NeB hv j).2) h2
   refine ⟨fun u => ?_, Nea hn h2⟩
   show NaD (Ngk _ _ _ u) = true
   unfold Ngk
   split
   ·exact hn
   ·exact h1 u
theorem Nmb {cd : Cd} {l : List Et} (hv : ∀ e, e ∈ l → EtOK cd e) (i : Nat) : NaD (NfO cd l i) = true :=
 NgR (NcW ((Nd9 hv i).1 _) (NeB hv i).1 (NeB hv i).2) (Nd9 hv i).2
theorem Nfc {cd : Cd} {l : List Et} (hv : ∀ e, e ∈ l → EtOK cd e) (i : Nat) : (NfO cd l i).length < 1000 := (Nb2 (Nmb hv i)).1
def Nde (ck : Int) (cd : Cd) (l : List Et) (i j : Int) : Bool := trV ck cd l && decide (0 ≤ i) && decide (i < j) && decide (j < l.length) && decide (aT (NfO cd l i.toNat) (thL l i.toNat) ≤ aT (NfO cd l j.toNat) (thL l i.toNat))
theorem NkG {ck : Int} {cd : Cd} {l : List Et} (h : trV ck cd l = true) (h16 : cd.T.length ≤ 64) : ∀ e, e ∈ l → EtOK cd e := by
 intro e he
 unfold trV at h
 simp only [Bool.and_eq_true, List.all_eq_true] at h
 have := h.2 e he
 unfold etB at this
 simp only [Bool.and_eq_true, decide_eq_true_eq] at this
 exact ⟨by omega, by omega, by omega, by omega⟩
theorem NhQ {cd : Cd} {l : List Et} {n i : Nat} (h : i < n) : List.take 1 (List.drop i ((Nbn cd l n).map clP)) = [clP (NfO cd l i)] := by
 have hl : i < ((Nbn cd l n).map clP).length := by simp [Nbn, h]
 rw [List.drop_eq_getElem_cons hl]
 simp [Nbn]
theorem NbR {α : Type} {f : α → List PV} {w : Nat} (hw : ∀ a, (f a).length = w) : ∀ {l : List α} {i : Nat} (h : i < l.length), (l.flatMap f).drop (i * w) = f l[i] ++ (l.flatMap f).drop ((i + 1) * w)
 | [], i, h => by simp at h
 | a :: r, 0, _ => by
   rw [List.flatMap_cons, Nat.zero_mul, List.drop_zero, Nat.zero_add, Nat.one_mul, List.drop_left' (hw a)]
   rfl
 | a :: r, i + 1, h => by
   have e : ∀ k, (f a ++ r.flatMap f).drop ((k + 1) * w) = (r.flatMap f).drop (k * w) := fun k => by
    rw [show (k + 1) * w = w + k * w by rw [Nat.add_mul]; omega, ← List.drop_drop, List.drop_left' (hw a)]
   rw [List.flatMap_cons, e, e, NbR hw (l := r) (i := i) (by simpa using h)]
   rfl
theorem NeS {st : St} {l : List Et} {i : Nat} (h : i < l.length) : Na6 st 1 (.fptr ((l.flatMap Et.cs).drop (i * 5))) = some [.i .i64 l[i].T] := by
 rw [NbR Et.cs_len h]
 show cut? _ 0 1 = _; unfold cut?; rw [if_pos (by simp [Et.cs])]; rfl
theorem NhI {cfg : Cfg} (hc : CfgA cfg) {fuel : Nat} {st : St} {cd : Cd} {z : Bool} {l : List Et} {ck i j : Int} (hck : Naj cfg (Nay cfg (fuel + 5)) 27 [.agg (Cd.cs cd)] = some (.i .i64 ck)) (hl : l.length + 6 ≤ fuel) (hl2 : l.length < 1000) (hO : cd.O.length ≤ reachBytes) (hT : cd.T.length ≤ reachBytes) (h16 : ck = 0 → cd.T.length ≤ 64) :
 ∃ r st', Nay cfg (fuel + 7) 18 [.agg (Cd.cs cd), slV z l.length (l.flatMap Et.cs), .i .i64 i, .i .i64 j] st = some (r, st') ∧ r = .b (Nde ck cd l i j) := by
 refine Nau (hc.fn _ _ (by kernel_rfl) : cfg.fn 18 = some m18) ?_
 have hrb : reachBytes = 140737488351232 := rfl
 have gt : ∀ (st : St) (key : Nat), Nal (Naj cfg (Nay cfg (fuel + 6)) 23) false st key [.agg [slV cd.zo cd.O.length (cd.O.flatMap Dc.cs), slV cd.zt cd.T.length (cd.T.flatMap Tx.cs)], slV z l.length (l.flatMap Et.cs)] = some (.b (trV ck cd l), st) := fun st key => NaL (Na3 Nbl NgB) (NiU hc hck Zaa hO hT Zaa) rfl rfl
 delta m18 Qa Qr Qf Ql Qt Qs Qk Qm Qh Cd.cs
 have hlv := Nav z l.length (l.flatMap Et.cs)
 have hE := NaA Et.cs_len l
 obtain ⟨R, hR⟩ : ∃ R, Nde ck cd l i j = R := ⟨_, rfl⟩
 rw [hR]
 unfold Nde at hR
 obtain ⟨sto0, c0⟩ := st
 simp only [Nak]
 by_cases ht : trV ck cd l = true
 ·rw [ht] at gt hR
  simp only [Bool.true_and] at hR
  have hck0 : ck = 0 := by
   unfold trV at ht
   simp only [Bool.and_eq_true, beq_iff_eq] at ht
   exact ht.1
  have hok := NkG ht (h16 hck0)
  by_cases hi : i < 0
  ·rw [decide_eq_false (show ¬ 0 ≤ i by omega)] at hR
   iterate 4
    (try rw [Z0])
    (try simp (maxSteps := 2000000) (disch := first | omega | rfl | assumption) only [↓Xp, ↓Xt, Xq, Xc, Nae, Naa, reduceAdd, reduceMul, reduceLT, reduceEqDiff, reduceIte, Xa, Xn, unP, Nab, Nac, Nad, Xm, reduceLeDiff, Zan, Zao, Nag, Naf, gt, hlv])
   exact ⟨nofun, _, rfl, by simp only [Nas, Env.get_put, if_true]; rw [← hR]; rfl⟩
  by_cases hij : j ≤ i
  ·rw [decide_eq_false (show ¬ i < j by omega), Bool.and_false] at hR
   iterate 4
    (try rw [Z0])
    (try simp (maxSteps := 2000000) (disch := first | omega | rfl | assumption) only [↓Xp, ↓Xt, Xq, Xc, Nae, Naa, reduceAdd, reduceMul, reduceLT, reduceEqDiff, reduceIte, Xa, Xn, unP, Nab, Nac, Nad, Xm, reduceLeDiff, Zan, Zao, Nag, Naf, gt, hlv])
   exact ⟨nofun, _, rfl, by simp only [Nas, Env.get_put, if_true]; rw [← hR]; rfl⟩
  by_cases hj : (l.length : Int) ≤ j
  ·rw [decide_eq_false (show ¬ j < (l.length : Int) by omega), Bool.and_false] at hR
   iterate 4
    (try rw [Z0])
    (try simp (maxSteps := 2000000) (disch := first | omega | rfl | assumption) only [↓Xp, ↓Xt, Xq, Xc, Nae, Naa, reduceAdd, reduceMul, reduceLT, reduceEqDiff, reduceIte, Xa, Xn, unP, Nab, Nac, Nad, Xm, reduceLeDiff, Zan, Zao, Nag, Naf, gt, hlv])
   exact ⟨nofun, _, rfl, by simp only [Nas, Env.get_put, if_true]; rw [← hR]; rfl⟩
  rw [decide_eq_true (show 0 ≤ i by omega), decide_eq_true (show i < j by omega), decide_eq_true (show j < (l.length : Int) by omega)] at hR
  simp only [Bool.true_and] at hR
  have gk : ∀ (st : St) (key : Nat), Nal (Naj cfg (Nay cfg (fuel + 6)) 24) false st key [.agg [slV cd.zo cd.O.length (cd.O.flatMap Dc.cs), slV cd.zt cd.T.length (cd.T.flatMap Tx.cs)], slV z l.length (l.flatMap Et.cs)] = _ := NfS hc (z := z) (fuel := fuel + 1) hok hl2 Zaa Zaa
  have hz := Nar (z := z) (cs := l.flatMap Et.cs) (show i.toNat < l.length by omega)
  have hlT := fun st => NeS (st := st) (show i.toNat < l.length by omega)
  have hti : l[i.toNat].T = thL l i.toNat := by unfold thL; rw [List.getD_eq_getElem?_getD, List.getElem?_eq_getElem (show i.toNat < l.length by omega)]; rfl
  rw [hti] at hlT
  have ki := NhQ (cd := cd) (l := l) (n := l.length) (i := i.toNat) Zaa
  have kj := NhQ (cd := cd) (l := l) (n := l.length) (i := j.toNat) Zaa
  have kl : ((Nbn cd l l.length).map clP).length = l.length := by simp [Nbn]
  have ga : Naj cfg (Nay cfg (fuel + 6)) 25 [clP (NfO cd l i.toNat), .i .i64 (thL l i.toNat), clP (NfO cd l j.toNat)] = some (.b (decide (aT (NfO cd l i.toNat) (thL l i.toNat) ≤ aT (NfO cd l j.toNat) (thL l i.toNat)))) := NhF (fuel := fuel + 4) hc (NeB hok _).1 (Nfc hok _) (Nfc hok _)
  rw [hz] at gt gk hlv ⊢
  iterate 3
   (try rw [Z0])
   (try simp (maxSteps := 2000000) (disch := first | omega | rfl | assumption) only [↓Xp, ↓Xt, Xq, Xc, Nae, Naa, reduceAdd, reduceMul, reduceLT, reduceEqDiff, reduceIte, Xa, Xn, unP, Nab, Nac, Nad, Xm, reduceLeDiff, Zan, Zao, Nag, Naf, gt, hlv, gk])
  iterate 3
   (try rw [Z0])
   (try simp (maxSteps := 2000000) (disch := first | omega | rfl | assumption) only [↓Xp, ↓Xt, Xq, Xc, Nae, Naa, reduceAdd, reduceMul, reduceLT, reduceEqDiff, reduceIte, Xa, Xn, unP, Nab, Nac, Nad, Xm, reduceLeDiff, Zan, Zao, gk, Nag, Naf, ki, kj, kl, hE, hlT, ga])
  refine NaI (Nbr rfl) ga rfl rfl ?_
  iterate 3
   (try rw [Z0])
   (try simp (maxSteps := 2000000) (disch := first | omega | rfl | assumption) only [↓Xp, ↓Xt, Xq, Xc, Nae, Naa, reduceAdd, reduceMul, reduceLT, reduceEqDiff, reduceIte, Xa, Xn, unP, Nab, Nac, Nad, Xm, reduceLeDiff, Zan, Zao])
  exact ⟨nofun, _, rfl, by simp only [Nas, Env.get_put, if_true]; rw [← hR]⟩
 ·have hf : trV ck cd l = false := by simpa using ht
  rw [hf] at gt hR
  iterate 4
   (try rw [Z0])
   (try simp (maxSteps := 2000000) (disch := first | omega | rfl | assumption) only [↓Xp, ↓Xt, Xq, Xc, Nae, Naa, reduceAdd, reduceMul, reduceLT, reduceEqDiff, reduceIte, Xa, Xn, unP, Nab, Nac, Nad, Xm, reduceLeDiff, Zan, Zao, Nag, Naf, gt, hlv])
  exact ⟨nofun, _, rfl, by simp only [Nas, Env.get_put, if_true]; rw [← hR]; rfl⟩
theorem Ng8 {cfg : Cfg} (hc : CfgA cfg) {fuel : Nat} {cd : Cd} {z : Bool} {l : List Et} {ck i j : Int} (hck : Naj cfg (Nay cfg (fuel + 5)) 27 [.agg (Cd.cs cd)] = some (.i .i64 ck)) (hl : l.length + 6 ≤ fuel) (hl2 : l.length < 1000) (hO : cd.O.length ≤ reachBytes) (hT : cd.T.length ≤ reachBytes) (h16 : ck = 0 → cd.T.length ≤ 64) :
 Naj cfg (Nay cfg (fuel + 7)) 18 [.agg (Cd.cs cd), slV z l.length (l.flatMap Et.cs), .i .i64 i, .i .i64 j] = some (.b (Nde ck cd l i j)) :=
 Naq hc.a2 rfl (fun _ => rfl) (NhI hc hck hl hl2 hO hT h16)
end Go.Pe
