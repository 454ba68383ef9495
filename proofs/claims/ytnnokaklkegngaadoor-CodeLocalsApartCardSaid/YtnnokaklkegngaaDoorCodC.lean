/-
 CodeLocalsApart: the law, by the interpreter of plain data. No condition.
-/
import Derived.Test.YtnnokaklkegngaaDoorCodB
import Derived.Test.YtnnokaklkegngaaDoorPeL6
import Derived.Test.YtnnokaklkegngaaDoorCodD
set_option linter.unusedVariables false
set_option linter.unusedSimpArgs false
set_option maxHeartbeats 8000000
namespace Go.Pe
open Go Go.Am Go.RowKit

theorem Exs.names_of {p : Int} : ∀ {l : List Ex}, Exs.names p l = false → ∀ e ∈ l, e.names p = false
 | [], _, e, h => by simp at h
 | a :: r, h, e, hm => by
   rw [Exs.names] at h
   split at h
   ·cases h
   ·rename_i h1
    rcases List.mem_cons.1 hm with rfl | hm
    ·simpa using h1
    ·exact Exs.names_of h e hm
theorem Nf7 (l : List Int) (x : Int) (p : Nat) : ∀ (n : Nat) (e : Ex), e.size ≤ n → e.names (p : Int) = false → e.eval (l.set p x) = e.eval l := by
 intro n
 induction n with
 | zero => intro e h; have := Ex.size_eq e; omega
 | succ n ih =>
   intro e hs hn
   have hes := Ex.size_eq e
   rw [Ex.names_eq] at hn
   split at hn
   ·cases hn
   rename_i h2
   rw [Ex.eval_eq, Ex.eval_eq, Exs.eval_map, Exs.eval_map]
   have hm : e.L.map (Ex.eval (l.set p x)) = e.L.map (Ex.eval l) := List.map_congr_left fun a ha => ih a (by have := Exs.size_mem ha; omega) (Exs.names_of hn a ha)
   rw [hm]
   unfold evI
   by_cases k1 : e.K.toNat = 1
   ·rw [if_pos k1, if_pos k1]
   rw [if_neg k1, if_neg k1]
   by_cases k2 : e.K.toNat = 2
   ·rw [if_pos k2, if_pos k2]
    by_cases hneg : e.N < 0
    ·rw [if_pos hneg, if_pos hneg]
    ·rw [if_neg hneg, if_neg hneg]
     have hne : ¬ p = e.N.toNat := fun h => h2 ⟨k2, by omega⟩
     simp [List.getD, List.getElem?_set, hne]
   ·rw [if_neg k2, if_neg k2]
theorem Ne5 (l : List Int) (p : Nat) (x : Int) : NaE (l.set p x) = (NaE l).set p (.i .i64 x) := by
 unfold NaE
 rw [List.map_set]
noncomputable def cfgL6 : Cfg := { fn := fun f => Ncp f tblX6, ext := Niz }
theorem Ngi {Gl : Gmap} {m : Int} (hg : Gl 0 0 = some (.int .i64 m)) : CfgOK Go.Proofs.Tryd.prog Gl cfgL6 := NdW NfW (Ng8 hg)
theorem Ngu (f : FuncId) (m : MFunc) (h : Ncp f tblL = some m) : cfgL6.fn f = some m := by
 show Ncp f tblX6 = some m
 by_cases h6 : f = 6
 ·subst h6
  have h0 : Ncp 6 tblL = none := by kernel_rfl
  rw [h0] at h; cases h
 ·have hb : Nat.beq f 6 = false := by
   cases h : Nat.beq f 6 with
   | false => rfl
   | true => exact absurd (Nat.eq_of_beq_eq_true h) h6
  show (Bool.rec (motive := fun _ => Option MFunc) (Ncp f tblL) (some m6) (Nat.beq f 6)) = some m
  rw [hb]
  exact h
theorem cfgL6_n : CfgN cfgL6 where
 fn := Ngu
 e1 := by rfl
 e2 := by rfl
 n1 := by rfl
 n2 := by rfl
 n3 := by rfl
theorem NfR {e : Ex} {l : List Int} {x0 x1 : Int} (hwf : e.wf) (hl : l.length ≤ reachBytes) :
 ∃ fuel, evP cfgL6 fuel 6 [.agg e.cs, .fsl l.length (NaE l), .agg [.i .i64 x0, .i .i64 x1]] = some (.b true) := by
 have ho : Naq [.agg e.cs, .fsl l.length (NaE l), .agg [.i .i64 x0, .i .i64 x1]] = ([.agg e.cs, .fsl l.length (NaE l), .agg [.i .i64 x0, .i .i64 x1]], { sto := .leaf, cnt := 1 }) := by
  rw [Ex.cs_eq]
  unfold slV
  split <;> rfl
 refine ⟨(e.size + 5) + 1, NgQ rfl ho (fun _ => rfl) (Nbk (by kernel_rfl : cfgL6.fn 6 = some m6) ?_)⟩
 unfold m6
 have hrb : reachBytes < 4611686018427387904 := by decide
 obtain ⟨q, hq⟩ : ∃ q, e.size + 5 = q := ⟨_, rfl⟩
 rw [hq]
 have hlen : (NaE l).length = l.length := List.length_map _
 have aw : ∀ (st : St) (key : Nat), Nau (Nam cfgL6 (NaT cfgL6 q) 11) false st key [] = some (.b true, st) := fun st key => NaC rfl (by rw [Na7 (by kernel_rfl : cfgL6.ext 11 = some NcI)]; rfl) rfl
 have awq : Nam cfgL6 (NaT cfgL6 q) 11 [] = some (.b true) := by rw [Na7 (by kernel_rfl : cfgL6.ext 11 = some NcI)]; rfl
 obtain ⟨v, hv⟩ : ∃ v : Int, Nam cfgL6 (NaT cfgL6 q) 15 [.agg [.i .u8 (e.K.toNat : Int), .s e.S, .i .i64 e.N, slV e.z e.L.length (Exs.cs e.L)], .i .i64 ((60 : Nat) : Int)] = some (.i .i64 v) := by
  obtain ⟨r, st', h1, v, h2⟩ := Nfe cfgL6_n (q - 1) e ((60 : Nat) : Int) { sto := .leaf, cnt := 1 } (by omega) hwf
  rw [Ex.cs_eq, show q - 1 + 1 = q by omega] at h1
  exact ⟨v, NaS cfgL6_n.n2 (NbH _) (fun _ => rfl) ⟨r, st', h1, h2⟩⟩
 have gS : ∀ (st : St) (key : Nat), Nau (Nam cfgL6 (NaT cfgL6 q) 15) false st key [.agg [.i .u8 (e.K.toNat : Int), .s e.S, .i .i64 e.N, slV e.z e.L.length (Exs.cs e.L)], .i .i64 ((60 : Nat) : Int)] = some (.i .i64 v, st) := fun st key => NbD (Nbc (NaP _) rfl) hv rfl rfl
 have gN : ∀ p : Int, Nam cfgL6 (NaT cfgL6 q) 17 [.agg [.i .u8 (e.K.toNat : Int), .s e.S, .i .i64 e.N, slV e.z e.L.length (Exs.cs e.L)], .i .i64 p] = some (.b (e.names p)) := fun p => by
  obtain ⟨r, st', h1, h2⟩ := NfP cfgL6_n p (q - 1) e { sto := .leaf, cnt := 1 } (by omega) hwf
  rw [Ex.cs_eq, show q - 1 + 1 = q by omega] at h1
  exact NaS cfgL6_n.n1 (NbH _) (fun _ => rfl) ⟨r, st', h1, h2⟩
 have gE : ∀ (m : List Int), Nam cfgL6 (NaT cfgL6 q) 9 [.agg [.i .u8 (e.K.toNat : Int), .s e.S, .i .i64 e.N, slV e.z e.L.length (Exs.cs e.L)], .fsl m.length (NaE m)] = some (.i .i64 (e.eval m)) := fun m => by
  obtain ⟨r, st', h1, h2⟩ := NfI cfgL6_n.toCfgE m (q - 1) e { sto := .leaf, cnt := 1 } (by omega)
  rw [Ex.cs_eq, show q - 1 + 1 = q by omega] at h1
  exact NaS cfgL6_n.e1 (Ndb _ _) (fun _ => rfl) ⟨r, st', h1, h2⟩
 rw [Ex.cs_eq]
 simp only [Nas]
 (try rw [Z0])
 (try simp (maxSteps := 2000000) (disch := first | omega | rfl | assumption) only [↓Xp, ↓Xt, Xq, Xc, Nai, Naa, Nat.reduceAdd, Nat.reduceMul, Nat.reduceLT, Nat.reduceEqDiff, reduceIte, Xa, Xn, unP, Nad, Naf, Nae, Xm, Nat.reduceLeDiff, List.nil_append, List.cons_append, Nah, Nac])
 refine NbA (fun x => ∃ B D : Nat, x.env.get 1 = .fsl l.length (NaE l) ∧ x.env.get 3 = .ptr B 0 ∧ x.env.get 5 = .ptr D 0 ∧ B < x.st.cnt ∧ D < x.st.cnt ∧ x.st.get B = some (.cells [.i .u8 (e.K.toNat : Int), .s e.S, .i .i64 e.N, slV e.z e.L.length (Exs.cs e.L)] false) ∧ x.st.get D = some (.cells [.i .i64 x0, .i .i64 x1] false)) ?_ ?_
 ·exact ⟨1, 9, rfl, rfl, rfl, by simp only [NeY]; omega, by simp only [NeY]; omega, by simp (disch := omega) only [Nic, NhI]; rw [St.get_putk], by rw [St.get_putk]⟩
 rintro ⟨env, ⟨sto, c⟩⟩ ⟨B, D, g1, g3, g5, hBc, hDc, kB, kD⟩
 simp only at g1 g3 g5 hBc hDc
 replace kB : ∀ n', St.get ⟨sto, n'⟩ B = _ := fun _ => kB
 replace kD : ∀ n', St.get ⟨sto, n'⟩ D = _ := fun _ => kD
 refine NbM (fun x => 0 < l.length ∧ l.length ≤ 1000 ∧ x.env.get 1 = .fsl l.length (NaE l) ∧ x.env.get 3 = .ptr B 0 ∧ x.env.get 5 = .ptr D 0 ∧ B < x.st.cnt ∧ D < x.st.cnt ∧ x.st.get B = some (.cells [.i .u8 (e.K.toNat : Int), .s e.S, .i .i64 e.N, slV e.z e.L.length (Exs.cs e.L)] false) ∧ x.st.get D = some (.cells [.i .i64 x0, .i .i64 x1] false)) ?_ ?_
 ·intro K hK
  by_cases h1 : 1000 < v
  ·skip
   (try rw [Z0])
   (try simp (maxSteps := 2000000) (disch := first | omega | rfl | assumption) only [↓Xp, ↓Xt, Xq, Xc, Nai, Naa, Nat.reduceAdd, Nat.reduceMul, Nat.reduceLT, Nat.reduceEqDiff, reduceIte, Xa, Xn, unP, Nad, Naf, Nae, Xm, Nat.reduceLeDiff, List.nil_append, List.cons_append, g1, g3, g5, kB, gS, Nah, Nac, aw])
   (try rw [Z0])
   (try simp (maxSteps := 2000000) (disch := first | omega | rfl | assumption) only [↓Xp, ↓Xt, Xq, Xc, Nai, Naa, Nat.reduceAdd, Nat.reduceMul, Nat.reduceLT, Nat.reduceEqDiff, reduceIte, Xa, Xn, unP, Nad, Naf, Nae, Xm, Nat.reduceLeDiff, List.nil_append, List.cons_append, g1, g3, g5, kB, gS, Nah, Nac, aw])
   (try rw [Z0])
   (try simp (maxSteps := 2000000) (disch := first | omega | rfl | assumption) only [↓Xp, ↓Xt, Xq, Xc, Nai, Naa, Nat.reduceAdd, Nat.reduceMul, Nat.reduceLT, Nat.reduceEqDiff, reduceIte, Xa, Xn, unP, Nad, Naf, Nae, Xm, Nat.reduceLeDiff, List.nil_append, List.cons_append, g1, g3, g5, kB, gS, Nah, Nac, aw])
   exact ⟨nofun, _, rfl, by simp only [Nbu, Env.get_put, if_true]⟩
  by_cases h2 : 1000 < l.length
  ·skip
   (try rw [Z0])
   (try simp (maxSteps := 2000000) (disch := first | omega | rfl | assumption) only [↓Xp, ↓Xt, Xq, Xc, Nai, Naa, Nat.reduceAdd, Nat.reduceMul, Nat.reduceLT, Nat.reduceEqDiff, reduceIte, Xa, Xn, unP, Nad, Naf, Nae, Xm, Nat.reduceLeDiff, List.nil_append, List.cons_append, g1, g3, g5, kB, gS, Nah, Nac, aw])
   (try rw [Z0])
   (try simp (maxSteps := 2000000) (disch := first | omega | rfl | assumption) only [↓Xp, ↓Xt, Xq, Xc, Nai, Naa, Nat.reduceAdd, Nat.reduceMul, Nat.reduceLT, Nat.reduceEqDiff, reduceIte, Xa, Xn, unP, Nad, Naf, Nae, Xm, Nat.reduceLeDiff, List.nil_append, List.cons_append, g1, g3, g5, kB, gS, Nah, Nac, aw])
   (try rw [Z0])
   (try simp (maxSteps := 2000000) (disch := first | omega | rfl | assumption) only [↓Xp, ↓Xt, Xq, Xc, Nai, Naa, Nat.reduceAdd, Nat.reduceMul, Nat.reduceLT, Nat.reduceEqDiff, reduceIte, Xa, Xn, unP, Nad, Naf, Nae, Xm, Nat.reduceLeDiff, List.nil_append, List.cons_append, g1, g3, g5, kB, gS, Nah, Nac, aw])
   exact ⟨nofun, _, rfl, by simp only [Nbu, Env.get_put, if_true]⟩
  by_cases h3 : l.length = 0
  ·have b3 : ((l.length : Int) == Int.ofNat 0) = true := by rw [h3]; rfl
   (try rw [Z0])
   (try simp (maxSteps := 2000000) (disch := first | omega | rfl | assumption) only [↓Xp, ↓Xt, Xq, Xc, Nai, Naa, Nat.reduceAdd, Nat.reduceMul, Nat.reduceLT, Nat.reduceEqDiff, reduceIte, Xa, Xn, unP, Nad, Naf, Nae, Xm, Nat.reduceLeDiff, List.nil_append, List.cons_append, g1, g3, g5, kB, gS, Nah, Nac, aw, b3])
   (try rw [Z0])
   (try simp (maxSteps := 2000000) (disch := first | omega | rfl | assumption) only [↓Xp, ↓Xt, Xq, Xc, Nai, Naa, Nat.reduceAdd, Nat.reduceMul, Nat.reduceLT, Nat.reduceEqDiff, reduceIte, Xa, Xn, unP, Nad, Naf, Nae, Xm, Nat.reduceLeDiff, List.nil_append, List.cons_append, g1, g3, g5, kB, gS, Nah, Nac, aw, b3])
   (try rw [Z0])
   (try simp (maxSteps := 2000000) (disch := first | omega | rfl | assumption) only [↓Xp, ↓Xt, Xq, Xc, Nai, Naa, Nat.reduceAdd, Nat.reduceMul, Nat.reduceLT, Nat.reduceEqDiff, reduceIte, Xa, Xn, unP, Nad, Naf, Nae, Xm, Nat.reduceLeDiff, List.nil_append, List.cons_append, g1, g3, g5, kB, gS, Nah, Nac, aw, b3])
   exact ⟨nofun, _, rfl, by simp only [Nbu, Env.get_put, if_true]⟩
  ·have b3 : ((l.length : Int) == Int.ofNat 0) = false := beq_eq_false_iff_ne.2 (fun h => h3 (Int.ofNat.inj h))
   (try rw [Z0])
   (try simp (maxSteps := 2000000) (disch := first | omega | rfl | assumption) only [↓Xp, ↓Xt, Xq, Xc, Nai, Naa, Nat.reduceAdd, Nat.reduceMul, Nat.reduceLT, Nat.reduceEqDiff, reduceIte, Xa, Xn, unP, Nad, Naf, Nae, Xm, Nat.reduceLeDiff, List.nil_append, List.cons_append, g1, g3, g5, kB, gS, Nah, Nac, aw, b3])
   (try rw [Z0])
   (try simp (maxSteps := 2000000) (disch := first | omega | rfl | assumption) only [↓Xp, ↓Xt, Xq, Xc, Nai, Naa, Nat.reduceAdd, Nat.reduceMul, Nat.reduceLT, Nat.reduceEqDiff, reduceIte, Xa, Xn, unP, Nad, Naf, Nae, Xm, Nat.reduceLeDiff, List.nil_append, List.cons_append, g1, g3, g5, kB, gS, Nah, Nac, aw, b3])
   (try rw [Z0])
   (try simp (maxSteps := 2000000) (disch := first | omega | rfl | assumption) only [↓Xp, ↓Xt, Xq, Xc, Nai, Naa, Nat.reduceAdd, Nat.reduceMul, Nat.reduceLT, Nat.reduceEqDiff, reduceIte, Xa, Xn, unP, Nad, Naf, Nae, Xm, Nat.reduceLeDiff, List.nil_append, List.cons_append, g1, g3, g5, kB, gS, Nah, Nac, aw, b3])
   exact hK _ ⟨by omega, by omega, by simp [Env.get_put, g1], by simp [Env.get_put, g3], by simp [Env.get_put, g5], by simp only; omega, by simp only; omega, kB _, kD _⟩
 clear g1 g3 g5 hBc hDc kB kD
 rintro ⟨env, ⟨sto, c⟩⟩ ⟨hl0, hl1, g1, g3, g5, hBc, hDc, kB, kD⟩
 simp only at g1 g3 g5 hBc hDc
 have kB' : ∀ n', St.get ⟨sto, n'⟩ B = _ := fun _ => kB
 have kD' : ∀ n', St.get ⟨sto, n'⟩ D = _ := fun _ => kD
 obtain ⟨p, hp, gP⟩ : ∃ p : Nat, p < l.length ∧ ∀ (st : St) (key : Nat), Nau (Nam cfgL6 (NaT cfgL6 q) 16) false st key [.i .i64 x0, .i .i64 (l.length : Int)] = some (.i .i64 (p : Int), st) := by
  obtain ⟨r, st', h1, p, h2, h3⟩ := Nf3 cfgL6_n (fuel := q - 1) (st := { sto := .leaf, cnt := 1 }) (x := x0) (n := (l.length : Int)) ⟨by omega, by omega⟩
  rw [show q - 1 + 1 = q by omega] at h1
  exact ⟨p, by omega, fun st key => NaC rfl (NaS cfgL6_n.n3 rfl (fun _ => rfl) ⟨r, st', h1, h3⟩) rfl⟩
 (try rw [Z0])
 (try simp (maxSteps := 2000000) (disch := first | omega | rfl | assumption) only [↓Xp, ↓Xt, Xq, Xc, Nai, Naa, Nat.reduceAdd, Nat.reduceMul, Nat.reduceLT, Nat.reduceEqDiff, reduceIte, Xa, Xn, unP, Nad, Naf, Nae, Xm, Nat.reduceLeDiff, List.nil_append, List.cons_append, g1, g3, g5, kD', gP])
 have hco : ∀ st, cellsOf st 1 (.fsl l.length (NaE l)) = some (l.length, NaE l) := fun st => by
  unfold cellsOf
  simp [hlen]
 have hall : (NaE l).all PV.one = true := by
  unfold NaE
  simp [List.all_eq_true, PV.one]
 have hflat : ∀ m : List Int, (NaE m).all PV.flat = true := fun m => by
  unfold NaE
  simp [List.all_eq_true, PV.flat]
 (try rw [Z0])
 (try simp (maxSteps := 2000000) (disch := first | omega | rfl | assumption) only [↓Xp, ↓Xt, Xq, Xc, Nai, Naa, Nat.reduceAdd, Nat.reduceMul, Nat.reduceLT, Nat.reduceEqDiff, reduceIte, Xa, Xn, unP, Nad, Naf, Nae, Xm, Nat.reduceLeDiff, List.nil_append, List.cons_append, g1, g3, g5, hco, hall])
 refine Ng6 (n := 0) (cs := []) (.inr ⟨c + 48, rfl, by rw [St.get_putk], rfl, by simp only [NeY]; omega⟩) (by simp only [NeY]; omega) (by simp [keyOf]) (by rw [hlen]; omega) (by omega) (by unfold NaB; omega) ?_
 intro v' st' hown hcnt hkeys hget
 obtain ⟨k2, rfl, hk2, -, hk2c⟩ := hown.obj (by omega)
 have hk2e : k2 = c + 64 := hkeys k2 (by simp [keyOf])
 simp only [NeY] at hcnt
 have hB2 : ∀ n', St.get ⟨st'.sto, n'⟩ B = _ := fun n' => (hget B (by omega) (by simp [keyOf]; omega)).trans ((St.get_put_ne (by omega)).trans (kB' _))
 have hD2 : ∀ n', St.get ⟨st'.sto, n'⟩ D = _ := fun n' => (hget D (by omega) (by simp [keyOf]; omega)).trans ((St.get_put_ne (by omega)).trans (kD' _))
 rw [List.nil_append] at hk2
 refine NbA (fun x => x.env.get 1 = .fsl l.length (NaE l) ∧ x.env.get 3 = .ptr B 0 ∧ x.env.get 5 = .ptr D 0 ∧ x.env.get 7 = .i .i64 (p : Int) ∧ x.env.get 8 = .rsl k2 1 0 (0 + l.length) ∧ B < x.st.cnt ∧ D < x.st.cnt ∧ k2 < x.st.cnt ∧ x.st.get B = some (.cells [.i .u8 (e.K.toNat : Int), .s e.S, .i .i64 e.N, slV e.z e.L.length (Exs.cs e.L)] false) ∧ x.st.get D = some (.cells [.i .i64 x0, .i .i64 x1] false) ∧ x.st.get k2 = some (.cells (NaE l) false)) ?_ ?_
 ·exact ⟨by simp [Env.get_put, g1], by simp [Env.get_put, g3], by simp [Env.get_put, g5], by simp [Env.get_put], by simp [Env.get_put], by simp only; omega, by simp only; omega, hk2c, hB2 st'.cnt, hD2 st'.cnt, hk2⟩
 rw [Nat.zero_add]
 have hBk : B ≠ k2 := by omega
 have hDk : D ≠ k2 := by omega
 clear g1 g3 g5 hBc hDc kB kD kB' kD' hget hB2 hD2 hkeys hk2 hown hcnt hk2c
 rintro ⟨env, ⟨sto, c⟩⟩ ⟨g1, g3, g5, g7, g8, hBc, hDc, hkc, kB, kD, kO⟩
 simp only at g1 g3 g5 g7 g8 hBc hDc hkc
 replace kD : ∀ n', St.get ⟨sto, n'⟩ D = _ := fun _ => kD
 replace kO : ∀ n', St.get ⟨sto, n'⟩ k2 = _ := fun _ => kO
 (try rw [Z0])
 (try simp (maxSteps := 2000000) (disch := first | omega | rfl | assumption) only [↓Xp, ↓Xt, Xq, Xc, Nai, Naa, Nat.reduceAdd, Nat.reduceMul, Nat.reduceLT, Nat.reduceEqDiff, reduceIte, Xa, Xn, unP, Nad, Naf, Nae, Xm, Nat.reduceLeDiff, List.nil_append, List.cons_append, g1, g3, g5, g7, g8, kD, kO, hlen])
 obtain ⟨m, hm⟩ : ∃ m, l.set p x1 = m := ⟨_, rfl⟩
 have hml : m.length = l.length := by rw [← hm, List.length_set]
 have hset : List.take p (NaE l) ++ [PV.i IntKind.i64 x1] ++ List.drop (p + 1) (NaE l) = NaE m := by
  rw [← hm, Ne5, List.set_eq_take_append_cons_drop, if_pos (by rw [hlen]; exact hp), List.append_assoc]
  rfl
 rw [hset]
 have gm : m.getD p 0 = x1 := by rw [← hm]; simp [List.getD, hp]
 have hem : e.names (p : Int) = false → e.eval m = e.eval l := fun h => by rw [← hm]; exact Nf7 l x1 p e.size e (Nat.le_refl _) h
 have gX : Nam cfgL6 (NaT cfgL6 q) 9 [.agg [.i .u8 ((2 : Nat) : Int), .s [120], .i .i64 (p : Int), .nsl], .fsl m.length (NaE m)] = some (.i .i64 x1) := by
  obtain ⟨r, st', h1, h2⟩ := NfI cfgL6_n.toCfgE m (q - 1) (.mk 2 [120] (p : Int) true []) { sto := .leaf, cnt := 1 } (by rw [Ex.size, Exs.size]; omega)
  rw [show q - 1 + 1 = q by omega] at h1
  refine NaS cfgL6_n.e1 rfl (fun _ => rfl) ⟨r, st', h1, ?_⟩
  rw [h2, Ex.eval_eq]
  have : ¬ ((p : Int) < 0) := by omega
  show PV.i IntKind.i64 (if (p : Int) < 0 then 0 else m.getD ((p : Int)).toNat 0) = _
  rw [if_neg this, Int.toNat_natCast, gm]
 have dO : ∀ (S : St) (a : PV), S.get k2 = some (.cells (NaE m) false) → k2 < S.cnt → Go.Pe.deep S 12 a = some a → Na8 S [a, .rsl k2 1 0 l.length] = some [a, .fsl m.length (NaE m)] := fun S a h hc ha => by
  have hO : Own S 1 (.rsl k2 1 0 l.length) l.length (NaE m) := .inr ⟨k2, rfl, h, by unfold NaE; rw [List.length_map, hml, Nat.mul_one], hc⟩
  have := hO.deep (hflat m)
  rcases this with ⟨h1, _⟩ | h1
  ·cases h1
  ·show mapO (Go.Pe.deep S 12) [a, .rsl k2 1 0 l.length] = _
   simp only [mapO, ha, h1, hml]
 refine NbA (fun x => x.env.get 1 = .fsl l.length (NaE l) ∧ x.env.get 3 = .ptr B 0 ∧ x.env.get 5 = .ptr D 0 ∧ x.env.get 7 = .i .i64 (p : Int) ∧ x.env.get 8 = .rsl k2 1 0 l.length ∧ B < x.st.cnt ∧ D < x.st.cnt ∧ k2 < x.st.cnt ∧ x.st.get B = some (.cells [.i .u8 (e.K.toNat : Int), .s e.S, .i .i64 e.N, slV e.z e.L.length (Exs.cs e.L)] false) ∧ x.st.get D = some (.cells [.i .i64 x0, .i .i64 x1] false) ∧ x.st.get k2 = some (.cells (NaE m) false)) ?_ ?_
 ·exact ⟨g1, g3, g5, g7, g8, by simp only [NeY]; omega, by simp only [NeY]; omega, by simp only [NeY]; omega, by simp (disch := omega) only [Nic, NhI]; exact kB, by simp (disch := omega) only [Nic, NhI]; exact kD 0, by rw [St.get_putk]⟩
 clear g1 g3 g5 g7 g8 hBc hDc hkc kB kD kO
 rintro ⟨env, ⟨sto, c⟩⟩ ⟨g1, g3, g5, g7, g8, hBc, hDc, hkc, kB, kD, kO⟩
 simp only at g1 g3 g5 g7 g8 hBc hDc hkc
 replace kB : ∀ n', St.get ⟨sto, n'⟩ B = _ := fun _ => kB
 replace kD : ∀ n', St.get ⟨sto, n'⟩ D = _ := fun _ => kD
 replace kO : ∀ n', St.get ⟨sto, n'⟩ k2 = _ := fun _ => kO
 have beqe : (e.eval l != e.eval l) = false := by simp
 refine NbM (fun x => x.env.get 5 = .ptr D 0 ∧ x.env.get 7 = .i .i64 (p : Int) ∧ x.env.get 8 = .rsl k2 1 0 l.length ∧ k2 < x.st.cnt ∧ D < x.st.cnt ∧ x.st.get D = some (.cells [.i .i64 x0, .i .i64 x1] false) ∧ x.st.get k2 = some (.cells (NaE m) false)) ?_ ?_
 ·intro K hK
  (try rw [Z0])
  (try simp (maxSteps := 2000000) (disch := first | omega | rfl | assumption) only [↓Xp, ↓Xt, Xq, Xc, Nai, Naa, Nat.reduceAdd, Nat.reduceMul, Nat.reduceLT, Nat.reduceEqDiff, reduceIte, Xa, Xn, unP, Nad, Naf, Nae, Xm, Nat.reduceLeDiff, List.nil_append, List.cons_append, g1, g3, g5, g7, g8, kB, Nah, Nac])
  refine Na3 (Nbc (NaP _) rfl) (gN p) rfl rfl ?_
  cases hn : e.names (p : Int) with
  | true =>
    (try rw [Z0])
    (try simp (maxSteps := 2000000) (disch := first | omega | rfl | assumption) only [↓Xp, ↓Xt, Xq, Xc, Nai, Naa, Nat.reduceAdd, Nat.reduceMul, Nat.reduceLT, Nat.reduceEqDiff, reduceIte, Xa, Xn, unP, Nad, Naf, Nae, Xm, Nat.reduceLeDiff, List.nil_append, List.cons_append, g1, g3, g5, g7, g8, kB, Nah, Nac, Bool.not_true])
    (try rw [Z0])
    (try simp (maxSteps := 2000000) (disch := first | omega | rfl | assumption) only [↓Xp, ↓Xt, Xq, Xc, Nai, Naa, Nat.reduceAdd, Nat.reduceMul, Nat.reduceLT, Nat.reduceEqDiff, reduceIte, Xa, Xn, unP, Nad, Naf, Nae, Xm, Nat.reduceLeDiff, List.nil_append, List.cons_append, g1, g3, g5, g7, g8, kB, Nah, Nac, Bool.not_true])
    exact hK _ ⟨by simp [Env.get_put, g5], by simp [Env.get_put, g7], by simp [Env.get_put, g8], by simp only; omega, by simp only; omega, kD _, kO _⟩
  | false =>
    (try rw [Z0])
    (try simp (maxSteps := 2000000) (disch := first | omega | rfl | assumption) only [↓Xp, ↓Xt, Xq, Xc, Nai, Naa, Nat.reduceAdd, Nat.reduceMul, Nat.reduceLT, Nat.reduceEqDiff, reduceIte, Xa, Xn, unP, Nad, Naf, Nae, Xm, Nat.reduceLeDiff, List.nil_append, List.cons_append, g1, g3, g5, g7, g8, kB, Nah, Nac, Bool.not_false])
    (try rw [Z0])
    (try simp (maxSteps := 2000000) (disch := first | omega | rfl | assumption) only [↓Xp, ↓Xt, Xq, Xc, Nai, Naa, Nat.reduceAdd, Nat.reduceMul, Nat.reduceLT, Nat.reduceEqDiff, reduceIte, Xa, Xn, unP, Nad, Naf, Nae, Xm, Nat.reduceLeDiff, List.nil_append, List.cons_append, g1, g3, g5, g7, g8, kB, Nah, Nac, Bool.not_false])
    refine Na3 (dO _ _ (kO _) (by simp only; omega) (NaP _)) (gE m) rfl rfl ?_
    (try rw [Z0])
    (try simp (maxSteps := 2000000) (disch := first | omega | rfl | assumption) only [↓Xp, ↓Xt, Xq, Xc, Nai, Naa, Nat.reduceAdd, Nat.reduceMul, Nat.reduceLT, Nat.reduceEqDiff, reduceIte, Xa, Xn, unP, Nad, Naf, Nae, Xm, Nat.reduceLeDiff, List.nil_append, List.cons_append, g1, g3, kB, Nah, Nac])
    refine Na3 (Nbc (NaP _) rfl) (gE l) rfl rfl ?_
    rw [hem hn]
    (try rw [Z0])
    (try simp (maxSteps := 2000000) (disch := first | omega | rfl | assumption) only [↓Xp, ↓Xt, Xq, Xc, Nai, Naa, Nat.reduceAdd, Nat.reduceMul, Nat.reduceLT, Nat.reduceEqDiff, reduceIte, Xa, Xn, unP, Nad, Naf, Nae, Xm, Nat.reduceLeDiff, List.nil_append, List.cons_append, beqe])
    exact hK _ ⟨by simp [Env.get_put, g5], by simp [Env.get_put, g7], by simp [Env.get_put, g8], by simp only; omega, by simp only; omega, kD _, kO _⟩
 clear g1 g3 g5 g7 g8 hBc hDc hkc kB kD kO
 rintro ⟨env, ⟨sto, c⟩⟩ ⟨g5, g7, g8, hkc, hDc, kD, kO⟩
 simp only at g5 g7 g8 hkc hDc
 have kD' : ∀ n', St.get ⟨sto, n'⟩ D = _ := fun _ => kD
 (try rw [Z0])
 (try simp (maxSteps := 2000000) (disch := first | omega | rfl | assumption) only [↓Xp, ↓Xt, Xq, Xc, Nai, Naa, Nat.reduceAdd, Nat.reduceMul, Nat.reduceLT, Nat.reduceEqDiff, reduceIte, Xa, Xn, unP, Nad, Naf, Nae, Xm, Nat.reduceLeDiff, List.nil_append, List.cons_append, g5, g7, g8, kD'])
 refine Na3 (dO _ _ kO (by simp only; omega) rfl) gX rfl rfl ?_
 have bx : (x1 == x1) = true := by simp
 (try rw [Z0])
 (try simp (maxSteps := 2000000) (disch := first | omega | rfl | assumption) only [↓Xp, ↓Xt, Xq, Xc, Nai, Naa, Nat.reduceAdd, Nat.reduceMul, Nat.reduceLT, Nat.reduceEqDiff, reduceIte, Xa, Xn, unP, Nad, Naf, Nae, Xm, Nat.reduceLeDiff, List.nil_append, List.cons_append, kD', bx])
 refine Na3 (st := ⟨sto, c + 88⟩) (key := c + 64) (ps := []) (ps' := []) rfl awq rfl rfl ?_
 (try rw [Z0])
 (try simp (maxSteps := 2000000) (disch := first | omega | rfl | assumption) only [↓Xp, ↓Xt, Xq, Xc, Nai, Naa, Nat.reduceAdd, Nat.reduceMul, Nat.reduceLT, Nat.reduceEqDiff, reduceIte, Xa, Xn, unP, Nad, Naf, Nae, Xm, Nat.reduceLeDiff, List.nil_append, List.cons_append])
 exact ⟨nofun, _, rfl, by simp only [Nbu, Env.get_put, if_true]⟩
theorem NdN : ∀ l : List Int, l.flatMap (fun x => [PV.i .i64 x]) = NaE l
 | [] => rfl
 | a :: r => by rw [List.flatMap_cons, NdN r]; rfl
theorem Nhb {n : Nat} {ps : List PV} (hl : ps.length = n * 1) (hj : ∀ j, j < n → (Sh.i .i64).Is ((ps.drop (j * 1)).take 1)) : ∃ l : List Int, l.length = n ∧ ps = NaE l := by
 obtain ⟨l, h1, h2, -⟩ := Nd1 (f := fun x => [PV.i .i64 x]) (Q := fun _ => True) (w := 1) n ps hl (fun j h => by
  obtain ⟨x, hx, -⟩ := hj j h
  exact ⟨x, hx, trivial⟩)
 exact ⟨l, h1, by rw [h2, NdN]⟩
theorem Ne3 (f : Nat) (cs : List PV) (h : (Nd7 f).Is cs) (n : Nat) (ps : List PV) (hl : ps.length = n * (Sh.i .i64).width) (hb : n ≤ reachBytes) (hj : ∀ j, j < n → (Sh.i .i64).Is ((ps.drop (j * (Sh.i .i64).width)).take (Sh.i .i64).width)) (xs : List PV) (hx : (Sh.cons (.i .i64) (.cons (.i .i64) .nil)).Is xs) : ∃ fuel, evP cfgL6 fuel 6 [.agg cs, .fsl n ps, .agg xs] = some (.b true) := by
 obtain ⟨e, rfl, hw⟩ := NhD f cs h
 obtain ⟨l, rfl, rfl⟩ := Nhb hl hj
 obtain ⟨h1, h2, h3⟩ := hx
 simp only [Sh.width] at h1 h2 h3
 obtain ⟨x0, e1, -⟩ := NfJ h1
 obtain ⟨x1, e2, -⟩ := NfJ h2
 simp only [Sh.Is] at h3
 rw [e1, e2, h3]
 exact NfR hw hb
end Go.Pe
