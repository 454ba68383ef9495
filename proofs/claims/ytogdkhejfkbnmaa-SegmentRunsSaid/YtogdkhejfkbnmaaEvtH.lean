/-
  Events: a frame made, by the interpreter of plain data. No condition.
-/
import Derived.Test.YtogdkhejfkbnmaaEvtF
set_option linter.unusedVariables false
set_option linter.unusedSimpArgs false
namespace Go.Pe
open Go Go.Am Go.RowKit

def inEv : PV → List Ev → Prop
  | .nsl, l => l = []
  | .fsl n cs, l => n = l.length ∧ cs = evsC l
  | _, _ => False
def putE (acc : List UInt8) (x e : Ev) : List UInt8 := putL acc e.O x.T x.J x.A x.B e.T e.J e.A e.B
def putsL (acc : List UInt8) (x : Ev) : List Ev → List UInt8
  | [] => acc
  | e :: r => putsL (putE acc x e) e r
def bodyL (l : List Ev) : List UInt8 := putsL (varint l.length) .zero l
def frameL (l : List Ev) : List UInt8 := varint (bodyL l).length ++ sealB (bodyL l)
def frameV (l : List Ev) : PV := if l = [] then .tup [.nsl, .i .i64 2] else if 4096 < l.length then .tup [.nsl, .i .i64 3] else .tup [.osl 1 (frameL l).length (ofBytes (frameL l)), .i .i64 0]
theorem putE_len (acc : List UInt8) (x e : Ev) : (putE acc x e).length ≤ acc.length + 41 := by
  have h1 := dInt_len x.T e.T
  have h2 := dInt_len x.J e.J
  have h3 := dInt_len x.A e.A
  have h4 := dInt_len x.B e.B
  unfold putE putL
  simp only [List.length_append, List.length_singleton]
  omega
theorem putsL_len (l : List Ev) : ∀ (acc : List UInt8) (x : Ev), (putsL acc x l).length ≤ acc.length + 41 * l.length := by
  induction l with
  | nil => intro acc x; exact Nat.le_add_right _ _
  | cons e r ih =>
    intro acc x
    have h1 := ih (putE acc x e) e
    have h2 := putE_len acc x e
    have : putsL acc x (e :: r) = putsL (putE acc x e) e r := rfl
    rw [this, List.length_cons]
    omega
theorem inEv_len {v : PV} {l : List Ev} (h : inEv v l) : lenP v = some (.i .i64 l.length) := by
  cases v <;> simp only [inEv] at h
  · rw [h]; rfl
  · rw [← h.1]; rfl
theorem inEv_cons {v : PV} {l : List Ev} (h : inEv v l) (hl : l ≠ []) : v = .fsl l.length (evsC l) := by
  cases v <;> simp only [inEv] at h
  · exact absurd h hl
  · rw [h.1, h.2]
theorem evsC_drop : ∀ (l : List Ev) (i : Nat), (evsC l).drop (i * 5) = evsC (l.drop i)
  | l, 0 => by simp
  | [], i + 1 => by simp [evsC]
  | e :: r, i + 1 => by
    have h : evsC (e :: r) = evC e ++ evsC r := rfl
    rw [h, List.drop_succ_cons, ← evsC_drop r i, Nat.add_mul, Nat.one_mul, Nat.add_comm, ← List.drop_drop]
    rfl
theorem load_evs {st : St} {l : List Ev} {i : Nat} (hi : i < l.length) : loadP st 5 (.fptr ((evsC l).drop (i * 5))) = some (evC (l[i]'hi)) := by
  show cut? ((evsC l).drop (i * 5)) 0 5 = _
  rw [evsC_drop, List.drop_eq_getElem_cons hi]
  have h : evsC (l[i] :: l.drop (i + 1)) = evC l[i] ++ evsC (l.drop (i + 1)) := rfl
  rw [h]
  unfold cut?
  rw [if_pos (by rw [List.length_append, evC_len]; omega)]
  rfl
set_option maxHeartbeats 8000000 in
theorem frame_ev {cfg : Cfg} (hf : cfg.fn 32 = some m32) (hx1 : cfg.ext 34 = some gUint) (hx2 : cfg.ext 56 = some gPut) (hx3 : cfg.ext 31 = some gSeal) {fuel : Nat} (hfu : 4100 ≤ fuel) {v : PV} {l : List Ev} (hv : inEv v l) (hll : l.length ≤ 140737488355328) :
    ∃ r st', evFn cfg (fuel + 1) 32 [v] { sto := .leaf, cnt := 1 } = some (r, st') ∧ closeRes st' r = some (frameV l) := by
  refine evFn_W hf ?_
  unfold m32
  have hlen := inEv_len hv
  unfold frameV
  by_cases h1 : l = []
  · have e1 : ((l.length : Int) == Int.ofNat 0) = true := by rw [h1]; rfl
    rw [if_pos h1]
    simp only [putArgs, ↓Z0, ↓Xp, ↓Xt, Xq, Xc, binP, ofCells, Nat.reduceAdd, Nat.reduceMul, Nat.reduceLT, Nat.reduceEqDiff, reduceIte, Xm, Nat.reduceLeDiff, hlen, e1]
    refine ⟨nofun, _, rfl, ?_⟩
    simp only [tupV, ↓Z0, ↓Xp, ↓Xt, Xq, Xc, binP, ofCells, Nat.reduceAdd, Nat.reduceMul, Nat.reduceLT, Nat.reduceEqDiff, reduceIte]
    exact closeRes_tup rfl
  have hpos : 0 < l.length := List.length_pos_iff.2 h1
  have e1 : ((l.length : Int) == Int.ofNat 0) = false := by
    simp only [beq_eq_false_iff_ne, ne_eq]; intro q; have : (l.length : Int) = 0 := q; omega
  rw [if_neg h1]
  by_cases h2 : 4096 < l.length
  · have e2 : (l.length : Int) > Int.ofNat 4096 := by show (l.length : Int) > 4096; omega
    rw [if_pos h2]
    simp only [putArgs, ↓Z0, ↓Xp, ↓Xt, Xq, Xc, binP, ofCells, Nat.reduceAdd, Nat.reduceMul, Nat.reduceLT, Nat.reduceEqDiff, reduceIte, Xm, Nat.reduceLeDiff, hlen, e1, e2]
    refine ⟨nofun, _, rfl, ?_⟩
    simp only [tupV, ↓Z0, ↓Xp, ↓Xt, Xq, Xc, binP, ofCells, Nat.reduceAdd, Nat.reduceMul, Nat.reduceLT, Nat.reduceEqDiff, reduceIte]
    exact closeRes_tup rfl
  have e2 : ¬ (l.length : Int) > Int.ofNat 4096 := by show ¬ (l.length : Int) > 4096; omega
  rw [if_neg h2]
  have cU : ∀ (N : Nat) (st : St) (key : Nat), N < 18446744073709551616 → callStep (runPure cfg (evFn cfg fuel) 34) false st key [.nsl, .i .u64 (N : Int)] = some (.rsl key 1 0 (varint N).length, st.put key (some (.cells (ofBytes (varint N)) false))) := by
    intro N st key hN
    refine call_nil rfl ?_
    rw [runPure_ext hx1]
    unfold gUint outL
    simp only [Int.toNat_natCast]
    rw [if_pos ⟨by omega, by omega, by decide⟩]
    rfl
  have cP : ∀ (st : St) (key k : Nat) (acc : List UInt8) (x e : Ev), st.get k = some (.cells (ofBytes acc) false) → acc.length + 60 ≤ maxBytes → callStep (runPure cfg (evFn cfg fuel) 56) true st key [.rsl k 1 0 acc.length, .agg (evC x), .agg (evC e)] = some (.rsl key 1 0 (putE acc x e).length, (st.put k none).put key (some (.cells (ofBytes (putE acc x e)) false))) := by
    intro st key k acc x e hk hb
    refine call_own2 hk rfl rfl ?_
    rw [runPure_ext hx2]
    unfold gPut evC
    have ho : outL (.osl 1 acc.length (ofBytes acc)) = some acc := by
      unfold outL
      simp only [bytesOf_of, if_true]
    simp only [ho]
    have ht := e.O.toNat_lt
    rw [if_pos ⟨by omega, by omega, hb⟩]
    have hc : ((e.O.toNat : Int).toNat).toUInt8 = e.O := by simp
    rw [hc]
    rfl
  have hwl : IntKind.u64.wrap (l.length : Int) = (l.length : Int) := wr_u64 _ ⟨by omega, by omega⟩
  rw [Z0]
  simp only [putArgs, ↓Xp, ↓Xt, Xq, Xc, binP, ofCells, Nat.reduceAdd, Nat.reduceMul, Nat.reduceLT, Nat.reduceEqDiff, reduceIte]
  refine Za (fun x => x.env.get 0 = v ∧ ∃ c, x.st = ⟨.leaf, c⟩) ?_ ?_
  · simp only [↓Z0, ↓Xp, ↓Xt, Xq, Xc, binP, ofCells, Nat.reduceAdd, Nat.reduceMul, Nat.reduceLT, Nat.reduceEqDiff, reduceIte, Xm, Nat.reduceLeDiff, hlen, e1, e2]
    exact ⟨_, rfl⟩
  rintro ⟨env, st1⟩ ⟨g0, c, rfl⟩
  simp only at g0
  have cl := fun st key => cU l.length st key (by omega)
  rw [Z0]
  simp only [↓Xp, ↓Xt, Xq, Xc, binP, ofCells, Nat.reduceAdd, Nat.reduceMul, Nat.reduceLT, Nat.reduceEqDiff, reduceIte, Xm, Nat.reduceLeDiff, g0, hlen, hwl, cl]
  rw [Z0]
  simp only [↓Xp, ↓Xt, Xq, Xc, binP, ofCells, Nat.reduceAdd, Nat.reduceMul, Nat.reduceLT, Nat.reduceEqDiff, reduceIte, Xm, Nat.reduceLeDiff]
  -- the events one by one
  refine Za (fun x => ∃ kb, x.env.get 4 = .rsl kb 1 0 (bodyL l).length ∧ x.st.get kb = some (.cells (ofBytes (bodyL l)) false) ∧ kb < x.st.cnt) ?_ ?_
  · simp only [↓Z0, ↓Xp, ↓Xt, Xq, Xc, binP, ofCells, Nat.reduceAdd, Nat.reduceMul, Nat.reduceLT, Nat.reduceEqDiff, reduceIte, Xm, Nat.reduceLeDiff, Env.get_put, g0, hlen]
    refine Z9 (k := l.length - 0) (fun d x => ∃ (i : Nat) (acc : List UInt8) (X : Ev) (kb ka : Nat), i ≤ l.length ∧ d = l.length - i ∧ putsL acc X (l.drop i) = bodyL l ∧ acc.length ≤ 10 + 41 * i ∧ x.env.get 4 = .rsl kb 1 0 acc.length ∧ x.st.get kb = some (.cells (ofBytes acc) false) ∧ x.env.get 5 = .ptr ka 0 ∧ x.st.get ka = some (.cells (evC X) false) ∧ ka ≠ kb ∧ ka < x.st.cnt ∧ kb < x.st.cnt ∧ x.env.get 20 = v ∧ x.env.get 21 = .i .i64 l.length ∧ x.env.get 22 = .i .i64 i) ?_ ?_ (by omega)
    · rintro d ⟨env, ⟨sto, c⟩⟩ ⟨i, acc, X, kb, ka, hi, rfl, hp, hal, g4, hkb, g5, hka, hne, hkac, hkbc, g20, g21, g22⟩
      simp only at g4 hkb g5 hka hkac hkbc g20 g21 g22
      by_cases hlt : i < l.length
      · have hlti : ((i : Nat) : Int) < (l.length : Int) := by omega
        have h0i : 0 ≤ ((i : Nat) : Int) := by omega
        have hvf := inEv_cons hv h1
        have hln1 := evsC_len l
        have hld := fun n => load_evs (st := ⟨sto, n⟩) hlt
        rw [List.drop_eq_getElem_cons hlt] at hp
        generalize l[i]'hlt = e at *
        have hwi : IntKind.i64.wrap ((i : Int) + Int.ofNat 1) = ((i + 1 : Nat) : Int) := by
          rw [wr_i64 _ ⟨by show _ ≤ (i : Int) + 1; omega, by show (i : Int) + 1 < _; omega⟩]; rfl
        have hst := fun n => store_whole (st := (⟨sto, n⟩ : St).put (c + 24) (some (.cells [.i .i64 (Int.ofNat 0), .i .u8 (Int.ofNat 0), .i .i64 (Int.ofNat 0), .i .i64 (Int.ofNat 0), .i .i64 (Int.ofNat 0)] false))) (v := .agg (evC e)) (n := 5) (St.get_putk _ _ _) rfl rfl rfl
        have hce : (PV.agg (evC e)).cells = evC e := rfl
        simp only [hce] at hst
        simp only [↓Z0, ↓Xp, ↓Xt, Xq, Xc, binP, ofCells, Nat.reduceAdd, Nat.reduceMul, Nat.reduceLT, Nat.reduceEqDiff, reduceIte, g4, g5, g20, g21, g22, hlti, hvf, hln1, hld, evC_len, h0i, hst]
        obtain ⟨S1, hS1⟩ : ∃ S, ((⟨sto, c + 40⟩ : St).put (c + 24) (some (.cells [.i .i64 (Int.ofNat 0), .i .u8 (Int.ofNat 0), .i .i64 (Int.ofNat 0), .i .i64 (Int.ofNat 0), .i .i64 (Int.ofNat 0)] false))).put (c + 24) (some (.cells (evC e) false)) = S := ⟨_, rfl⟩
        have q7 : S1.get (c + 24) = some (.cells (evC e) false) := by rw [← hS1]; exact St.get_putk _ _ _
        have qc : S1.cnt = c + 40 := by rw [← hS1]; rfl
        have qf : ∀ j, j ≠ c + 24 → S1.get j = St.get ⟨sto, c⟩ j := by intro j hj; rw [← hS1, St.get_put_ne (fun e => hj e.symm), St.get_put_ne (fun e => hj e.symm)]; rfl
        simp only [hS1]
        have hld1 : loadP ⟨S1.sto, S1.cnt + 40⟩ 5 (.ptr ka 0) = some (evC X) := load_whole (st := ⟨S1.sto, S1.cnt + 40⟩) ((qf ka (by omega)).trans hka) rfl
        have hld2 : loadP ⟨S1.sto, S1.cnt + 40⟩ 5 (.ptr (c + 24) 0) = some (evC e) := load_whole (st := ⟨S1.sto, S1.cnt + 40⟩) q7 rfl
        have hcp := cP ⟨S1.sto, S1.cnt + 40⟩ (S1.cnt + 24) kb acc X e ((qf kb (by omega)).trans hkb) (by unfold maxBytes; omega)
        obtain ⟨S2, hS2⟩ : ∃ S, ((⟨S1.sto, S1.cnt + 40⟩ : St).put kb none).put (S1.cnt + 24) (some (.cells (ofBytes (putE acc X e)) false)) = S := ⟨_, rfl⟩
        rw [hS2] at hcp
        have rb : S2.get (S1.cnt + 24) = some (.cells (ofBytes (putE acc X e)) false) := by rw [← hS2]; exact St.get_putk _ _ _
        have rc : S2.cnt = c + 80 := by rw [← hS2]; show S1.cnt + 40 = _; omega
        have rf : ∀ j, j ≠ S1.cnt + 24 → j ≠ kb → S2.get j = S1.get j := by intro j hj hj2; rw [← hS2, St.get_put_ne (fun e => hj e.symm), St.get_put_ne (fun e => hj2 e.symm)]; rfl
        have hld3 : loadP ⟨S2.sto, S2.cnt + 16⟩ 5 (.ptr (c + 24) 0) = some (evC e) := load_whole (st := ⟨S2.sto, S2.cnt + 16⟩) ((rf (c + 24) (by omega) (by omega)).trans q7) rfl
        have hst2 := store_whole (st := ⟨S2.sto, S2.cnt + 16⟩) (k := ka) (v := .agg (evC e)) (n := 5) (((rf ka (by omega) hne).trans (qf ka (by omega))).trans hka) rfl rfl rfl
        simp only [hce] at hst2
        have hp' : putsL (putE acc X e) e (l.drop (i + 1)) = bodyL l := hp
        have hpl := putE_len acc X e
        simp only [↓Z0, ↓Xp, ↓Xt, Xq, Xc, binP, ofCells, Nat.reduceAdd, Nat.reduceMul, Nat.reduceLT, Nat.reduceEqDiff, reduceIte, hld1, hld2, hcp, hld3, hst2, hwi]
        refine ⟨l.length - (i + 1), by omega, i + 1, putE acc X e, e, S1.cnt + 24, ka, by omega, rfl, hp', by omega, rfl, ?_, rfl, ?_, by omega, ?_, ?_, rfl⟩
        · exact (St.get_put_ne (by omega)).trans rb
        · exact St.get_putk _ _ _
        · show ka < S2.cnt + 16 + 16
          omega
        · show S1.cnt + 24 < S2.cnt + 16 + 16
          omega
      · have hie : i = l.length := by omega
        subst hie
        have hni : ¬ ((l.length : Nat) : Int) < (l.length : Int) := Int.lt_irrefl _
        rw [List.drop_length] at hp
        have hp' : acc = bodyL l := hp
        subst hp'
        simp only [↓Z0, ↓Xp, ↓Xt, Xq, Xc, binP, ofCells, Nat.reduceAdd, Nat.reduceMul, Nat.reduceLT, Nat.reduceEqDiff, reduceIte, g4, g5, g20, g21, g22, hni]
        exact ⟨kb, rfl, hkb, Nat.lt_of_lt_of_le hkbc (Nat.le_add_right _ _)⟩
    · refine ⟨0, varint l.length, .zero, c + 24, c + 40, Nat.zero_le _, rfl, rfl, ?_, ?_, ?_, ?_, ?_, by omega, ?_, ?_, ?_, ?_, ?_⟩
      · have := varint_le l.length
        omega
      · simp [Env.get_put]
      · show (St.put ⟨(St.put ⟨.leaf, c + 40⟩ (c + 24) _).sto, c + 48⟩ (c + 40) _).get (c + 24) = _
        rw [St.get_put_ne (by omega)]
        show (St.put ⟨.leaf, c + 40⟩ (c + 24) _).get (c + 24) = _
        exact St.get_putk _ _ _
      · simp [Env.get_put]
      · exact St.get_putk _ _ _
      · show c + 40 < c + 72
        omega
      · show c + 24 < c + 72
        omega
      · simp [Env.get_put]
      · simp [Env.get_put]
      · simp [Env.get_put]
  rintro ⟨env, ⟨sto, c⟩⟩ ⟨kb, g4, hkb, hkbc⟩
  simp only at g4 hkb hkbc
  have hbl : (bodyL l).length ≤ 10 + 41 * l.length := by
    have q1 := putsL_len l (varint l.length) .zero
    have q2 := varint_le l.length
    unfold bodyL
    omega
  have cS : ∀ (st : St) (key : Nat), st.get kb = some (.cells (ofBytes (bodyL l)) false) → callStep (runPure cfg (evFn cfg fuel) 31) false st key [.rsl kb 1 0 (bodyL l).length] = some (.rsl key 1 0 (sealB (bodyL l)).length, st.put key (some (.cells (ofBytes (sealB (bodyL l))) false))) := by
    intro st key hk
    refine call_deep (ps' := [.fsl (bodyL l).length (ofBytes (bodyL l))]) ?_ ?_
    · have : deep st (10 + 1 + 1) (.rsl kb 1 0 (bodyL l).length) = some (.fsl (bodyL l).length (ofBytes (bodyL l))) := deep_bytesF 10 hk
      have e : deep st deepN (.rsl kb 1 0 (bodyL l).length) = some (.fsl (bodyL l).length (ofBytes (bodyL l))) := this
      show mapO (deep st deepN) [_] = _
      simp only [mapO, e]
    · rw [runPure_ext hx3]
      unfold gSeal
      simp only [in_fsl]
      rw [if_pos (by omega)]
  have hsl : (sealB (bodyL l)).length = (bodyL l).length + 4 := by
    unfold sealB be4
    simp
  have hvl := varint_le (bodyL l).length
  unfold frameL
  generalize bodyL l = B at *
  generalize sealB B = T at *
  have hwB : IntKind.u64.wrap (B.length : Int) = (B.length : Int) := wr_u64 _ ⟨by omega, by omega⟩
  have clB := fun st key => cU B.length st key (by omega)
  generalize varint B.length = U at *
  have hlB : lenP (.rsl kb 1 0 B.length) = some (.i .i64 B.length) := rfl
  obtain ⟨U1, hU1⟩ : ∃ S, (⟨sto, c + 72⟩ : St).put (c + 24) (some (.cells (ofBytes U) false)) = S := ⟨_, rfl⟩
  have q1 : U1.get (c + 24) = some (.cells (ofBytes U) false) := by rw [← hU1]; exact St.get_putk _ _ _
  have qb : U1.get kb = some (.cells (ofBytes B) false) := by rw [← hU1]; exact (St.get_put_ne (by omega)).trans hkb
  have clB' := clB ⟨sto, c + 72⟩ (c + 24)
  rw [hU1] at clB'
  obtain ⟨U2, hU2⟩ : ∃ S, U1.put (c + 40) (some (.cells (ofBytes T) false)) = S := ⟨_, rfl⟩
  have r1 : U2.get (c + 24) = some (.cells (ofBytes U) false) := by rw [← hU2]; exact (St.get_put_ne (by omega)).trans q1
  have r2 : U2.get (c + 40) = some (.cells (ofBytes T) false) := by rw [← hU2]; exact St.get_putk _ _ _
  have cS' := cS U1 (c + 40) qb
  rw [hU2] at cS'
  have hcl : cellsOf U2 1 (.rsl (c + 40) 1 0 T.length) = some (T.length, ofBytes T) := by
    unfold cellsOf
    simp only [r2, cut?, len_ofBytes, Nat.mul_one, Nat.zero_add, List.drop_zero]
    rw [if_pos (Nat.le_refl _), take_ofBytes, List.take_length]
    rfl
  have hoT := one_ofBytes T
  obtain ⟨U3, ha, hb, hc3⟩ := app_own (st := U2) (key := c + 48) (news := T) r1 (by unfold maxBytes; omega)
  simp only [↓Z0, ↓Xp, ↓Xt, Xq, Xc, binP, ofCells, Nat.reduceAdd, Nat.reduceMul, Nat.reduceLT, Nat.reduceEqDiff, reduceIte, g4, hlB, hwB, clB', cS', hcl, hoT, ha]
  refine ⟨nofun, _, rfl, ?_⟩
  simp only [tupV, ↓Z0, ↓Xp, ↓Xt, Xq, Xc, binP, ofCells, Nat.reduceAdd, Nat.reduceMul, Nat.reduceLT, Nat.reduceEqDiff, reduceIte]
  exact close_pair hb
def evsOf : List PV → Option (List Ev)
  | [] => some []
  | .i .i64 t :: .i .u8 o :: .i .i64 j :: .i .i64 a :: .i .i64 b :: r => if 0 ≤ o ∧ o < 256 then (evsOf r).map (⟨t, UInt8.ofNat o.toNat, j, a, b⟩ :: ·) else none
  | _ => none
theorem evsOf_evsC : ∀ l : List Ev, evsOf (evsC l) = some l
  | [] => rfl
  | e :: r => by
    have h : evsC (e :: r) = evC e ++ evsC r := rfl
    have ho := e.O.toNat_lt
    rw [h]
    unfold evC
    simp only [List.cons_append, List.nil_append]
    unfold evsOf
    rw [if_pos ⟨by omega, by omega⟩, evsOf_evsC r]
    simp
theorem evsOf_some (n : Nat) : ∀ {cs : List PV} {l : List Ev}, cs.length ≤ n → evsOf cs = some l → cs = evsC l := by
  induction n with
  | zero =>
    intro cs l hn h
    have : cs = [] := List.length_eq_zero_iff.1 (by omega)
    subst this
    simp only [evsOf, Option.some.injEq] at h
    rw [← h]; rfl
  | succ n ih =>
    intro cs l hn h
    unfold evsOf at h
    split at h
    · simp only [Option.some.injEq] at h
      rw [← h]; rfl
    · rename_i t o j a b r
      split at h
      · rename_i ho
        cases hr : evsOf r with
        | none => rw [hr] at h; simp at h
        | some m =>
          rw [hr] at h
          simp only [Option.map_some, Option.some.injEq] at h
          have := ih (by simp only [List.length_cons] at hn; omega) hr
          rw [← h, this]
          have h2 : (((UInt8.ofNat o.toNat).toNat : Nat) : Int) = o := by
            rw [UInt8.toNat_ofNat']; omega
          show _ = evC _ ++ evsC m
          unfold evC
          simp only [h2, List.cons_append, List.nil_append]
      · simp at h
    · simp at h
def gFrame : List PV → Option PV
  | [.nsl] => some (frameV [])
  | [.fsl n cs] => match evsOf cs with
    | some l => if n = l.length ∧ n ≤ 140737488355328 then some (frameV l) else none
    | none => none
  | _ => none
end Go.Pe
