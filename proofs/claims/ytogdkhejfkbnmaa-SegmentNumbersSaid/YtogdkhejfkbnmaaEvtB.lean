/-
  Events: an event read, by the interpreter of plain data. No condition.
-/
import Derived.Test.YtogdkhejfkbnmaaEvtZ
set_option linter.unusedVariables false
set_option linter.unusedSimpArgs false
namespace Go.Pe
open Go Go.Am Go.RowKit

def getSt (l : List UInt8) (a : Int) (s : Int × Int) : Int × Int × Int := if s.2 = 0 then (IntKind.i64.wrap (a + (getI l s.1).1), (getI l s.1).2.1, (getI l s.1).2.2) else (0, s.1, s.2)
theorem get1_ev {cfg : Cfg} (hf : cfg.fn 86 = some m86) (hx : cfg.ext 75 = some gGetI) {fuel : Nat} {st : St} {kb kv ka : Nat} {v : PV} {l : List UInt8} {a at0 bad : Int} (hv : inL v = some l) (hll : l.length ≤ 140737488355328) (hb : st.get kb = some (.cells [.i .i64 bad] false)) (hvv : st.get kv = some (.cells [v] false)) (ha : st.get ka = some (.cells [.i .i64 at0] false)) (hne : ka ≠ kb) :
    ∃ r st', evFn cfg (fuel + 1) 86 [.i .i64 a, .ptr kb 0, .ptr kv 0, .ptr ka 0] st = some (r, st') ∧ r = .i .i64 (getSt l a (at0, bad)).1 ∧ st'.get ka = some (.cells [.i .i64 (getSt l a (at0, bad)).2.1] false) ∧ st'.get kb = some (.cells [.i .i64 (getSt l a (at0, bad)).2.2] false) ∧ st.cnt ≤ st'.cnt ∧ ∀ j, j ≠ kb → j ≠ ka → st'.get j = st.get j := by
  refine evFn_W hf ?_
  unfold m86
  have hb' : ∀ n, St.get ⟨st.sto, n⟩ kb = some (.cells [.i .i64 bad] false) := fun _ => hb
  have hv' : ∀ n, St.get ⟨st.sto, n⟩ kv = some (.cells [v] false) := fun _ => hvv
  have ha' : ∀ n, St.get ⟨st.sto, n⟩ ka = some (.cells [.i .i64 at0] false) := fun _ => ha
  by_cases h0 : bad = 0
  · have e0 : (bad != Int.ofNat 0) = false := by rw [h0]; rfl
    have hg : getSt l a (at0, bad) = (IntKind.i64.wrap (a + (getI l at0).1), (getI l at0).2.1, (getI l at0).2.2) := by unfold getSt; rw [if_pos h0]
    rw [hg]
    have c1 : ∀ (st : St) (key : Nat), callStep (runPure cfg (evFn cfg fuel) 75) false st key [v, .i .i64 at0] = some (.tup [.i .i64 (getI l at0).1, .i .i64 (getI l at0).2.1, .i .i64 (getI l at0).2.2], st) := by
      intro st key
      refine callStep_flat (by simp only [List.all_cons, in_flat hv, List.all_nil, Bool.and_self, Bool.true_and]; rfl) ?_ rfl
      rw [runPure_ext hx]
      unfold gGetI
      simp only [hv]
      rw [if_pos hll]
      rfl
    generalize getI l at0 = p at *
    have hone : v.one = true := (in_one hv).1
    have hkab : (ka = kb) = False := by simp [hne]
    have hkba : (kb = ka) = False := by simp; exact fun e => hne e.symm
    simp only [putArgs, ↓Z0, ↓Xp, ↓Xt, Xq, Xc, binP, ofCells, Nat.reduceAdd, Nat.reduceMul, Nat.reduceLT, Nat.reduceEqDiff, reduceIte, Xm, Nat.reduceLeDiff, hb', hv', ha', e0, c1, hkab, hkba]
    refine ⟨nofun, _, rfl, ?_, by omega, ?_⟩
    · simp only [tupV, ↓Z0, ↓Xp, ↓Xt, Xq, Xc, binP, ofCells, Nat.reduceAdd, Nat.reduceMul, Nat.reduceLT, Nat.reduceEqDiff, reduceIte]
    · intro j h1 h2
      show (St.put (St.put _ ka _) kb _).get j = _
      rw [St.get_put_ne (fun e => h1 e.symm), St.get_put_ne (fun e => h2 e.symm)]; rfl
  · have e0 : (bad != Int.ofNat 0) = true := by simpa using h0
    have hg : getSt l a (at0, bad) = (0, at0, bad) := by unfold getSt; rw [if_neg h0]
    rw [hg]
    simp only [putArgs, ↓Z0, ↓Xp, ↓Xt, Xq, Xc, binP, ofCells, Nat.reduceAdd, Nat.reduceMul, Nat.reduceLT, Nat.reduceEqDiff, reduceIte, Xm, Nat.reduceLeDiff, hb', hv', ha', e0]
    refine ⟨nofun, _, rfl, ?_, by omega, fun j _ _ => trivial⟩
    simp only [tupV, ↓Z0, ↓Xp, ↓Xt, Xq, Xc, binP, ofCells, Nat.reduceAdd, Nat.reduceMul, Nat.reduceLT, Nat.reduceEqDiff, reduceIte]
    rfl
def zEv : List PV := [.i .i64 (.ofNat 0), .i .u8 (.ofNat 0), .i .i64 (.ofNat 0), .i .i64 (.ofNat 0), .i .i64 (.ofNat 0)]
structure GetI (x : Now) (v : PV) (A : List PV) (at0 bad : Int) (E : List PV) : Prop where
  e5 : x.env.get 5 = .ptr 17 0
  e6 : x.env.get 6 = .ptr 25 0
  e9 : x.env.get 9 = .ptr 201 0
  e10 : x.env.get 10 = .ptr 241 0
  e4 : x.env.get 4 = .ptr 9 0
  e11 : x.env.get 11 = .fn 86 [.ptr 241 0, .ptr 1 0, .ptr 9 0]
  g1 : x.st.get 1 = some (.cells [v] false)
  g9 : x.st.get 9 = some (.cells [.i .i64 at0] false)
  g17 : x.st.get 17 = some (.cells A false)
  g25 : x.st.get 25 = some (.cells zEv false)
  g201 : x.st.get 201 = some (.cells E false)
  g241 : x.st.get 241 = some (.cells [.i .i64 bad] false)
  cn : 257 ≤ x.st.cnt
  fr : ∀ j, x.st.cnt ≤ j → x.st.get j = none
structure GetO (x : Now) (v : PV) (A : List PV) (a : Int) (c : Nat) : Prop where
  e3 : x.env.get 3 = .ptr 1 0
  e4 : x.env.get 4 = .ptr 9 0
  e5 : x.env.get 5 = .ptr 17 0
  e6 : x.env.get 6 = .ptr 25 0
  g1 : x.st.get 1 = some (.cells [v] false)
  g9 : x.st.get 9 = some (.cells [.i .i64 a] false)
  g17 : x.st.get 17 = some (.cells A false)
  g25 : x.st.get 25 = some (.cells zEv false)
  cn : x.st.cnt = c
  fr : ∀ j, c ≤ j → x.st.get j = none
def getV (l : List UInt8) (at0 a0 a2 a3 a4 : Int) : PV :=
  if at0 < 0 ∨ (l.length : Int) < at0 then .tup [.agg zEv, .i .i64 0, .i .i64 2]
  else if at0 = l.length then .tup [.agg zEv, .i .i64 0, .i .i64 11]
  else
    let s1 := getSt l a0 (at0 + 1, 0)
    let s2 := getSt l a2 s1.2
    let s3 := getSt l a3 s2.2
    let s4 := getSt l a4 s3.2
    if s4.2.2 = 0 then .tup [.agg [.i .i64 s1.1, .i .u8 (l.getD at0.toNat 0).toNat, .i .i64 s2.1, .i .i64 s3.1, .i .i64 s4.1], .i .i64 s4.2.1, .i .i64 0]
    else .tup [.agg zEv, .i .i64 0, .i .i64 s4.2.2]
set_option maxHeartbeats 8000000 in
set_option maxRecDepth 100000 in
theorem get_ev {cfg : Cfg} (hf : cfg.fn 83 = some m83) (hf1 : cfg.fn 86 = some m86) (hx : cfg.ext 75 = some gGetI) (hx1 : cfg.ext 86 = none) {fuel : Nat} {v : PV} {l : List UInt8} {at0 a0 a1 a2 a3 a4 : Int} (hv : inL v = some l) (hll : l.length ≤ 140737488355328) :
    ∃ r st', evFn cfg (fuel + 1 + 1) 83 [v, .i .i64 at0, .agg [.i .i64 a0, .i .u8 a1, .i .i64 a2, .i .i64 a3, .i .i64 a4]] { sto := .leaf, cnt := 1 } = some (r, st') ∧ closeRes st' r = some (getV l at0 a0 a2 a3 a4) := by
  refine evFn_W hf ?_
  unfold m83
  obtain ⟨A, hA⟩ : ∃ A, A = [PV.i .i64 a0, .i .u8 a1, .i .i64 a2, .i .i64 a3, .i .i64 a4] := ⟨_, rfl⟩
  obtain ⟨hv1, hv2⟩ := in_one hv
  have hlen := in_len hv
  unfold getV
  by_cases h1 : at0 < 0
  · have e1 : at0 < Int.ofNat 0 := h1
    rw [if_pos (.inl h1)]
    simp only [putArgs, ↓Z0, ↓Xp, ↓Xt, Xq, Xc, binP, ofCells, Nat.reduceAdd, Nat.reduceMul, Nat.reduceLT, Nat.reduceEqDiff, reduceIte, Xm, Nat.reduceLeDiff, hv1, hv2, e1]
    refine ⟨nofun, [.agg zEv, .i .i64 0, .i .i64 2], ?_, rfl⟩
    simp only [mapO, resP, ↓Z0, ↓Xp, ↓Xt, Xq, Xc, binP, ofCells, Nat.reduceAdd, Nat.reduceMul, Nat.reduceLT, Nat.reduceEqDiff, reduceIte, Xm, Nat.reduceLeDiff]
    rfl
  have e1 : ¬ at0 < Int.ofNat 0 := h1
  by_cases h2 : (l.length : Int) < at0
  · have e2 : at0 > (l.length : Int) := h2
    rw [if_pos (.inr h2)]
    simp only [putArgs, ↓Z0, ↓Xp, ↓Xt, Xq, Xc, binP, ofCells, Nat.reduceAdd, Nat.reduceMul, Nat.reduceLT, Nat.reduceEqDiff, reduceIte, Xm, Nat.reduceLeDiff, hv1, hv2, e1, hlen, e2]
    refine ⟨nofun, [.agg zEv, .i .i64 0, .i .i64 2], ?_, rfl⟩
    simp only [mapO, resP, ↓Z0, ↓Xp, ↓Xt, Xq, Xc, binP, ofCells, Nat.reduceAdd, Nat.reduceMul, Nat.reduceLT, Nat.reduceEqDiff, reduceIte, Xm, Nat.reduceLeDiff]
    rfl
  have e2 : ¬ at0 > (l.length : Int) := h2
  rw [if_neg (by omega)]
  by_cases h3 : at0 = l.length
  · have e3 : (at0 == (l.length : Int)) = true := by simpa using h3
    rw [if_pos h3]
    simp only [putArgs, ↓Z0, ↓Xp, ↓Xt, Xq, Xc, binP, ofCells, Nat.reduceAdd, Nat.reduceMul, Nat.reduceLT, Nat.reduceEqDiff, reduceIte, Xm, Nat.reduceLeDiff, hv1, hv2, e1, hlen, e2, e3]
    refine ⟨nofun, [.agg zEv, .i .i64 0, .i .i64 11], ?_, rfl⟩
    simp only [mapO, resP, ↓Z0, ↓Xp, ↓Xt, Xq, Xc, binP, ofCells, Nat.reduceAdd, Nat.reduceMul, Nat.reduceLT, Nat.reduceEqDiff, reduceIte, Xm, Nat.reduceLeDiff]
    rfl
  have e3 : (at0 == (l.length : Int)) = false := by simpa using h3
  rw [if_neg h3]
  obtain ⟨k, hk⟩ : ∃ k : Nat, at0 = k := ⟨at0.toNat, by omega⟩
  subst hk
  have hlt : k < l.length := by omega
  have hne : l ≠ [] := by intro e; rw [e] at hlt; simp at hlt
  simp only [Int.toNat_natCast]
  obtain ⟨op, hop⟩ : ∃ op, l.getD k 0 = op := ⟨_, rfl⟩
  rw [hop]
  obtain ⟨at1, hat1⟩ : ∃ at1 : Int, (k : Int) + 1 = at1 := ⟨_, rfl⟩
  rw [hat1]
  generalize hs1 : getSt l a0 (at1, 0) = s1
  generalize hs2 : getSt l a2 s1.2 = s2
  generalize hs3 : getSt l a3 s2.2 = s3
  generalize hs4 : getSt l a4 s3.2 = s4
  refine Za (fun x => GetO x v A (k : Int) 49) ?_ ?_
  · simp only [putArgs, ↓Z0, ↓Xp, ↓Xt, Xq, Xc, binP, ofCells, Nat.reduceAdd, Nat.reduceMul, Nat.reduceLT, Nat.reduceEqDiff, reduceIte, Xm, Nat.reduceLeDiff, hv1, hv2]
    refine ⟨by simp [Env.get_put], by simp [Env.get_put], by simp [Env.get_put], by simp [Env.get_put], ?_, ?_, ?_, ?_, rfl, ?_⟩
    · show (St.put (St.put (St.put (St.put _ 1 _) 9 _) 17 _) 25 _).get 1 = _
      rw [St.get_put_ne (by decide), St.get_put_ne (by decide), St.get_put_ne (by decide), St.get_putk]
    · show (St.put (St.put (St.put (St.put _ 1 _) 9 _) 17 _) 25 _).get 9 = _
      rw [St.get_put_ne (by decide), St.get_put_ne (by decide), St.get_putk]
    · show (St.put (St.put (St.put (St.put _ 1 _) 9 _) 17 _) 25 _).get 17 = _
      rw [St.get_put_ne (by decide), St.get_putk, hA]
    · show (St.put (St.put (St.put (St.put _ 1 _) 9 _) 17 _) 25 _).get 25 = _
      rw [St.get_putk]; rfl
    · intro j hj
      show (St.put (St.put (St.put (St.put _ 1 _) 9 _) 17 _) 25 _).get j = _
      rw [St.get_put_ne (by omega), St.get_put_ne (by omega), St.get_put_ne (by omega), St.get_put_ne (by omega)]; rfl
  rintro ⟨env, ⟨sto, c⟩⟩ H
  refine Za (fun x => GetO x v A (k : Int) 161) ?_ ?_
  · have h3 := H.e3; have h4 := H.e4; have h6 := H.e6; have k1 := H.g1; have k9 := H.g9; have hc := H.cn
    simp only at h3 h4 h6 k1 k9 hc
    subst hc
    have k1' : ∀ n, St.get ⟨sto, n⟩ 1 = some (.cells [v] false) := fun _ => k1
    have k9' : ∀ n, St.get ⟨sto, n⟩ 9 = some (.cells [.i .i64 (k : Int)] false) := fun _ => k9
    simp only [↓Z0, ↓Xp, ↓Xt, Xq, Xc, binP, ofCells, Nat.reduceAdd, Nat.reduceMul, Nat.reduceLT, Nat.reduceEqDiff, reduceIte, Xm, Nat.reduceLeDiff, h3, h4, k1', k9', e1, hlen, e2, e3]
    exact ⟨by simp [Env.get_put, h3], by simp [Env.get_put, h4], by simp [Env.get_put, H.e5], by simp [Env.get_put, h6], k1, k9, H.g17, H.g25, rfl, fun j hj => H.fr j (by omega)⟩
  clear H
  rintro ⟨env, ⟨sto, c⟩⟩ H
  refine Za (fun x => (GetO ⟨x.env, x.st.put 201 none⟩ v A (k : Int) 217 ∧ x.env.get 9 = .ptr 201 0 ∧ x.st.get 201 = some (.cells [.i .i64 (.ofNat 0), .i .u8 op.toNat, .i .i64 (.ofNat 0), .i .i64 (.ofNat 0), .i .i64 (.ofNat 0)] false))) ?_ ?_
  · have h3 := H.e3; have h4 := H.e4; have k1 := H.g1; have k9 := H.g9; have hc := H.cn
    simp only at h3 h4 k1 k9 hc
    subst hc
    have k1' : ∀ n, St.get ⟨sto, n⟩ 1 = some (.cells [v] false) := fun _ => k1
    have k9' : ∀ n, St.get ⟨sto, n⟩ 9 = some (.cells [.i .i64 (k : Int)] false) := fun _ => k9
    have hvf := in_cons hv hne
    have hld := fun c => load_in (st := ⟨sto, c⟩) hlt
    simp only [hop] at hld
    have hlti : ((k : Nat) : Int) < ((l.length : Nat) : Int) := by omega
    have h0k : 0 ≤ ((k : Nat) : Int) := by omega
    have hln1 : (ofBytes l).length = l.length * 1 := by rw [len_ofBytes, Nat.mul_one]
    rw [hvf] at k1'
    simp only [↓Z0, ↓Xp, ↓Xt, Xq, Xc, binP, ofCells, Nat.reduceAdd, Nat.reduceMul, Nat.reduceLT, Nat.reduceEqDiff, reduceIte, Xm, Nat.reduceLeDiff, h3, h4, k1', k9', hlti, h0k, hln1, hld]
    refine ⟨by simp [Env.get_put, h3], by simp [Env.get_put, h4], by simp [Env.get_put, H.e5], by simp [Env.get_put, H.e6], ?_, ?_, ?_, ?_, rfl, ?_⟩
    · show (St.put (St.put (St.put _ 201 _) 201 _) 201 _).get 1 = _
      rw [St.get_put_ne (by decide), St.get_put_ne (by decide), St.get_put_ne (by decide)]; exact k1
    · show (St.put (St.put (St.put _ 201 _) 201 _) 201 _).get 9 = _
      rw [St.get_put_ne (by decide), St.get_put_ne (by decide), St.get_put_ne (by decide)]; exact k9
    · show (St.put (St.put (St.put _ 201 _) 201 _) 201 _).get 17 = _
      rw [St.get_put_ne (by decide), St.get_put_ne (by decide), St.get_put_ne (by decide)]; exact H.g17
    · show (St.put (St.put (St.put _ 201 _) 201 _) 201 _).get 25 = _
      rw [St.get_put_ne (by decide), St.get_put_ne (by decide), St.get_put_ne (by decide)]; exact H.g25
    · intro j hj
      show (St.put (St.put (St.put _ 201 _) 201 _) 201 _).get j = _
      rw [St.get_put_ne (by omega), St.get_put_ne (by omega), St.get_put_ne (by omega)]; exact H.fr j (by omega)
  clear H
  rintro ⟨env, ⟨sto, c⟩⟩ ⟨HO, h9, k201⟩
  simp only at h9 k201
  have hc : c = 217 := HO.cn
  subst hc
  have k1 : St.get ⟨sto, 217⟩ 1 = some (.cells [v] false) := by have := HO.g1; simp only at this; rwa [St.get_put_ne (by decide)] at this
  have k9 : ∀ n, St.get ⟨sto, n⟩ 9 = some (.cells [.i .i64 (k : Int)] false) := by intro n; have := HO.g9; simp only at this; rwa [St.get_put_ne (by decide)] at this
  have k17 : St.get ⟨sto, 217⟩ 17 = some (.cells A false) := by have := HO.g17; simp only at this; rwa [St.get_put_ne (by decide)] at this
  have k25 : St.get ⟨sto, 217⟩ 25 = some (.cells zEv false) := by have := HO.g25; simp only at this; rwa [St.get_put_ne (by decide)] at this
  have fr : ∀ j, 217 ≤ j → St.get ⟨sto, 217⟩ j = none := by intro j hj; have := HO.fr j hj; simp only at this; rwa [St.get_put_ne (by omega)] at this
  have h3 := HO.e3; have h4 := HO.e4; have h5 := HO.e5; have h6 := HO.e6
  simp only at h3 h4 h5 h6
  have hw : IntKind.i64.wrap ((k : Int) + Int.ofNat 1) = at1 := by
    rw [wr_i64 _ ⟨by show _ ≤ (k : Int) + 1; omega, by show (k : Int) + 1 < _; omega⟩]; exact hat1
  refine Za (fun x => x.env = env ∧ ∃ o, o = some (PObj.cells [.i .i64 at1] false) ∧ x.st = (⟨sto, 241⟩ : St).put 9 o) ?_ ?_
  · simp only [↓Z0, ↓Xp, ↓Xt, Xq, Xc, binP, ofCells, Nat.reduceAdd, Nat.reduceMul, Nat.reduceLT, Nat.reduceEqDiff, reduceIte, Xm, Nat.reduceLeDiff, h4, k9, hw]
    exact ⟨_, rfl, rfl⟩
  rintro ⟨env', st1⟩ ⟨rfl, o9, ho9, rfl⟩
  refine Za (fun x => x.env = env'.put 10 (.ptr 241 0) ∧ x.st = ((⟨((⟨sto, 241⟩ : St).put 9 o9).sto, 257⟩ : St).put 241 (some (.cells [.i .i64 (.ofNat 0)] false))).put 241 (some (.cells [.i .i64 (.ofNat 0)] false))) ?_ ?_
  · simp only [↓Z0, ↓Xp, ↓Xt, Xq, Xc, binP, ofCells, Nat.reduceAdd, Nat.reduceMul, Nat.reduceLT, Nat.reduceEqDiff, reduceIte, Xm, Nat.reduceLeDiff]
    (repeat' (first | exact True.intro | rfl | assumption | omega | apply And.intro))
  rintro ⟨env'', st1⟩ ⟨rfl, rfl⟩
  refine Za (fun x => GetI x v A at1 0 [.i .i64 (.ofNat 0), .i .u8 op.toNat, .i .i64 (.ofNat 0), .i .i64 (.ofNat 0), .i .i64 (.ofNat 0)]) ?_ ?_
  · simp only [↓Z0, ↓Xp, ↓Xt, Xq, Xc, binP, ofCells, Nat.reduceAdd, Nat.reduceMul, Nat.reduceLT, Nat.reduceEqDiff, reduceIte, Xm, Nat.reduceLeDiff, Env.get_put, h3, h4]
    refine ⟨by simp [Env.get_put, h5], by simp [Env.get_put, h6], by simp [Env.get_put, h9], by simp [Env.get_put], by simp [Env.get_put, h4], by simp [Env.get_put], ?_, ?_, ?_, ?_, ?_, ?_, ?_, ?_⟩
    · show (St.put (St.put (⟨((⟨sto, 241⟩ : St).put 9 o9).sto, _⟩ : St) 241 _) 241 _).get 1 = _
      rw [St.get_put_ne (by decide), St.get_put_ne (by decide)]
      show ((⟨sto, 241⟩ : St).put 9 o9).get 1 = _
      rw [St.get_put_ne (by decide)]; exact k1
    · show (St.put (St.put (⟨((⟨sto, 241⟩ : St).put 9 o9).sto, _⟩ : St) 241 _) 241 _).get 9 = _
      rw [St.get_put_ne (by decide), St.get_put_ne (by decide)]
      show ((⟨sto, 241⟩ : St).put 9 o9).get 9 = _
      rw [St.get_putk]; exact ho9
    · show (St.put (St.put (⟨((⟨sto, 241⟩ : St).put 9 o9).sto, _⟩ : St) 241 _) 241 _).get 17 = _
      rw [St.get_put_ne (by decide), St.get_put_ne (by decide)]
      show ((⟨sto, 241⟩ : St).put 9 o9).get 17 = _
      rw [St.get_put_ne (by decide)]; exact k17
    · show (St.put (St.put (⟨((⟨sto, 241⟩ : St).put 9 o9).sto, _⟩ : St) 241 _) 241 _).get 25 = _
      rw [St.get_put_ne (by decide), St.get_put_ne (by decide)]
      show ((⟨sto, 241⟩ : St).put 9 o9).get 25 = _
      rw [St.get_put_ne (by decide)]; exact k25
    · show (St.put (St.put (⟨((⟨sto, 241⟩ : St).put 9 o9).sto, _⟩ : St) 241 _) 241 _).get 201 = _
      rw [St.get_put_ne (by decide), St.get_put_ne (by decide)]
      show ((⟨sto, 241⟩ : St).put 9 o9).get 201 = _
      rw [St.get_put_ne (by decide)]; exact k201
    · show (St.put (St.put (⟨((⟨sto, 241⟩ : St).put 9 o9).sto, _⟩ : St) 241 _) 241 _).get 241 = _
      rw [St.get_putk]; rfl
    · show 257 ≤ 273; omega
    · intro j hj
      have hj' : 273 ≤ j := hj
      show (St.put (St.put (⟨((⟨sto, 241⟩ : St).put 9 o9).sto, _⟩ : St) 241 _) 241 _).get j = _
      rw [St.get_put_ne (by omega), St.get_put_ne (by omega)]
      show ((⟨sto, 241⟩ : St).put 9 o9).get j = _
      rw [St.get_put_ne (by omega)]; exact fr j (by omega)
  clear HO h3 h4 h5 h6 h9 k1 k9 k17 k25 k201 fr
  rintro ⟨env, st1⟩ H
  refine Za (fun x => GetI x v A (s1).2.1 (s1).2.2 [.i .i64 (s1).1, .i .u8 op.toNat, .i .i64 (.ofNat 0), .i .i64 (.ofNat 0), .i .i64 (.ofNat 0)]) ?_ ?_
  · have h5 := H.e5; have h9 := H.e9; have h11 := H.e11; have k1 := H.g1; have k9 := H.g9; have k17 := H.g17; have k241 := H.g241; have k201 := H.g201; have hcn := H.cn; have hfr := H.fr
    simp only at h5 h9 h11 k1 k9 k17 k241 k201 hcn hfr
    rw [hA] at k17
    simp only [↓Z0, ↓Xp, ↓Xt, Xq, Xc, binP, ofCells, Nat.reduceAdd, Nat.reduceMul, Nat.reduceLT, Nat.reduceEqDiff, reduceIte, Xm, Nat.reduceLeDiff, h5, h9, h11, k17, hx1]
    refine Z0o_ (get1_ev (st := ⟨st1.sto, st1.cnt + 48⟩) (kb := 241) (kv := 1) (ka := 9) (a := a0) hf1 hx hv hll k241 k1 k9 (by decide)) ?_
    rintro r st' ⟨hr, i1, i2, i3, i4⟩
    have hq1 : getSt l a0 (at1, 0) = s1 := hs1
    rw [hq1] at hr i1 i2
    subst hr
    have j201 : st'.get 201 = some (.cells [.i .i64 (.ofNat 0), .i .u8 op.toNat, .i .i64 (.ofNat 0), .i .i64 (.ofNat 0), .i .i64 (.ofNat 0)] false) := by rw [i4 201 (by decide) (by decide)]; exact k201
    simp only [↓Z0, ↓Xp, ↓Xt, Xq, Xc, binP, ofCells, Nat.reduceAdd, Nat.reduceMul, Nat.reduceLT, Nat.reduceEqDiff, reduceIte, Xm, Nat.reduceLeDiff, h9, j201]
    simp only at i3
    have gne : ∀ j, j ≠ 201 → ∀ (o : Option PObj), (st'.put 201 o).get j = st'.get j := fun j hj o => St.get_put_ne (fun e => hj e.symm)
    refine ⟨h5, H.e6, h9, H.e10, H.e4, h11, ?_, ?_, ?_, ?_, St.get_putk _ _ _, ?_, ?_, ?_⟩
    · simp only; rw [gne 1 (by decide), i4 1 (by decide) (by decide)]; exact k1
    · simp only; rw [gne 9 (by decide)]; exact i1
    · simp only; rw [gne 17 (by decide), i4 17 (by decide) (by decide), hA]; exact k17
    · simp only; rw [gne 25 (by decide), i4 25 (by decide) (by decide)]; exact H.g25
    · simp only; rw [gne 241 (by decide)]; exact i2
    · show 257 ≤ st'.cnt; omega
    · intro j hj
      have hj' : st'.cnt ≤ j := hj
      show (st'.put 201 _).get j = none
      rw [gne j (by omega), i4 j (by omega) (by omega)]
      exact hfr j (by omega)
  clear H
  rintro ⟨env, st1⟩ H
  refine Za (fun x => GetI x v A (s2).2.1 (s2).2.2 [.i .i64 (s1).1, .i .u8 op.toNat, .i .i64 (s2).1, .i .i64 (.ofNat 0), .i .i64 (.ofNat 0)]) ?_ ?_
  · have h5 := H.e5; have h9 := H.e9; have h11 := H.e11; have k1 := H.g1; have k9 := H.g9; have k17 := H.g17; have k241 := H.g241; have k201 := H.g201; have hcn := H.cn; have hfr := H.fr
    simp only at h5 h9 h11 k1 k9 k17 k241 k201 hcn hfr
    rw [hA] at k17
    simp only [↓Z0, ↓Xp, ↓Xt, Xq, Xc, binP, ofCells, Nat.reduceAdd, Nat.reduceMul, Nat.reduceLT, Nat.reduceEqDiff, reduceIte, Xm, Nat.reduceLeDiff, h5, h9, h11, k17, hx1]
    refine Z0o_ (get1_ev (st := ⟨st1.sto, st1.cnt + 48⟩) (kb := 241) (kv := 1) (ka := 9) (a := a2) hf1 hx hv hll k241 k1 k9 (by decide)) ?_
    rintro r st' ⟨hr, i1, i2, i3, i4⟩
    have hq2 : getSt l a2 (s1.2.1, s1.2.2) = s2 := hs2
    rw [hq2] at hr i1 i2
    subst hr
    have j201 : st'.get 201 = some (.cells [.i .i64 (s1).1, .i .u8 op.toNat, .i .i64 (.ofNat 0), .i .i64 (.ofNat 0), .i .i64 (.ofNat 0)] false) := by rw [i4 201 (by decide) (by decide)]; exact k201
    simp only [↓Z0, ↓Xp, ↓Xt, Xq, Xc, binP, ofCells, Nat.reduceAdd, Nat.reduceMul, Nat.reduceLT, Nat.reduceEqDiff, reduceIte, Xm, Nat.reduceLeDiff, h9, j201]
    simp only at i3
    have gne : ∀ j, j ≠ 201 → ∀ (o : Option PObj), (st'.put 201 o).get j = st'.get j := fun j hj o => St.get_put_ne (fun e => hj e.symm)
    refine ⟨h5, H.e6, h9, H.e10, H.e4, h11, ?_, ?_, ?_, ?_, St.get_putk _ _ _, ?_, ?_, ?_⟩
    · simp only; rw [gne 1 (by decide), i4 1 (by decide) (by decide)]; exact k1
    · simp only; rw [gne 9 (by decide)]; exact i1
    · simp only; rw [gne 17 (by decide), i4 17 (by decide) (by decide), hA]; exact k17
    · simp only; rw [gne 25 (by decide), i4 25 (by decide) (by decide)]; exact H.g25
    · simp only; rw [gne 241 (by decide)]; exact i2
    · show 257 ≤ st'.cnt; omega
    · intro j hj
      have hj' : st'.cnt ≤ j := hj
      show (st'.put 201 _).get j = none
      rw [gne j (by omega), i4 j (by omega) (by omega)]
      exact hfr j (by omega)
  clear H
  rintro ⟨env, st1⟩ H
  refine Za (fun x => GetI x v A (s3).2.1 (s3).2.2 [.i .i64 (s1).1, .i .u8 op.toNat, .i .i64 (s2).1, .i .i64 (s3).1, .i .i64 (.ofNat 0)]) ?_ ?_
  · have h5 := H.e5; have h9 := H.e9; have h11 := H.e11; have k1 := H.g1; have k9 := H.g9; have k17 := H.g17; have k241 := H.g241; have k201 := H.g201; have hcn := H.cn; have hfr := H.fr
    simp only at h5 h9 h11 k1 k9 k17 k241 k201 hcn hfr
    rw [hA] at k17
    simp only [↓Z0, ↓Xp, ↓Xt, Xq, Xc, binP, ofCells, Nat.reduceAdd, Nat.reduceMul, Nat.reduceLT, Nat.reduceEqDiff, reduceIte, Xm, Nat.reduceLeDiff, h5, h9, h11, k17, hx1]
    refine Z0o_ (get1_ev (st := ⟨st1.sto, st1.cnt + 48⟩) (kb := 241) (kv := 1) (ka := 9) (a := a3) hf1 hx hv hll k241 k1 k9 (by decide)) ?_
    rintro r st' ⟨hr, i1, i2, i3, i4⟩
    have hq3 : getSt l a3 (s2.2.1, s2.2.2) = s3 := hs3
    rw [hq3] at hr i1 i2
    subst hr
    have j201 : st'.get 201 = some (.cells [.i .i64 (s1).1, .i .u8 op.toNat, .i .i64 (s2).1, .i .i64 (.ofNat 0), .i .i64 (.ofNat 0)] false) := by rw [i4 201 (by decide) (by decide)]; exact k201
    simp only [↓Z0, ↓Xp, ↓Xt, Xq, Xc, binP, ofCells, Nat.reduceAdd, Nat.reduceMul, Nat.reduceLT, Nat.reduceEqDiff, reduceIte, Xm, Nat.reduceLeDiff, h9, j201]
    simp only at i3
    have gne : ∀ j, j ≠ 201 → ∀ (o : Option PObj), (st'.put 201 o).get j = st'.get j := fun j hj o => St.get_put_ne (fun e => hj e.symm)
    refine ⟨h5, H.e6, h9, H.e10, H.e4, h11, ?_, ?_, ?_, ?_, St.get_putk _ _ _, ?_, ?_, ?_⟩
    · simp only; rw [gne 1 (by decide), i4 1 (by decide) (by decide)]; exact k1
    · simp only; rw [gne 9 (by decide)]; exact i1
    · simp only; rw [gne 17 (by decide), i4 17 (by decide) (by decide), hA]; exact k17
    · simp only; rw [gne 25 (by decide), i4 25 (by decide) (by decide)]; exact H.g25
    · simp only; rw [gne 241 (by decide)]; exact i2
    · show 257 ≤ st'.cnt; omega
    · intro j hj
      have hj' : st'.cnt ≤ j := hj
      show (st'.put 201 _).get j = none
      rw [gne j (by omega), i4 j (by omega) (by omega)]
      exact hfr j (by omega)
  clear H
  rintro ⟨env, st1⟩ H
  refine Za (fun x => GetI x v A (s4).2.1 (s4).2.2 [.i .i64 (s1).1, .i .u8 op.toNat, .i .i64 (s2).1, .i .i64 (s3).1, .i .i64 (s4).1]) ?_ ?_
  · have h5 := H.e5; have h9 := H.e9; have h11 := H.e11; have k1 := H.g1; have k9 := H.g9; have k17 := H.g17; have k241 := H.g241; have k201 := H.g201; have hcn := H.cn; have hfr := H.fr
    simp only at h5 h9 h11 k1 k9 k17 k241 k201 hcn hfr
    rw [hA] at k17
    simp only [↓Z0, ↓Xp, ↓Xt, Xq, Xc, binP, ofCells, Nat.reduceAdd, Nat.reduceMul, Nat.reduceLT, Nat.reduceEqDiff, reduceIte, Xm, Nat.reduceLeDiff, h5, h9, h11, k17, hx1]
    refine Z0o_ (get1_ev (st := ⟨st1.sto, st1.cnt + 48⟩) (kb := 241) (kv := 1) (ka := 9) (a := a4) hf1 hx hv hll k241 k1 k9 (by decide)) ?_
    rintro r st' ⟨hr, i1, i2, i3, i4⟩
    have hq4 : getSt l a4 (s3.2.1, s3.2.2) = s4 := hs4
    rw [hq4] at hr i1 i2
    subst hr
    have j201 : st'.get 201 = some (.cells [.i .i64 (s1).1, .i .u8 op.toNat, .i .i64 (s2).1, .i .i64 (s3).1, .i .i64 (.ofNat 0)] false) := by rw [i4 201 (by decide) (by decide)]; exact k201
    simp only [↓Z0, ↓Xp, ↓Xt, Xq, Xc, binP, ofCells, Nat.reduceAdd, Nat.reduceMul, Nat.reduceLT, Nat.reduceEqDiff, reduceIte, Xm, Nat.reduceLeDiff, h9, j201]
    simp only at i3
    have gne : ∀ j, j ≠ 201 → ∀ (o : Option PObj), (st'.put 201 o).get j = st'.get j := fun j hj o => St.get_put_ne (fun e => hj e.symm)
    refine ⟨h5, H.e6, h9, H.e10, H.e4, h11, ?_, ?_, ?_, ?_, St.get_putk _ _ _, ?_, ?_, ?_⟩
    · simp only; rw [gne 1 (by decide), i4 1 (by decide) (by decide)]; exact k1
    · simp only; rw [gne 9 (by decide)]; exact i1
    · simp only; rw [gne 17 (by decide), i4 17 (by decide) (by decide), hA]; exact k17
    · simp only; rw [gne 25 (by decide), i4 25 (by decide) (by decide)]; exact H.g25
    · simp only; rw [gne 241 (by decide)]; exact i2
    · show 257 ≤ st'.cnt; omega
    · intro j hj
      have hj' : st'.cnt ≤ j := hj
      show (st'.put 201 _).get j = none
      rw [gne j (by omega), i4 j (by omega) (by omega)]
      exact hfr j (by omega)
  clear H
  rintro ⟨env, st1⟩ H
  have h6 := H.e6; have h9 := H.e9; have h10 := H.e10; have h4 := H.e4; have k9 := H.g9; have k25 := H.g25; have k201 := H.g201; have k241 := H.g241; have hcn := H.cn; have hfr := H.fr
  simp only at h6 h9 h10 h4 k9 k25 k201 k241 hcn hfr
  have k241' : ∀ n, St.get ⟨st1.sto, n⟩ 241 = some (.cells [.i .i64 s4.2.2] false) := fun _ => k241
  by_cases hbad : s4.2.2 = 0
  · have eb : (s4.2.2 != Int.ofNat 0) = false := by rw [hbad]; rfl
    rw [if_pos hbad]
    refine Za (fun x => x.env = env.put 57 (.b false) ∧ x.st = ⟨st1.sto, st1.cnt + 16⟩) ?_ ?_
    · simp only [↓Z0, ↓Xp, ↓Xt, Xq, Xc, binP, ofCells, Nat.reduceAdd, Nat.reduceMul, Nat.reduceLT, Nat.reduceEqDiff, reduceIte, Xm, Nat.reduceLeDiff, h10, k241', eb]
    rintro ⟨env', st'⟩ ⟨rfl, rfl⟩
    rw [Z0]
    refine cb_chain (env := env.put 57 (.b false)) (st := ⟨st1.sto, st1.cnt + 16⟩) (kr := 25) (ke := 201) (ka := 9) (E := [.i .i64 s1.1, .i .u8 op.toNat, .i .i64 s2.1, .i .i64 s3.1, .i .i64 s4.1]) (R := zEv) (a := s4.2.1) rfl rfl (by simp [Env.get_put, h9]) k201 (by simp [Env.get_put, h6]) k25 rfl (by simp [Env.get_put, h4]) k9 (fun j hj => hfr j (Nat.le_trans (Nat.le_add_right _ _) hj)) (by decide) (by show 9 < st1.cnt + 16; omega) (by show 25 < st1.cnt + 16; omega) ?_
    simp only [↓Z0, ↓Xp, ↓Xt, Xq, Xc, binP, ofCells, Nat.reduceAdd, Nat.reduceMul, Nat.reduceLT, Nat.reduceEqDiff, reduceIte]
    refine ⟨nofun, [.agg [.i .i64 s1.1, .i .u8 op.toNat, .i .i64 s2.1, .i .i64 s3.1, .i .i64 s4.1], .i .i64 s4.2.1, .i .i64 0], ?_, rfl⟩
    have hl : loadP (cbs2 ⟨st1.sto, st1.cnt + 16⟩ 25 [.i .i64 s1.1, .i .u8 op.toNat, .i .i64 s2.1, .i .i64 s3.1, .i .i64 s4.1]) 5 (.ptr 25 0) = some [.i .i64 s1.1, .i .u8 op.toNat, .i .i64 s2.1, .i .i64 s3.1, .i .i64 s4.1] := load_whole (St.get_putk _ _ _) rfl
    simp only [mapO, resP, Env.get_put, Nat.reduceEqDiff, reduceIte, h6, hl, ofCells, if_true]
    rfl
  · have eb : (s4.2.2 != Int.ofNat 0) = true := by simpa using hbad
    rw [if_neg hbad]
    rw [Z0, Z0]
    simp only [↓Xp, ↓Xt, Xq, Xc, binP, ofCells, Nat.reduceAdd, Nat.reduceMul, Nat.reduceLT, Nat.reduceEqDiff, reduceIte, Xm, Nat.reduceLeDiff, h10, k241', eb]
    rw [Z0]
    refine ca_chain (env := env.put 57 (.b true)) (st := ⟨st1.sto, st1.cnt + 16⟩) (kr := 25) (ka := 241) (E := zEv) (R := zEv) (a := s4.2.2) rfl rfl trivial rfl (by simp [Env.get_put, h6]) k25 rfl (by simp [Env.get_put, h10]) k241 (fun j hj => hfr j (Nat.le_trans (Nat.le_add_right _ _) hj)) (by decide) (by show 241 < st1.cnt + 16; omega) (by show 25 < st1.cnt + 16; omega) ?_
    simp only [↓Z0, ↓Xp, ↓Xt, Xq, Xc, binP, ofCells, Nat.reduceAdd, Nat.reduceMul, Nat.reduceLT, Nat.reduceEqDiff, reduceIte]
    refine ⟨nofun, [.agg zEv, .i .i64 0, .i .i64 s4.2.2], ?_, rfl⟩
    have hl : loadP (cas2 ⟨st1.sto, st1.cnt + 16⟩ 25 zEv) 5 (.ptr 25 0) = some zEv := load_whole (St.get_putk _ _ _) rfl
    simp only [mapO, resP, Env.get_put, Nat.reduceEqDiff, reduceIte, h6, hl, ofCells, if_true]
    rfl
def gGetE : List PV → Option PV
  | [v, .i .i64 at0, .agg [.i .i64 a0, .i .u8 a1, .i .i64 a2, .i .i64 a3, .i .i64 a4]] => match inL v with
    | some l => if l.length ≤ 140737488355328 then some (getV l at0 a0 a2 a3 a4) else none
    | none => none
  | _ => none
end Go.Pe
