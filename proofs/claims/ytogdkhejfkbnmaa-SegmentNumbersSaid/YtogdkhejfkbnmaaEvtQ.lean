/-
  Events: an event, laid out, by the interpreter of plain data. No condition.
-/
import Derived.Test.YtogdkhejfkbnmaaEvtP
set_option linter.unusedVariables false
set_option linter.unusedSimpArgs false
namespace Go.Pe
open Go Go.Am Go.RowKit

theorem put1_ev {cfg : Cfg} (hf : cfg.fn 82 = some m82) (hx : cfg.ext 42 = some gInt) {fuel : Nat} {st : St} {q : Nat} {v : PV} {l : List UInt8} {a b : Int} (hq : st.get q = some (.cells [v] false)) (hqc : q < st.cnt) (ho : OutOK st v l) (hqv : ∀ a b c, v ≠ .rsl q a b c) (hl : l.length + 10 ≤ maxBytes) :
    ∃ r st', evFn cfg (fuel + 1) 82 [.i .i64 a, .i .i64 b, .ptr q 0] st = some (r, st') ∧ ∃ v', st'.get q = some (.cells [v'] false) ∧ OutOK st' v' (l ++ varint (foldN (IntKind.i64.wrap (b - a)))) ∧ (∀ a b c, v' ≠ .rsl q a b c) ∧ st.cnt ≤ st'.cnt ∧ (∀ j, j < st.cnt → j ≠ q → (∀ a b c, v ≠ .rsl j a b c) → st'.get j = st.get j) ∧ (∀ j a b c, v' = .rsl j a b c → st.cnt ≤ j) := by
  refine evFn_W hf ?_
  unfold m82
  have hwr : in64 (IntKind.i64.wrap (b - a)) := by
    unfold in64
    rw [IntKind.wrap_i64]
    omega
  generalize hd : IntKind.i64.wrap (b - a) = d at *
  obtain ⟨st', h1, h2, h3, h4⟩ := call_out (g := runPure cfg (evFn cfg fuel) 42) (st := ⟨st.sto, st.cnt + 48⟩) (key := st.cnt + 32) (rest := [.i .i64 d]) (l' := l ++ varint (foldN d)) (ho.mono (fun _ _ => rfl) (by show st.cnt ≤ st.cnt + 48; omega)) rfl (by
    intro v' hv'
    rw [runPure_ext hx]
    unfold gInt
    unfold in64 at hwr
    simp only [hv']
    rw [if_pos ⟨by omega, by omega, hl⟩])
  have hq' : st'.get q = some (.cells [v] false) := by rw [h4 q (by omega) hqv]; exact hq
  have hone : v.one = true := by rcases ho with ⟨rfl, _⟩ | ⟨k, rfl, _, _⟩ <;> rfl
  have hcel : v.cells = [v] := by rcases ho with ⟨rfl, _⟩ | ⟨k, rfl, _, _⟩ <;> rfl
  simp only [putArgs, ↓Z0, ↓Xp, ↓Xt, Xq, Xc, binP, ofCells, Nat.reduceAdd, Nat.reduceMul, Nat.reduceLT, Nat.reduceEqDiff, reduceIte, Xm, Nat.reduceLeDiff, hq, hd, h1, hq']
  refine ⟨nofun, _, rfl, .rsl (st.cnt + 32) 1 0 (l ++ varint (foldN d)).length, ?_, ?_, ?_, ?_, ?_, ?_⟩
  · rfl
  · refine .inr ⟨st.cnt + 32, rfl, ?_, ?_⟩
    · rw [St.get_put_ne (by omega)]; exact h2
    · show st.cnt + 32 < st'.cnt
      rw [h3]; show st.cnt + 32 < st.cnt + 48; omega
  · intro a b c h; injection h with h5; omega
  · show st.cnt ≤ st'.cnt
    rw [h3]; show st.cnt ≤ st.cnt + 48; omega
  · intro j hj hjq hjv
    rw [St.get_put_ne (fun e => hjq e.symm), h4 j (by omega) hjv]; rfl
  · intro j a b c h; injection h with h5; omega

structure PutI (x : Now) (q ka ke : Nat) (A E : List PV) (v : PV) (l : List UInt8) : Prop where
  e3 : x.env.get 3 = .ptr q 0
  e4 : x.env.get 4 = .ptr ka 0
  e5 : x.env.get 5 = .ptr ke 0
  gq : x.st.get q = some (.cells [v] false)
  ho : OutOK x.st v l
  nq : ∀ a b c, v ≠ .rsl q a b c
  na : ∀ a b c, v ≠ .rsl ka a b c
  ne : ∀ a b c, v ≠ .rsl ke a b c
  ga : x.st.get ka = some (.cells A false)
  ge : x.st.get ke = some (.cells E false)
  cq : q < x.st.cnt
  ca : ka < x.st.cnt
  ce : ke < x.st.cnt
  qa : q ≠ ka
  qe : q ≠ ke
def dInt (a b : Int) : List UInt8 := varint (foldN (IntKind.i64.wrap (b - a)))
def putL (l : List UInt8) (c : UInt8) (a0 a2 a3 a4 b0 b2 b3 b4 : Int) : List UInt8 := l ++ [c] ++ dInt a0 b0 ++ dInt a2 b2 ++ dInt a3 b3 ++ dInt a4 b4
theorem dInt_len (a b : Int) : 1 ≤ (dInt a b).length ∧ (dInt a b).length ≤ 10 := ⟨varint_pos _, varint_le _⟩
theorem PutI.next {env env' : Env} {st st' : St} {q ka ke : Nat} {A E : List PV} {v v' : PV} {l l' : List UInt8} (h : PutI ⟨env, st⟩ q ka ke A E v l) {n : Nat} (hn : st.cnt ≤ n) (e3 : env'.get 3 = .ptr q 0) (e4 : env'.get 4 = .ptr ka 0) (e5 : env'.get 5 = .ptr ke 0)
    (gq : st'.get q = some (.cells [v'] false)) (ho : OutOK st' v' l') (nq : ∀ a b c, v' ≠ .rsl q a b c) (hc : n ≤ st'.cnt) (hk : ∀ j, j < n → j ≠ q → (∀ a b c, v ≠ .rsl j a b c) → st'.get j = (⟨st.sto, n⟩ : St).get j) (hv : ∀ j a b c, v' = .rsl j a b c → n ≤ j) : PutI ⟨env', st'⟩ q ka ke A E v' l' where
  e3 := e3
  e4 := e4
  e5 := e5
  gq := gq
  ho := ho
  nq := nq
  na := fun a b c e => by have := hv _ _ _ _ e; have := h.ca; simp only at this; omega
  ne := fun a b c e => by have := hv _ _ _ _ e; have := h.ce; simp only at this; omega
  ga := by
    have h1 := h.ca; have h2 := h.ga
    simp only at h1 h2 ⊢
    rw [hk ka (by omega) (fun e => h.qa e.symm) h.na]; exact h2
  ge := by
    have h1 := h.ce; have h2 := h.ge
    simp only at h1 h2 ⊢
    rw [hk ke (by omega) (fun e => h.qe e.symm) h.ne]; exact h2
  cq := by have := h.cq; simp only at this ⊢; omega
  ca := by have := h.ca; simp only at this ⊢; omega
  ce := by have := h.ce; simp only at this ⊢; omega
  qa := h.qa
  qe := h.qe
set_option maxHeartbeats 8000000 in
set_option maxRecDepth 100000 in
theorem put_ev {cfg : Cfg} (hf : cfg.fn 56 = some m56) (hf1 : cfg.fn 82 = some m82) (hx : cfg.ext 42 = some gInt) (hx1 : cfg.ext 82 = none) {fuel : Nat} {st : St} {v : PV} {l : List UInt8} (hv : OutOK st v l) (hl : l.length + 60 ≤ maxBytes) {a0 a1 a2 a3 a4 b0 b2 b3 b4 : Int} {op : UInt8} :
    ∃ r st', evFn cfg (fuel + 1 + 1) 56 [v, .agg [.i .i64 a0, .i .u8 a1, .i .i64 a2, .i .i64 a3, .i .i64 a4], .agg [.i .i64 b0, .i .u8 op.toNat, .i .i64 b2, .i .i64 b3, .i .i64 b4]] st = some (r, st') ∧ ∃ k, r = .rsl k 1 0 (putL l op a0 a2 a3 a4 b0 b2 b3 b4).length ∧ st'.get k = some (.cells (ofBytes (putL l op a0 a2 a3 a4 b0 b2 b3 b4)) false) := by
  refine evFn_W hf ?_
  unfold m56
  obtain ⟨A, hA⟩ : ∃ A, A = [PV.i .i64 a0, .i .u8 a1, .i .i64 a2, .i .i64 a3, .i .i64 a4] := ⟨_, rfl⟩
  obtain ⟨E, hE⟩ : ∃ E, E = [PV.i .i64 b0, .i .u8 op.toNat, .i .i64 b2, .i .i64 b3, .i .i64 b4] := ⟨_, rfl⟩
  have hone : v.one = true := by rcases hv with ⟨rfl, _⟩ | ⟨k, rfl, _, _⟩ <;> rfl
  have hcel : v.cells = [v] := by rcases hv with ⟨rfl, _⟩ | ⟨k, rfl, _, _⟩ <;> rfl
  have hvk : ∀ j a b c, v = .rsl j a b c → j < st.cnt := by
    intro j a b c h
    rcases hv with ⟨rfl, _⟩ | ⟨k, rfl, _, h3⟩
    · cases h
    · injection h with h4; omega
  refine Za (fun x => PutI x st.cnt (st.cnt + 8) (st.cnt + 16) A E v l) ?_ ?_
  · have c8 : ∀ j, (st.cnt + j = st.cnt) = (j = 0) := fun j => by simp
    simp only [putArgs, ↓Z0, ↓Xp, ↓Xt, Xq, Xc, binP, ofCells, Nat.reduceAdd, Nat.reduceMul, Nat.reduceLT, Nat.reduceEqDiff, reduceIte, Xm, Nat.reduceLeDiff, hcel, hone, c8]
    refine ⟨by simp [Env.get_put], by simp [Env.get_put], by simp [Env.get_put], ?_, ?_, ?_, ?_, ?_, ?_, ?_, ?_, ?_, ?_, by omega, by omega⟩
    · show ((((⟨st.sto, st.cnt + 32⟩ : St).put st.cnt _).put (st.cnt + 8) _).put (st.cnt + 16) _).get st.cnt = _
      rw [St.get_put_ne (by omega), St.get_put_ne (by omega), St.get_putk]
    · refine hv.mono (fun k hk => ?_) (by show st.cnt ≤ st.cnt + 32; omega)
      show ((((⟨st.sto, st.cnt + 32⟩ : St).put st.cnt _).put (st.cnt + 8) _).put (st.cnt + 16) _).get k = _
      rw [St.get_put_ne (by omega), St.get_put_ne (by omega), St.get_put_ne (by omega)]; rfl
    · intro a b c h; have := hvk _ _ _ _ h; omega
    · intro a b c h; have := hvk _ _ _ _ h; omega
    · intro a b c h; have := hvk _ _ _ _ h; omega
    · show ((((⟨st.sto, st.cnt + 32⟩ : St).put st.cnt _).put (st.cnt + 8) _).put (st.cnt + 16) _).get (st.cnt + 8) = _
      rw [St.get_put_ne (by omega), St.get_putk, hA]
    · show ((((⟨st.sto, st.cnt + 32⟩ : St).put st.cnt _).put (st.cnt + 8) _).put (st.cnt + 16) _).get (st.cnt + 16) = _
      rw [St.get_putk, hE]
    · show st.cnt < st.cnt + 32; omega
    · show st.cnt + 8 < st.cnt + 32; omega
    · show st.cnt + 16 < st.cnt + 32; omega
  generalize st.cnt + 8 = ka
  generalize st.cnt + 16 = ke
  generalize st.cnt = q
  clear hv hone hcel hvk
  rintro ⟨env, st1⟩ H
  -- the kind
  refine Za (fun x => ∃ v, PutI x q ka ke A E v (l ++ [op])) ?_ ?_
  · have h3 := H.e3; have h4 := H.e4; have h5 := H.e5; have hq := H.gq; have he := H.ge
    simp only at h3 h4 h5 hq he
    rw [hE] at he
    obtain ⟨st', happ, hg', hcnt', hfr⟩ := app_out (st := St.put ⟨st1.sto, st1.cnt + 48⟩ (st1.cnt + 24) (some (.cells (ofBytes [op]) false))) (key := st1.cnt + 32) (l := l) (news := [op]) (v := v) (by
      refine H.ho.mono (fun k hk => ?_) (by show st1.cnt ≤ st1.cnt + 48; omega)
      simp only at hk
      rw [St.get_put_ne (by omega)]; rfl) (by simp) (by simp; omega)
    have hfl : cellsOf (St.put ⟨st1.sto, st1.cnt + 48⟩ (st1.cnt + 24) (some (.cells (ofBytes [op]) false))) 1 (.rsl (st1.cnt + 24) 1 0 1) = some (1, ofBytes [op]) := by
      unfold cellsOf
      simp only [St.get_putk]
      rfl
    have hq2 : st'.get q = some (.cells [v] false) := by
      have hcq := H.cq
      simp only at hcq
      rw [hfr q (by omega) H.nq, St.get_put_ne (by omega)]; exact hq
    have hop : ofBytes [op] = [PV.i .u8 op.toNat] := rfl
    rw [hop] at hfl happ
    simp only [List.length_singleton] at happ
    have hone1 : [PV.i .u8 (op.toNat : Int)].all PV.one = true := rfl
    simp only [↓Z0, ↓Xp, ↓Xt, Xq, Xc, binP, ofCells, Nat.reduceAdd, Nat.reduceMul, Nat.reduceLT, Nat.reduceEqDiff, reduceIte, Xm, Nat.reduceLeDiff, h3, h4, h5, hq, he]
    simp only [hfl, hone1, ↓Z0, ↓Xp, ↓Xt, Xq, Xc, binP, ofCells, Nat.reduceAdd, Nat.reduceMul, Nat.reduceLT, Nat.reduceEqDiff, reduceIte, Xm, Nat.reduceLeDiff, happ, hq2]
    refine ⟨.rsl (st1.cnt + 32) 1 0 (l.length + 1), h3, h4, h5, St.get_putk _ _ _, ?_, ?_, ?_, ?_, ?_, ?_, ?_, ?_, ?_, H.qa, H.qe⟩
    · refine .inr ⟨st1.cnt + 32, by simp, ?_, ?_⟩
      · have hcq := H.cq
        simp only at hcq
        rw [St.get_put_ne (by omega)]; exact hg'
      · show st1.cnt + 32 < st'.cnt
        rw [hcnt']; show st1.cnt + 32 < st1.cnt + 48; omega
    · intro a b c h; have := H.cq; simp only at this; injection h with h6; omega
    · intro a b c h; have := H.ca; simp only at this; injection h with h6; omega
    · intro a b c h; have := H.ce; simp only at this; injection h with h6; omega
    · have h6 := H.ca; have h7 := H.ga
      simp only at h6 h7
      show (st'.put q _).get ka = _
      rw [St.get_put_ne H.qa, hfr ka (by omega) H.na, St.get_put_ne (by omega)]; exact h7
    · have h6 := H.ce; have h7 := H.ge
      simp only at h6 h7
      show (st'.put q _).get ke = _
      rw [St.get_put_ne H.qe, hfr ke (by omega) H.ne, St.get_put_ne (by omega)]; exact h7
    · have h6 := H.cq; simp only at h6; show q < st'.cnt; rw [hcnt']; show q < st1.cnt + 48; omega
    · have h6 := H.ca; simp only at h6; show ka < st'.cnt; rw [hcnt']; show ka < st1.cnt + 48; omega
    · have h6 := H.ce; simp only at h6; show ke < st'.cnt; rw [hcnt']; show ke < st1.cnt + 48; omega
  clear H
  rintro ⟨env, st1⟩ ⟨v, H⟩
  refine Za (fun x => ∃ v, PutI x q ka ke A E v (l ++ [op]) ∧ x.env.get 7 = PV.fn 82 [.ptr q 0]) ?_ ?_
  · have h3 := H.e3; have h4 := H.e4; have h5 := H.e5; have hcq := H.cq; have hca := H.ca; have hce := H.ce
    simp only at h3 h4 h5 hcq hca hce
    simp only [↓Z0, ↓Xp, ↓Xt, Xq, Xc, binP, ofCells, Nat.reduceAdd, Nat.reduceMul, Nat.reduceLT, Nat.reduceEqDiff, reduceIte, h3]
    exact ⟨v, ⟨by simp [Env.get_put, h3], by simp [Env.get_put, h4], by simp [Env.get_put, h5], H.gq, H.ho.mono (fun _ _ => rfl) (Nat.le_add_right _ _), H.nq, H.na, H.ne, H.ga, H.ge, Nat.lt_of_lt_of_le hcq (Nat.le_add_right _ _), Nat.lt_of_lt_of_le hca (Nat.le_add_right _ _), Nat.lt_of_lt_of_le hce (Nat.le_add_right _ _), H.qa, H.qe⟩⟩
  clear H
  rintro ⟨env, st1⟩ ⟨v, H, g7⟩
  simp only at g7
  refine Za (fun x => ∃ v, PutI x q ka ke A E v (l ++ [op] ++ dInt a0 b0) ∧ x.env.get 7 = PV.fn 82 [.ptr q 0]) ?_ ?_
  · have h3 := H.e3; have h4 := H.e4; have h5 := H.e5; have hq := H.gq; have ha := H.ga; have he := H.ge; have hcq := H.cq
    simp only at h3 h4 h5 hq ha he hcq
    rw [hA] at ha
    rw [hE] at he
    simp only [↓Z0, ↓Xp, ↓Xt, Xq, Xc, binP, ofCells, Nat.reduceAdd, Nat.reduceMul, Nat.reduceLT, Nat.reduceEqDiff, reduceIte, Xm, Nat.reduceLeDiff, h3, h4, h5, hq, ha, he, g7, hx1]
    refine Z0o_ (put1_ev (st := ⟨st1.sto, st1.cnt + 48⟩) (v := v) (l := l ++ [op]) (a := a0) (b := b0) hf1 hx hq (by show q < st1.cnt + 48; omega) (H.ho.mono (fun _ _ => rfl) (by show st1.cnt ≤ st1.cnt + 48; omega)) H.nq (by have := dInt_len a0 b0; have := dInt_len a2 b2; have := dInt_len a3 b3; simp only [List.length_append, List.length_singleton]; omega)) ?_
    rintro r st' ⟨v', i1, i2, i3, i4, i5, i6⟩
    exact ⟨v', H.next (n := st1.cnt + 48) (Nat.le_add_right _ _) (by simp [Env.get_put, h3]) (by simp [Env.get_put, h4]) (by simp [Env.get_put, h5]) i1 i2 i3 i4 i5 i6⟩
  rintro ⟨env, st1⟩ ⟨v, H, g7⟩
  simp only at g7
  refine Za (fun x => ∃ v, PutI x q ka ke A E v (l ++ [op] ++ dInt a0 b0 ++ dInt a2 b2) ∧ x.env.get 7 = PV.fn 82 [.ptr q 0]) ?_ ?_
  · have h3 := H.e3; have h4 := H.e4; have h5 := H.e5; have hq := H.gq; have ha := H.ga; have he := H.ge; have hcq := H.cq
    simp only at h3 h4 h5 hq ha he hcq
    rw [hA] at ha
    rw [hE] at he
    simp only [↓Z0, ↓Xp, ↓Xt, Xq, Xc, binP, ofCells, Nat.reduceAdd, Nat.reduceMul, Nat.reduceLT, Nat.reduceEqDiff, reduceIte, Xm, Nat.reduceLeDiff, h3, h4, h5, hq, ha, he, g7, hx1]
    refine Z0o_ (put1_ev (st := ⟨st1.sto, st1.cnt + 48⟩) (v := v) (l := l ++ [op] ++ dInt a0 b0) (a := a2) (b := b2) hf1 hx hq (by show q < st1.cnt + 48; omega) (H.ho.mono (fun _ _ => rfl) (by show st1.cnt ≤ st1.cnt + 48; omega)) H.nq (by have := dInt_len a0 b0; have := dInt_len a2 b2; have := dInt_len a3 b3; simp only [List.length_append, List.length_singleton]; omega)) ?_
    rintro r st' ⟨v', i1, i2, i3, i4, i5, i6⟩
    exact ⟨v', H.next (n := st1.cnt + 48) (Nat.le_add_right _ _) (by simp [Env.get_put, h3]) (by simp [Env.get_put, h4]) (by simp [Env.get_put, h5]) i1 i2 i3 i4 i5 i6⟩
  rintro ⟨env, st1⟩ ⟨v, H, g7⟩
  simp only at g7
  refine Za (fun x => ∃ v, PutI x q ka ke A E v (l ++ [op] ++ dInt a0 b0 ++ dInt a2 b2 ++ dInt a3 b3) ∧ x.env.get 7 = PV.fn 82 [.ptr q 0]) ?_ ?_
  · have h3 := H.e3; have h4 := H.e4; have h5 := H.e5; have hq := H.gq; have ha := H.ga; have he := H.ge; have hcq := H.cq
    simp only at h3 h4 h5 hq ha he hcq
    rw [hA] at ha
    rw [hE] at he
    simp only [↓Z0, ↓Xp, ↓Xt, Xq, Xc, binP, ofCells, Nat.reduceAdd, Nat.reduceMul, Nat.reduceLT, Nat.reduceEqDiff, reduceIte, Xm, Nat.reduceLeDiff, h3, h4, h5, hq, ha, he, g7, hx1]
    refine Z0o_ (put1_ev (st := ⟨st1.sto, st1.cnt + 48⟩) (v := v) (l := l ++ [op] ++ dInt a0 b0 ++ dInt a2 b2) (a := a3) (b := b3) hf1 hx hq (by show q < st1.cnt + 48; omega) (H.ho.mono (fun _ _ => rfl) (by show st1.cnt ≤ st1.cnt + 48; omega)) H.nq (by have := dInt_len a0 b0; have := dInt_len a2 b2; have := dInt_len a3 b3; simp only [List.length_append, List.length_singleton]; omega)) ?_
    rintro r st' ⟨v', i1, i2, i3, i4, i5, i6⟩
    exact ⟨v', H.next (n := st1.cnt + 48) (Nat.le_add_right _ _) (by simp [Env.get_put, h3]) (by simp [Env.get_put, h4]) (by simp [Env.get_put, h5]) i1 i2 i3 i4 i5 i6⟩
  rintro ⟨env, st1⟩ ⟨v, H, g7⟩
  simp only at g7
  refine Za (fun x => ∃ v, PutI x q ka ke A E v (l ++ [op] ++ dInt a0 b0 ++ dInt a2 b2 ++ dInt a3 b3 ++ dInt a4 b4) ∧ x.env.get 7 = PV.fn 82 [.ptr q 0]) ?_ ?_
  · have h3 := H.e3; have h4 := H.e4; have h5 := H.e5; have hq := H.gq; have ha := H.ga; have he := H.ge; have hcq := H.cq
    simp only at h3 h4 h5 hq ha he hcq
    rw [hA] at ha
    rw [hE] at he
    simp only [↓Z0, ↓Xp, ↓Xt, Xq, Xc, binP, ofCells, Nat.reduceAdd, Nat.reduceMul, Nat.reduceLT, Nat.reduceEqDiff, reduceIte, Xm, Nat.reduceLeDiff, h3, h4, h5, hq, ha, he, g7, hx1]
    refine Z0o_ (put1_ev (st := ⟨st1.sto, st1.cnt + 48⟩) (v := v) (l := l ++ [op] ++ dInt a0 b0 ++ dInt a2 b2 ++ dInt a3 b3) (a := a4) (b := b4) hf1 hx hq (by show q < st1.cnt + 48; omega) (H.ho.mono (fun _ _ => rfl) (by show st1.cnt ≤ st1.cnt + 48; omega)) H.nq (by have := dInt_len a0 b0; have := dInt_len a2 b2; have := dInt_len a3 b3; simp only [List.length_append, List.length_singleton]; omega)) ?_
    rintro r st' ⟨v', i1, i2, i3, i4, i5, i6⟩
    exact ⟨v', H.next (n := st1.cnt + 48) (Nat.le_add_right _ _) (by simp [Env.get_put, h3]) (by simp [Env.get_put, h4]) (by simp [Env.get_put, h5]) i1 i2 i3 i4 i5 i6⟩
  rintro ⟨env, st1⟩ ⟨v, H, g7⟩
  have h3 := H.e3; have hq := H.gq
  simp only at h3 hq
  simp only [↓Z0, ↓Xp, ↓Xt, Xq, Xc, binP, ofCells, Nat.reduceAdd, Nat.reduceMul, Nat.reduceLT, Nat.reduceEqDiff, reduceIte, Xm, Nat.reduceLeDiff, h3, hq]
  have hL : l ++ [op] ++ dInt a0 b0 ++ dInt a2 b2 ++ dInt a3 b3 ++ dInt a4 b4 = putL l op a0 a2 a3 a4 b0 b2 b3 b4 := rfl
  have ho := H.ho
  rw [hL] at ho
  rcases ho with ⟨_, h0⟩ | ⟨k, hk, hk2, _⟩
  · exfalso
    have := congrArg List.length h0
    rw [← hL] at this
    simp at this
  · refine ⟨nofun, _, rfl, k, ?_, hk2⟩
    simp only [tupV, ↓Z0, ↓Xp, ↓Xt, Xq, Xc, binP, ofCells, Nat.reduceAdd, Nat.reduceMul, Nat.reduceLT, Nat.reduceEqDiff, reduceIte]
    exact hk
end Go.Pe
