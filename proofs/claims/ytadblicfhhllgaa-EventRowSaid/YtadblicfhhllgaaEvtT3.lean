/-
  EventRow, by the interpreter of plain data. No condition.
-/
import Derived.Test.YtadblicfhhllgaaEvtAs
set_option linter.unusedVariables false
set_option linter.unusedSimpArgs false
namespace Go.Pe
open Go Go.Am Go.RowKit

/-! ### Rows of frames -/
def fsC (fs : List (List Ev)) : List PV := fs.map fun l => .fsl l.length (evsC l)
def natsC (E : List Nat) : List PV := E.map fun (n : Nat) => .i .i64 (n : Int)
def frameB (l : List Ev) : List UInt8 := if l = [] then [] else frameL l
def rowB : List (List Ev) → List UInt8
  | [] => []
  | l :: r => frameB l ++ rowB r
def endsB (a : Nat) : List (List Ev) → List Nat
  | [] => []
  | l :: r => if l = [] then endsB a r else (a + (frameL l).length) :: endsB (a + (frameL l).length) r
theorem fsC_len (fs : List (List Ev)) : (fsC fs).length = fs.length * 1 := by simp [fsC]
theorem load_fs {fs : List (List Ev)} {i : Nat} (h : i < fs.length) (st : St) : loadP st 1 (.fptr ((fsC fs).drop (i * 1))) = some [.fsl (fs[i]).length (evsC fs[i])] := by
  have h1 : (fsC fs).drop (i * 1) = .fsl (fs[i]).length (evsC fs[i]) :: (fsC fs).drop (i + 1) := by
    rw [Nat.mul_one]
    have : i < (fsC fs).length := by simp [fsC, h]
    rw [List.drop_eq_getElem_cons this]
    simp [fsC]
  rw [h1]; rfl
theorem frameB_len {l : List Ev} (h : l.length ≤ 30) : (frameB l).length ≤ 168000 := by
  unfold frameB
  split
  · simp
  · have h1 := frameL_len l
    have h2 := bodyL_le (l := l) (by omega)
    have h3 := varint_le (bodyL l).length
    omega
theorem row_len : ∀ {fs : List (List Ev)}, (∀ l ∈ fs, l.length ≤ 30) → (rowB fs).length ≤ 168000 * fs.length
  | [], _ => by simp [rowB]
  | l :: r, h => by
    have h1 := frameB_len (h l (by simp))
    have h2 := row_len (fs := r) fun x hx => h x (by simp [hx])
    simp only [rowB, List.length_append, List.length_cons]
    omega
/-- a frame that is cut, with something ahead, is not read -/
theorem cut_no {l : List Ev} (h1 : 1 ≤ l.length) (h2 : l.length ≤ 4096) (he : ∀ e ∈ l, EvIn e) {A : List UInt8} {a k : Nat} {rest : List UInt8} (hd : A.drop a = frameL l ++ rest) (hA : a ≤ A.length) (hk : k < a + (frameL l).length) (hak : a ≤ k) (hkA : k ≤ A.length) {y : List Ev} {m : Int} : readL (A.take k) (a : Int) ≠ .inl (y, m) := by
  intro h
  obtain ⟨a', r', ha, _, hy1, hy4, hyE, hyd, _⟩ := readL_inv h
  have haa : a' = a := by omega
  subst haa
  have h3 : (A.take k).drop a' = (frameL l).take (k - a') := by
    rw [List.drop_take, hd, List.take_append_of_le_length (by omega)]
  rw [h3] at hyd
  have h4 : frameL l = frameL y ++ (r' ++ (frameL l).drop (k - a')) := by
    rw [← List.append_assoc, ← hyd, List.take_append_drop]
  have r1 := readL_frame (l := l) h1 h2 he (b := frameL l) (rest := []) (a := 0) (by simp) (Nat.zero_le _)
  have r2 := readL_frame (l := y) hy1 hy4 hyE (b := frameL l) (rest := r' ++ (frameL l).drop (k - a')) (a := 0) (by rw [List.drop_zero]; exact h4) (Nat.zero_le _)
  rw [r1] at r2
  simp only [Sum.inl.injEq, Prod.mk.injEq] at r2
  have h5 := congrArg List.length hyd
  rw [List.length_take, List.length_append, ← r2.1] at h5
  omega
/-! ### Bytes that are none, or one's own -/
def ownB (st : St) (ke : Nat) (v : PV) (L : List UInt8) : Prop := (v = .nsl ∧ L = []) ∨ ∃ k, v = .rsl k 1 0 L.length ∧ st.get k = some (.cells (ofBytes L) false) ∧ k < st.cnt ∧ k ≠ ke
theorem ownB.move {sto : Trie PObj} {c ke ke' : Nat} {v : PV} {L : List UInt8} {st' : St} (h : ownB ⟨sto, c⟩ ke v L) (hg : ∀ k, k < c → k ≠ ke → st'.get k = St.get ⟨sto, c⟩ k) (hc : c ≤ st'.cnt) (hk : c ≤ ke' ∨ ke' = ke) : ownB st' ke' v L := by
  rcases h with h | ⟨k, h1, h2, h3, h4⟩
  · exact .inl h
  · refine .inr ⟨k, h1, ?_, ?_, ?_⟩
    · rw [hg k h3 h4]; exact h2
    · exact Nat.lt_of_lt_of_le h3 hc
    · have : k < c := h3
      omega
theorem ownB.cells {st : St} {ke : Nat} {v : PV} {L : List UInt8} (h : ownB st ke v L) : cellsOf st 1 v = some (L.length, ofBytes L) := by
  rcases h with ⟨rfl, rfl⟩ | ⟨k, rfl, h2, _, _⟩
  · rfl
  · exact cells_at h2
theorem ownB.len {st : St} {ke : Nat} {v : PV} {L : List UInt8} (h : ownB st ke v L) : lenP v = some (.i .i64 (L.length : Int)) := by
  rcases h with ⟨rfl, rfl⟩ | ⟨k, rfl, h2, _, _⟩ <;> rfl
theorem ownB.app {sto : Trie PObj} {c ke key : Nat} {v : PV} {L news : List UInt8} (h : ownB ⟨sto, c⟩ ke v L) {c' : Nat} (hkey : c ≤ key) (hc : key < c') (hke : ke < c) (hl : L.length + news.length ≤ maxBytes) :
    ∃ v' st', appendP ⟨sto, c'⟩ key 1 1 news.length (ofBytes news) v = some (v', st') ∧ ownB st' ke v' (L ++ news) ∧ st'.get ke = St.get ⟨sto, c'⟩ ke ∧ st'.cnt = c' := by
  rcases h with ⟨rfl, rfl⟩ | ⟨k, rfl, h2, h3, h4⟩
  · by_cases hn : news = []
    · subst hn
      exact ⟨.nsl, ⟨sto, c'⟩, rfl, .inl ⟨rfl, rfl⟩, rfl, rfl⟩
    · have hp : 0 < news.length := List.length_pos_iff.2 hn
      refine ⟨.rsl key 1 0 news.length, (⟨sto, c'⟩ : St).put key (some (.cells (ofBytes news) false)), ?_, .inr ⟨key, rfl, St.get_putk _ _ _, hc, by omega⟩, St.get_put_ne (by omega), rfl⟩
      unfold appendP
      simp only []
      rw [if_neg (by omega), if_pos (by simpa using hl)]
  · have hkc : k < c := h3
    refine ⟨_, _, app_at (st := ⟨sto, c'⟩) (news := news) (key := key) h2 hl, .inr ⟨key, rfl, St.get_putk _ _ _, hc, by omega⟩, ?_, rfl⟩
    rw [St.get_put_ne (by omega), St.get_put_ne h4]
theorem nats_app {st : St} {ke key m : Nat} {E : List Nat} (hk : st.get ke = some (.cells (natsC E) false)) (hl : E.length ≤ 1000) :
    appendP st key 1 8 1 [.i .i64 (m : Int)] (.rsl ke 1 0 E.length) = some (.rsl key 1 0 (E ++ [m]).length, (st.put ke none).put key (some (.cells (natsC (E ++ [m])) false))) := by
  have h1 : (natsC E).length = E.length := by simp [natsC]
  have h2 : natsC E ++ [.i .i64 (m : Int)] = natsC (E ++ [m]) := by simp [natsC]
  unfold appendP
  simp only [hk, h1, h2, List.length_append]
  rw [if_pos ⟨trivial, trivial, by omega, by unfold maxBytes; omega⟩]
  rfl
theorem load_nats {st : St} {ke : Nat} {fz : Bool} {E : List Nat} (hk : st.get ke = some (.cells (natsC E) fz)) {i m : Nat} {r : List Nat} (hd : E.drop i = m :: r) : loadP st 1 (.ptr ke (0 + i * 1)) = some [.i .i64 (m : Int)] := by
  have h1 : (natsC E).length = E.length := by simp [natsC]
  have hi : i < E.length := by
    rcases Nat.lt_or_ge i E.length with h | h
    · exact h
    · rw [List.drop_of_length_le h] at hd; cases hd
  have h2 : (natsC E).drop i = .i .i64 (m : Int) :: natsC r := by
    unfold natsC
    rw [← List.map_drop, hd]; rfl
  unfold loadP
  simp only [hk, Nat.zero_add, Nat.mul_one, cut?, h1, h2]
  rw [if_pos (by omega)]
  rfl
theorem cells_new (S : St) (key : Nat) (v : PV) : cellsOf (S.put key (some (.cells [v] false))) 1 (.rsl key 1 0 1) = some (1, [v]) := by
  have h := St.get_putk S key (some (.cells [v] false))
  unfold cellsOf
  simp only [h]
  rfl
set_option maxHeartbeats 8000000 in
set_option maxRecDepth 100000 in
theorem row_ev {fs : List (List Ev)} {b : List UInt8} {cut : Int} (hfb : fs.length ≤ 140737488355328) (hbb : b.length ≤ 140737488355328) (hLb : ∀ l ∈ fs, l.length ≤ 140737488355328) (hE : ∀ l ∈ fs, ∀ e ∈ l, EvIn e) (hat : in64 cut) : ∃ fuel, evP cfgK7 fuel 8 [.fsl fs.length (fsC fs), .fsl b.length (ofBytes b), .i .i64 cut] = some (.b true) := by
  refine ⟨50 + 1, ev_flat rfl rfl (fun _ => rfl) (evFn_W (by kernel_rfl : cfgK7.fn 8 = some m8) ?_)⟩
  unfold m8
  have aw := fun st key => k_awake (callE := evFn cfgK7 50) st key
  have hln : ∀ (n : Nat) (cs : List PV), lenP (.fsl n cs) = some (.i .i64 n) := fun _ _ => rfl
  have hlr : ∀ (a b c n : Nat), lenP (.rsl a b c n) = some (.i .i64 n) := fun _ _ _ _ => rfl
  by_cases z0 : 12 < fs.length
  · have e0 : (fs.length : Int) > Int.ofNat 12 := by show (fs.length : Int) > 12; omega
    simp only [putArgs, ↓Z0, ↓Xp, Xq, Xc, binP, ofCells, Nat.reduceAdd, Nat.reduceMul, Nat.reduceLT, Nat.reduceEqDiff, reduceIte, Xm, Nat.reduceLeDiff, hln, e0, aw]
    refine ⟨nofun, _, rfl, ?_⟩
    simp only [tupV, ↓Z0, ↓Xp, Xq, Xc, binP, ofCells, Nat.reduceAdd, Nat.reduceMul, Nat.reduceLT, Nat.reduceEqDiff, reduceIte]
  have e0 : ¬ (fs.length : Int) > Int.ofNat 12 := by show ¬ (fs.length : Int) > 12; omega
  by_cases z1 : 100 < b.length
  · have e1 : (b.length : Int) > Int.ofNat 100 := by show (b.length : Int) > 100; omega
    simp only [putArgs, ↓Z0, ↓Xp, Xq, Xc, binP, ofCells, Nat.reduceAdd, Nat.reduceMul, Nat.reduceLT, Nat.reduceEqDiff, reduceIte, Xm, Nat.reduceLeDiff, hln, e0, e1, aw]
    refine ⟨nofun, _, rfl, ?_⟩
    simp only [tupV, ↓Z0, ↓Xp, Xq, Xc, binP, ofCells, Nat.reduceAdd, Nat.reduceMul, Nat.reduceLT, Nat.reduceEqDiff, reduceIte]
  have e1 : ¬ (b.length : Int) > Int.ofNat 100 := by show ¬ (b.length : Int) > 100; omega
  have hfl : (fsC fs).length = fs.length * 1 := fsC_len fs
  have hldF : ∀ (i : Nat) (h : i < fs.length) (st : St), loadP st 1 (.fptr ((fsC fs).drop (i * 1))) = some [.fsl (fs[i]).length (evsC fs[i])] := fun i h st => load_fs h st
  refine Za (fun x => x.env.get 0 = .fsl fs.length (fsC fs) ∧ x.env.get 1 = .fsl b.length (ofBytes b) ∧ x.env.get 2 = .i .i64 cut) ?_ ?_
  · simp only [↓Z0, ↓Xp, Xq, Xc, binP, ofCells, Nat.reduceAdd, Nat.reduceMul, Nat.reduceLT, Nat.reduceEqDiff, reduceIte, Xm, Nat.reduceLeDiff, putArgs]
    (repeat' (first | exact True.intro | rfl | assumption | omega | apply And.intro | exact St.get_putk _ _ _ | refine ⟨_, rfl, ?_⟩))
  rintro ⟨env, ⟨sto, c⟩⟩ ⟨g0, g1, g2⟩
  simp only at g0 g1 g2
  refine Za (fun x => x.env.get 0 = .fsl fs.length (fsC fs) ∧ x.env.get 1 = .fsl b.length (ofBytes b) ∧ x.env.get 2 = .i .i64 cut) ?_ ?_
  · simp only [↓Z0, ↓Xp, Xq, Xc, binP, ofCells, Nat.reduceAdd, Nat.reduceMul, Nat.reduceLT, Nat.reduceEqDiff, reduceIte, Xm, Nat.reduceLeDiff, g0, g1, g2, hln, e0, e1]
    (repeat' (first | exact True.intro | rfl | assumption | omega | apply And.intro | exact St.get_putk _ _ _ | refine ⟨_, rfl, ?_⟩))
  clear g0 g1 g2
  rintro ⟨env, ⟨sto, c⟩⟩ ⟨g0, g1, g2⟩
  simp only at g0 g1 g2
  refine Za (fun x => x.env.get 0 = .fsl fs.length (fsC fs) ∧ x.env.get 1 = .fsl b.length (ofBytes b) ∧ x.env.get 2 = .i .i64 cut ∧ x.env.get 7 = .nsl) ?_ ?_
  · simp only [↓Z0, ↓Xp, Xq, Xc, binP, ofCells, Nat.reduceAdd, Nat.reduceMul, Nat.reduceLT, Nat.reduceEqDiff, reduceIte, Xm, Nat.reduceLeDiff, g0, g1, g2]
    (repeat' (first | exact True.intro | rfl | assumption | omega | apply And.intro | exact St.get_putk _ _ _ | refine ⟨_, rfl, ?_⟩))
  clear g0 g1 g2
  rintro ⟨env, ⟨sto, c⟩⟩ ⟨g0, g1, g2, g7⟩
  simp only at g0 g1 g2 g7
  obtain ⟨ke0, hke0⟩ : ∃ k, k = c := ⟨_, rfl⟩
  refine Za (fun x => x.env.get 0 = .fsl fs.length (fsC fs) ∧ x.env.get 1 = .fsl b.length (ofBytes b) ∧ x.env.get 2 = .i .i64 cut ∧ x.env.get 7 = .nsl ∧ (∃ ke, x.env.get 8 = .rsl ke 1 0 ([0] : List Nat).length ∧ x.st.get ke = some (.cells (natsC [0]) false) ∧ ke < x.st.cnt)) ?_ ?_
  · simp only [↓Z0, ↓Xp, Xq, Xc, binP, ofCells, Nat.reduceAdd, Nat.reduceMul, Nat.reduceLT, Nat.reduceEqDiff, reduceIte, Xm, Nat.reduceLeDiff, g0, g1, g2, g7, natsC]
    (repeat' (first | exact True.intro | rfl | assumption | omega | apply And.intro | exact St.get_putk _ _ _ | refine ⟨_, rfl, ?_⟩))
  clear g0 g1 g2 g7
  rintro ⟨env, ⟨sto, c⟩⟩ ⟨g0, g1, g2, g7, h8⟩
  simp only at g0 g1 g2 g7 h8
  clear hke0
  have hh8 := h8
  obtain ⟨ke0, g8, qe0, hke0⟩ := hh8
  obtain ⟨All, hAll⟩ : ∃ A, rowB fs = A := ⟨_, rfl⟩
  obtain ⟨Ends, hEnds⟩ : ∃ A, 0 :: endsB 0 fs = A := ⟨_, rfl⟩
  -- loop 1: all frames, one behind the other
  refine WC_cutR (fun x => x.env.get 0 = .fsl fs.length (fsC fs) ∧ x.env.get 1 = .fsl b.length (ofBytes b) ∧ x.env.get 2 = .i .i64 cut ∧ All.length ≤ 168000 * fs.length ∧ Ends.length ≤ fs.length + 1 ∧ (∀ l ∈ fs, l.length ≤ 30) ∧ ∃ (v7 : PV) (ke : Nat), x.env.get 7 = v7 ∧ x.env.get 8 = .rsl ke 1 0 Ends.length ∧ x.st.get ke = some (.cells (natsC Ends) false) ∧ ke < x.st.cnt ∧ ownB x.st ke v7 All) ?_ ?_
  · rw [Z0]
    simp only [↓Xp, Xq, Xc, binP, ofCells, Nat.reduceAdd, Nat.reduceMul, Nat.reduceLT, Nat.reduceEqDiff, reduceIte]
    refine Z9 (k := fs.length - 0) (fun d x => ∃ (i : Nat) (L : List UInt8) (E : List Nat) (v7 : PV) (ke : Nat), i ≤ fs.length ∧ d = fs.length - i ∧ L ++ rowB (fs.drop i) = All ∧ E ++ endsB L.length (fs.drop i) = Ends ∧ L.length ≤ 168000 * i ∧ E.length ≤ i + 1 ∧ (∀ l ∈ fs.take i, l.length ≤ 30) ∧ x.env.get 0 = .fsl fs.length (fsC fs) ∧ x.env.get 1 = .fsl b.length (ofBytes b) ∧ x.env.get 2 = .i .i64 cut ∧ x.env.get 7 = v7 ∧ x.env.get 8 = .rsl ke 1 0 E.length ∧ x.env.get 9 = .i .i64 (i : Int) ∧ x.st.get ke = some (.cells (natsC E) false) ∧ ke < x.st.cnt ∧ ownB x.st ke v7 L) ?_ ?_ (by omega)
    · skip
      clear g0 g1 g2 g7 h8
      clear g8 qe0 hke0
      rintro d ⟨env, ⟨sto, c⟩⟩ ⟨i, L, E, v7, ke, hi, rfl, hL, hEn, hLl, hEl, h30, g0, g1, g2, g7, g8, g9, qe, hke, o7⟩
      simp only at g0 g1 g2 g7 g8 g9 qe hke o7
      replace qe : ∀ n, St.get ⟨sto, n⟩ ke = some (.cells (natsC E) false) := fun _ => qe
      by_cases hlt : i < fs.length
      · have hlti : ((i : Nat) : Int) < ((fs.length : Nat) : Int) := by omega
        have h0i : 0 ≤ ((i : Nat) : Int) := by omega
        have hwi : IntKind.i64.wrap ((i : Int) + Int.ofNat 1) = ((i + 1 : Nat) : Int) := by
          rw [wr_i64 _ ⟨by show _ ≤ (i : Int) + 1; omega, by show (i : Int) + 1 < _; omega⟩]; rfl
        have hld := fun st => hldF i hlt st
        have hcons := List.drop_eq_getElem_cons hlt
        have htk : fs.take (i + 1) = fs.take i ++ [fs[i]] := by rw [List.take_add_one, List.getElem?_eq_getElem hlt]; rfl
        have hXE := hE _ (List.getElem_mem hlt)
        rw [hcons] at hL hEn
        generalize fs[i] = X at *
        refine Za (fun x => x.env.get 0 = .fsl fs.length (fsC fs) ∧ x.env.get 1 = .fsl b.length (ofBytes b) ∧ x.env.get 2 = .i .i64 cut ∧ x.env.get 7 = v7 ∧ x.env.get 8 = .rsl ke 1 0 E.length ∧ x.env.get 9 = .i .i64 (i : Int) ∧ x.st.get ke = some (.cells (natsC E) false) ∧ (ke < x.st.cnt) ∧ (ownB x.st ke v7 L)) ?_ ?_
        · simp only [↓Z0, ↓Xp, Xq, Xc, binP, ofCells, Nat.reduceAdd, Nat.reduceMul, Nat.reduceLT, Nat.reduceEqDiff, reduceIte, Xm, Nat.reduceLeDiff, g0, g1, g2, g7, g8, g9, qe, hln, hlti]
          (repeat' (first | exact True.intro | rfl | assumption | omega | apply And.intro | exact St.get_putk _ _ _ | (simp only [Z0L_, Z0M_]; omega) | (simp (disch := omega) only [Z0H_, Z0I_, Z0J_, qe]; done) | refine ownB.move o7 ?_ ?_ ?_ | (intro k hk hn; first | rfl | (simp (disch := omega) only [Z0H_, Z0I_, Z0J_]; first | done | rfl)) | refine ⟨_, rfl, ?_⟩))
        clear g0 g1 g2 g7 g8 g9 qe hke o7
        rintro ⟨env, ⟨sto, c⟩⟩ ⟨g0, g1, g2, g7, g8, g9, qe, hke, o7⟩
        simp only at g0 g1 g2 g7 g8 g9 qe hke o7
        replace qe : ∀ n, St.get ⟨sto, n⟩ ke = some (.cells (natsC E) false) := fun _ => qe
        rw [Z0]
        simp only [↓Xp, Xq, Xc, binP, ofCells, Nat.reduceAdd, Nat.reduceMul, Nat.reduceLT, Nat.reduceEqDiff, reduceIte]
        by_cases z2 : 30 < X.length
        · have e2 : (X.length : Int) > Int.ofNat 30 := by show (X.length : Int) > 30; omega
          simp only [↓Z0, ↓Xp, Xq, Xc, binP, ofCells, Nat.reduceAdd, Nat.reduceMul, Nat.reduceLT, Nat.reduceEqDiff, reduceIte, Xm, Nat.reduceLeDiff, g0, g1, g2, g7, g8, g9, qe, h0i, hfl, hlti, hld, hln, e2, aw]
          refine ⟨nofun, _, rfl, ?_⟩
          simp only [tupV, ↓Z0, ↓Xp, Xq, Xc, binP, ofCells, Nat.reduceAdd, Nat.reduceMul, Nat.reduceLT, Nat.reduceEqDiff, reduceIte]
        have e2 : ¬ (X.length : Int) > Int.ofNat 30 := by show ¬ (X.length : Int) > 30; omega
        have h30' : ∀ l ∈ fs.take (i + 1), l.length ≤ 30 := by
          intro l hl
          rw [htk] at hl
          rcases List.mem_append.1 hl with h | h
          · exact h30 l h
          · have : l = X := by simpa using h
            subst this; omega
        refine Za (fun x => x.env.get 0 = .fsl fs.length (fsC fs) ∧ x.env.get 1 = .fsl b.length (ofBytes b) ∧ x.env.get 2 = .i .i64 cut ∧ x.env.get 7 = v7 ∧ x.env.get 8 = .rsl ke 1 0 E.length ∧ x.env.get 9 = .i .i64 (i : Int) ∧ x.st.get ke = some (.cells (natsC E) false) ∧ (ke < x.st.cnt) ∧ (ownB x.st ke v7 L)) ?_ ?_
        · simp only [↓Z0, ↓Xp, Xq, Xc, binP, ofCells, Nat.reduceAdd, Nat.reduceMul, Nat.reduceLT, Nat.reduceEqDiff, reduceIte, Xm, Nat.reduceLeDiff, g0, g1, g2, g7, g8, g9, qe, h0i, hfl, hlti, hld, hln, e2]
          (repeat' (first | exact True.intro | rfl | assumption | omega | apply And.intro | exact St.get_putk _ _ _ | (simp only [Z0L_, Z0M_]; omega) | (simp (disch := omega) only [Z0H_, Z0I_, Z0J_, qe]; done) | refine ownB.move o7 ?_ ?_ ?_ | (intro k hk hn; first | rfl | (simp (disch := omega) only [Z0H_, Z0I_, Z0J_]; first | done | rfl)) | refine ⟨_, rfl, ?_⟩))
        clear g0 g1 g2 g7 g8 g9 qe hke o7
        rintro ⟨env, ⟨sto, c⟩⟩ ⟨g0, g1, g2, g7, g8, g9, qe, hke, o7⟩
        simp only at g0 g1 g2 g7 g8 g9 qe hke o7
        replace qe : ∀ n, St.get ⟨sto, n⟩ ke = some (.cells (natsC E) false) := fun _ => qe
        by_cases hX0 : X = []
        · subst hX0
          have hld0 : ∀ st, loadP st 1 (.fptr ((fsC fs).drop (i * 1))) = some [.fsl 0 []] := hld
          have hf0 := fun n key => k_frame_nil (callE := evFn cfgK7 50) (st := ⟨sto, n⟩) (key := key) (deep_1 (deep_fsl _ 0 []))
          refine Za (fun x => x.env.get 0 = .fsl fs.length (fsC fs) ∧ x.env.get 1 = .fsl b.length (ofBytes b) ∧ x.env.get 2 = .i .i64 cut ∧ x.env.get 7 = v7 ∧ x.env.get 8 = .rsl ke 1 0 E.length ∧ x.env.get 9 = .i .i64 (i : Int) ∧ x.st.get ke = some (.cells (natsC E) false) ∧ (ke < x.st.cnt) ∧ (ownB x.st ke v7 L) ∧ x.env.get 10 = .nsl ∧ x.env.get 11 = .i .i64 2) ?_ ?_
          · simp only [↓Z0, ↓Xp, Xq, Xc, binP, ofCells, Nat.reduceAdd, Nat.reduceMul, Nat.reduceLT, Nat.reduceEqDiff, reduceIte, Xm, Nat.reduceLeDiff, g0, g1, g2, g7, g8, g9, qe, h0i, hfl, hlti, hld0, hf0]
            (repeat' (first | exact True.intro | rfl | assumption | omega | apply And.intro | exact St.get_putk _ _ _ | (simp only [Z0L_, Z0M_]; omega) | (simp (disch := omega) only [Z0H_, Z0I_, Z0J_, qe]; done) | refine ownB.move o7 ?_ ?_ ?_ | (intro k hk hn; first | rfl | (simp (disch := omega) only [Z0H_, Z0I_, Z0J_]; first | done | rfl)) | refine ⟨_, rfl, ?_⟩))
          clear g0 g1 g2 g7 g8 g9 qe hke o7
          rintro ⟨env, ⟨sto, c⟩⟩ ⟨g0, g1, g2, g7, g8, g9, qe, hke, o7, g10, g11⟩
          simp only at g0 g1 g2 g7 g8 g9 qe hke o7 g10 g11
          replace qe : ∀ n, St.get ⟨sto, n⟩ ke = some (.cells (natsC E) false) := fun _ => qe
          have e3 : ((2 : Int) == Int.ofNat 0) = false := rfl
          have e4 : ¬ (((0 : Nat) : Int) > Int.ofNat 0) := by decide
          have heq : eqbP true (.b false) (.b false) = some (.b false) := rfl
          refine Za (fun x => x.env.get 0 = .fsl fs.length (fsC fs) ∧ x.env.get 1 = .fsl b.length (ofBytes b) ∧ x.env.get 2 = .i .i64 cut ∧ x.env.get 7 = v7 ∧ x.env.get 8 = .rsl ke 1 0 E.length ∧ x.env.get 9 = .i .i64 (i : Int) ∧ x.st.get ke = some (.cells (natsC E) false) ∧ (ke < x.st.cnt) ∧ (ownB x.st ke v7 L) ∧ x.env.get 10 = .nsl ∧ x.env.get 11 = .i .i64 2) ?_ ?_
          · simp only [↓Z0, ↓Xp, Xq, Xc, binP, ofCells, Nat.reduceAdd, Nat.reduceMul, Nat.reduceLT, Nat.reduceEqDiff, reduceIte, Xm, Nat.reduceLeDiff, g0, g1, g2, g7, g8, g9, qe, g10, g11, h0i, hfl, hlti, hld0, hln, e3, e4, heq]
            (repeat' (first | exact True.intro | rfl | assumption | omega | apply And.intro | exact St.get_putk _ _ _ | (simp only [Z0L_, Z0M_]; omega) | (simp (disch := omega) only [Z0H_, Z0I_, Z0J_, qe]; done) | refine ownB.move o7 ?_ ?_ ?_ | (intro k hk hn; first | rfl | (simp (disch := omega) only [Z0H_, Z0I_, Z0J_]; first | done | rfl)) | refine ⟨_, rfl, ?_⟩))
          clear g0 g1 g2 g7 g8 g9 qe hke o7 g10 g11
          rintro ⟨env, ⟨sto, c⟩⟩ ⟨g0, g1, g2, g7, g8, g9, qe, hke, o7, g10, g11⟩
          simp only at g0 g1 g2 g7 g8 g9 qe hke o7 g10 g11
          replace qe : ∀ n, St.get ⟨sto, n⟩ ke = some (.cells (natsC E) false) := fun _ => qe
          obtain ⟨v2, st', ha, ho, hk, hc'⟩ := o7.app (news := []) (c' := c + 32) (key := c + 16) (by omega) (by omega) hke (by unfold maxBytes; simp; omega)
          have ha' : appendP ⟨sto, c + 32⟩ (c + 16) 1 1 0 [] v7 = some (v2, st') := ha
          have hcn : ∀ st, cellsOf st 1 .nsl = some (0, []) := fun _ => rfl
          have hqe : st'.get ke = some (.cells (natsC E) false) := by rw [hk]; exact qe _
          rw [List.append_nil] at ho
          refine Za (fun x => x.env.get 0 = .fsl fs.length (fsC fs) ∧ x.env.get 1 = .fsl b.length (ofBytes b) ∧ x.env.get 2 = .i .i64 cut ∧ x.env.get 7 = v2 ∧ x.env.get 8 = .rsl ke 1 0 E.length ∧ x.env.get 9 = .i .i64 (i : Int) ∧ x.st.get ke = some (.cells (natsC E) false) ∧ (ke < x.st.cnt) ∧ (ownB x.st ke v2 L) ∧ x.env.get 10 = .nsl ∧ x.env.get 11 = .i .i64 2) ?_ ?_
          · simp only [↓Z0, ↓Xp, Xq, Xc, binP, ofCells, Nat.reduceAdd, Nat.reduceMul, Nat.reduceLT, Nat.reduceEqDiff, reduceIte, Xm, Nat.reduceLeDiff, g0, g1, g2, g7, g8, g9, qe, g10, g11, ha', hcn]
            (repeat' (first | exact True.intro | rfl | assumption | omega | apply And.intro | exact St.get_putk _ _ _ | (simp only [Z0L_, Z0M_]; omega) | (simp (disch := omega) only [Z0H_, Z0I_, Z0J_, qe]; done) | refine ownB.move o7 ?_ ?_ ?_ | (intro k hk hn; first | rfl | (simp (disch := omega) only [Z0H_, Z0I_, Z0J_]; first | done | rfl)) | refine ⟨_, rfl, ?_⟩))
          clear g0 g1 g2 g7 g8 g9 qe hke o7 g10 g11
          rintro ⟨env, ⟨sto, c⟩⟩ ⟨g0, g1, g2, g7, g8, g9, qe, hke, o7, g10, g11⟩
          simp only at g0 g1 g2 g7 g8 g9 qe hke o7 g10 g11
          replace qe : ∀ n, St.get ⟨sto, n⟩ ke = some (.cells (natsC E) false) := fun _ => qe
          simp only [↓Z0, ↓Xp, Xq, Xc, binP, ofCells, Nat.reduceAdd, Nat.reduceMul, Nat.reduceLT, Nat.reduceEqDiff, reduceIte, Xm, Nat.reduceLeDiff, g0, g1, g2, g7, g8, g9, qe, g10, g11, e3, hwi]
          refine ⟨fs.length - (i + 1), by omega, i + 1, L, E, v2, ke, by omega, rfl, ?_, ?_, by omega, by omega, h30', ?_⟩
          · simpa [rowB, frameB] using hL
          · simpa [endsB] using hEn
          (repeat' (first | exact True.intro | rfl | assumption | omega | apply And.intro | exact St.get_putk _ _ _ | (simp only [Z0L_, Z0M_]; omega) | (simp (disch := omega) only [Z0H_, Z0I_, Z0J_, qe]; done) | refine ownB.move o7 ?_ ?_ ?_ | (intro k hk hn; first | rfl | (simp (disch := omega) only [Z0H_, Z0I_, Z0J_]; first | done | rfl)) | refine ⟨_, rfl, ?_⟩))
        · skip
          have hX1 : 0 < X.length := List.length_pos_iff.2 hX0
          have hX4 : X.length ≤ 4096 := by omega
          have hfB : frameB X = frameL X := by unfold frameB; rw [if_neg hX0]
          have hFl := frameB_len (l := X) (by omega)
          rw [hfB] at hFl
          have hLn : L ++ frameL X ++ rowB (fs.drop (i + 1)) = All := by
            have h : L ++ (frameB X ++ rowB (fs.drop (i + 1))) = All := hL
            rw [hfB] at h
            rw [List.append_assoc]; exact h
          have hEm : E ++ [L.length + (frameL X).length] ++ endsB (L.length + (frameL X).length) (fs.drop (i + 1)) = Ends := by
            have h : E ++ (if X = [] then endsB L.length (fs.drop (i + 1)) else (L.length + (frameL X).length) :: endsB (L.length + (frameL X).length) (fs.drop (i + 1))) = Ends := hEn
            rw [if_neg hX0] at h
            rw [List.append_assoc]; exact h
          have hfr := fun n key => k_frame (callE := evFn cfgK7 50) (st := ⟨sto, n⟩) (key := key) (deep_1 (deep_fsl _ X.length (evsC X))) hX0 hX4
          obtain ⟨F, hF⟩ : ∃ F, frameL X = F := ⟨_, rfl⟩
          rw [hF] at hFl hLn hEm
          simp only [hF] at hfr
          obtain ⟨kf, hkf⟩ : ∃ kf, kf = c + 32 := ⟨_, rfl⟩
          have hfr' := fun n => hfr n (c + 32)
          simp only [← hkf] at hfr'
          have hkf' : c + 32 = kf := hkf.symm
          refine Za (fun x => x.env.get 0 = .fsl fs.length (fsC fs) ∧ x.env.get 1 = .fsl b.length (ofBytes b) ∧ x.env.get 2 = .i .i64 cut ∧ x.env.get 7 = v7 ∧ x.env.get 8 = .rsl ke 1 0 E.length ∧ x.env.get 9 = .i .i64 (i : Int) ∧ x.st.get ke = some (.cells (natsC E) false) ∧ (ke < x.st.cnt) ∧ (ownB x.st ke v7 L) ∧ x.env.get 10 = .rsl kf 1 0 F.length ∧ x.env.get 11 = .i .i64 0 ∧ x.st.get kf = some (.cells (ofBytes F) false)) ?_ ?_
          · simp only [↓Z0, ↓Xp, Xq, Xc, binP, ofCells, Nat.reduceAdd, Nat.reduceMul, Nat.reduceLT, Nat.reduceEqDiff, reduceIte, Xm, Nat.reduceLeDiff, g0, g1, g2, g7, g8, g9, qe, h0i, hfl, hlti, hld, hfr', hkf']
            (repeat' (first | exact True.intro | rfl | assumption | omega | apply And.intro | exact St.get_putk _ _ _ | (simp only [Z0L_, Z0M_]; omega) | (simp (disch := omega) only [Z0H_, Z0I_, Z0J_, qe]; done) | refine ownB.move o7 ?_ ?_ ?_ | (intro k hk hn; first | rfl | (simp (disch := omega) only [Z0H_, Z0I_, Z0J_]; first | done | rfl)) | refine ⟨_, rfl, ?_⟩))
          clear g0 g1 g2 g7 g8 g9 qe hke o7
          rintro ⟨env, ⟨sto, c⟩⟩ ⟨g0, g1, g2, g7, g8, g9, qe, hke, o7, g10, g11, kF⟩
          simp only at g0 g1 g2 g7 g8 g9 qe hke o7 g10 g11 kF
          replace qe : ∀ n, St.get ⟨sto, n⟩ ke = some (.cells (natsC E) false) := fun _ => qe
          replace kF : ∀ n, St.get ⟨sto, n⟩ kf = some (.cells (ofBytes F) false) := fun _ => kF
          clear hfr hfr' hkf hkf'
          have e3 : ((0 : Int) == Int.ofNat 0) = true := rfl
          have e4 : (X.length : Int) > Int.ofNat 0 := by show (X.length : Int) > 0; omega
          have heq : eqbP true (.b true) (.b true) = some (.b false) := rfl
          refine Za (fun x => x.env.get 0 = .fsl fs.length (fsC fs) ∧ x.env.get 1 = .fsl b.length (ofBytes b) ∧ x.env.get 2 = .i .i64 cut ∧ x.env.get 7 = v7 ∧ x.env.get 8 = .rsl ke 1 0 E.length ∧ x.env.get 9 = .i .i64 (i : Int) ∧ x.st.get ke = some (.cells (natsC E) false) ∧ (ke < x.st.cnt) ∧ (ownB x.st ke v7 L) ∧ x.env.get 10 = .rsl kf 1 0 F.length ∧ x.env.get 11 = .i .i64 0 ∧ x.st.get kf = some (.cells (ofBytes F) false)) ?_ ?_
          · simp only [↓Z0, ↓Xp, Xq, Xc, binP, ofCells, Nat.reduceAdd, Nat.reduceMul, Nat.reduceLT, Nat.reduceEqDiff, reduceIte, Xm, Nat.reduceLeDiff, g0, g1, g2, g7, g8, g9, qe, g10, g11, kF, h0i, hfl, hlti, hld, hln, e3, e4, heq]
            (repeat' (first | exact True.intro | rfl | assumption | omega | apply And.intro | exact St.get_putk _ _ _ | (simp only [Z0L_, Z0M_]; omega) | (simp (disch := omega) only [Z0H_, Z0I_, Z0J_, qe]; done) | refine ownB.move o7 ?_ ?_ ?_ | (intro k hk hn; first | rfl | (simp (disch := omega) only [Z0H_, Z0I_, Z0J_]; first | done | rfl)) | refine ⟨_, rfl, ?_⟩))
          clear g0 g1 g2 g7 g8 g9 qe hke o7 g10 g11 kF
          rintro ⟨env, ⟨sto, c⟩⟩ ⟨g0, g1, g2, g7, g8, g9, qe, hke, o7, g10, g11, kF⟩
          simp only at g0 g1 g2 g7 g8 g9 qe hke o7 g10 g11 kF
          replace qe : ∀ n, St.get ⟨sto, n⟩ ke = some (.cells (natsC E) false) := fun _ => qe
          replace kF : ∀ n, St.get ⟨sto, n⟩ kf = some (.cells (ofBytes F) false) := fun _ => kF
          obtain ⟨v2, st', ha, ho, hk, hc'⟩ := o7.app (news := F) (c' := c + 32) (key := c + 16) (by omega) (by omega) hke (by unfold maxBytes; omega)
          have hcF : ∀ n, cellsOf ⟨sto, n⟩ 1 (.rsl kf 1 0 F.length) = some (F.length, ofBytes F) := fun n => cells_at (kF n)
          have oF := one_ofBytes F
          have hqe : st'.get ke = some (.cells (natsC E) false) := by rw [hk]; exact qe _
          have hlv := ho.len
          have hL2 : (L ++ F).length = L.length + F.length := List.length_append
          rw [← hL2] at hEm
          generalize L ++ F = L2 at *
          refine Za (fun x => x.env.get 0 = .fsl fs.length (fsC fs) ∧ x.env.get 1 = .fsl b.length (ofBytes b) ∧ x.env.get 2 = .i .i64 cut ∧ x.env.get 7 = v2 ∧ x.env.get 8 = .rsl ke 1 0 E.length ∧ x.env.get 9 = .i .i64 (i : Int) ∧ x.st.get ke = some (.cells (natsC E) false) ∧ (ke < x.st.cnt) ∧ (ownB x.st ke v2 L2) ∧ x.env.get 10 = .rsl kf 1 0 F.length ∧ x.env.get 11 = .i .i64 0) ?_ ?_
          · simp only [↓Z0, ↓Xp, Xq, Xc, binP, ofCells, Nat.reduceAdd, Nat.reduceMul, Nat.reduceLT, Nat.reduceEqDiff, reduceIte, Xm, Nat.reduceLeDiff, g0, g1, g2, g7, g8, g9, qe, g10, g11, kF, ha, hcF, oF]
            (repeat' (first | exact True.intro | rfl | assumption | omega | apply And.intro | exact St.get_putk _ _ _ | (simp only [Z0L_, Z0M_]; omega) | (simp (disch := omega) only [Z0H_, Z0I_, Z0J_, qe]; done) | refine ownB.move o7 ?_ ?_ ?_ | (intro k hk hn; first | rfl | (simp (disch := omega) only [Z0H_, Z0I_, Z0J_]; first | done | rfl)) | refine ⟨_, rfl, ?_⟩))
          clear g0 g1 g2 g7 g8 g9 qe hke o7 g10 g11 kF
          rintro ⟨env, ⟨sto, c⟩⟩ ⟨g0, g1, g2, g7, g8, g9, qe, hke, o7, g10, g11⟩
          simp only at g0 g1 g2 g7 g8 g9 qe hke o7 g10 g11
          replace qe : ∀ n, St.get ⟨sto, n⟩ ke = some (.cells (natsC E) false) := fun _ => qe
          have hna : ∀ (m key key2 : Nat), ke < key → appendP ((⟨sto, m⟩ : St).put key (some (.cells [.i .i64 (L2.length : Int)] false))) key2 1 8 1 [.i .i64 (L2.length : Int)] (.rsl ke 1 0 E.length) = some (.rsl key2 1 0 (E ++ [L2.length]).length, ((((⟨sto, m⟩ : St).put key (some (.cells [.i .i64 (L2.length : Int)] false))).put ke none).put key2 (some (.cells (natsC (E ++ [L2.length])) false)))) := by
            intro m key key2 hk
            refine nats_app ?_ (by omega)
            rw [St.get_put_ne (by omega)]
            exact qe m
          have hka : ∀ j, ke < c + j := fun j => by omega
          have hE1 : (E ++ [L2.length]).length = E.length + 1 := by simp
          generalize E ++ [L2.length] = E2 at *
          simp only [↓Z0, ↓Xp, Xq, Xc, binP, ofCells, Nat.reduceAdd, Nat.reduceMul, Nat.reduceLT, Nat.reduceEqDiff, reduceIte, Xm, Nat.reduceLeDiff, g0, g1, g2, g7, g8, g9, qe, g10, g11, e3, hwi, hlv, cells_new, hna, hka]
          refine ⟨fs.length - (i + 1), by omega, i + 1, L2, E2, v2, c + 48, by omega, rfl, hLn, hEm, by omega, by omega, h30', ?_⟩
          (repeat' (first | exact True.intro | rfl | assumption | omega | apply And.intro | exact St.get_putk _ _ _ | (simp only [Z0L_, Z0M_]; omega) | (simp (disch := omega) only [Z0H_, Z0I_, Z0J_, qe]; done) | refine ownB.move o7 ?_ ?_ ?_ | (intro k hk hn; first | rfl | (simp (disch := omega) only [Z0H_, Z0I_, Z0J_]; first | done | rfl)) | refine ⟨_, rfl, ?_⟩))
      · skip
        have hil : i = fs.length := by omega
        subst hil
        rw [List.drop_length] at hL hEn
        have hL' : L = All := by rw [← hL]; exact (List.append_nil _).symm
        have hE' : E = Ends := by rw [← hEn]; exact (List.append_nil _).symm
        subst hL'
        subst hE'
        rw [List.take_length] at h30
        simp only [↓Z0, ↓Xp, Xq, Xc, binP, ofCells, Nat.reduceAdd, Nat.reduceMul, Nat.reduceLT, Nat.reduceEqDiff, reduceIte, Xm, Nat.reduceLeDiff, g0, g1, g2, g7, g8, g9, qe, hln, Int.lt_irrefl]
        refine ⟨hLl, hEl, h30, v7, ke, ?_⟩
        (repeat' (first | exact True.intro | rfl | assumption | omega | apply And.intro | exact St.get_putk _ _ _ | (simp only [Z0L_, Z0M_]; omega) | (simp (disch := omega) only [Z0H_, Z0I_, Z0J_, qe]; done) | refine ownB.move o7 ?_ ?_ ?_ | (intro k hk hn; first | rfl | (simp (disch := omega) only [Z0H_, Z0I_, Z0J_]; first | done | rfl)) | refine ⟨_, rfl, ?_⟩))
    · refine ⟨0, [], [0], .nsl, ke0, Nat.zero_le _, rfl, ?_, ?_, by simp, by simp, by simp, ?_⟩
      · rw [List.drop_zero]; exact hAll
      · rw [List.drop_zero]; exact hEnds
      · simp only [Env.get_put, Nat.reduceEqDiff, if_false, if_true, g0, g1, g2, g7, g8]
        have o0 : ∀ st, ownB st ke0 .nsl [] := fun st => .inl ⟨rfl, rfl⟩
        simp only [o0]
        (repeat' (first | exact True.intro | rfl | assumption | omega | apply And.intro | exact St.get_putk _ _ _ | refine ⟨_, rfl, ?_⟩))
  clear g0 g1 g2 g7 h8
  clear g8 qe0 hke0 ke0
  rintro ⟨env, ⟨sto, c⟩⟩ ⟨g0, g1, g2, hAl, hEl, h30, v7, ke, g7, g8, qe, hke, o7⟩
  simp only at g0 g1 g2 g7 g8 qe hke o7
  replace qe : ∀ n, St.get ⟨sto, n⟩ ke = some (.cells (natsC Ends) false) := fun _ => qe
  have hlv := o7.len
  have wA : IntKind.i64.wrap ((All.length : Int) + Int.ofNat 1) = ((All.length + 1 : Nat) : Int) := by
    rw [wr_i64 _ ⟨by show _ ≤ (All.length : Int) + 1; omega, by show (All.length : Int) + 1 < _; omega⟩]; rfl
  obtain ⟨p, hp⟩ : ∃ p : Nat, pickI cut ((All.length + 1 : Nat) : Int) = (p : Int) := ⟨(pickI cut ((All.length + 1 : Nat) : Int)).toNat, by have := pick_nonneg (x := cut) (n := ((All.length + 1 : Nat) : Int)) (by omega); omega⟩
  have hpA : p ≤ All.length := by have := pick_nonneg (x := cut) (n := ((All.length + 1 : Nat) : Int)) (by omega); omega
  have hpi := fun st key => k_pick (callE := evFn cfgK7 50) (st := st) (key := key) (x := cut) (n := ((All.length + 1 : Nat) : Int)) hat ⟨by omega, by omega⟩
  rw [hp] at hpi
  refine Za (fun x => x.env.get 0 = .fsl fs.length (fsC fs) ∧ x.env.get 1 = .fsl b.length (ofBytes b) ∧ x.env.get 7 = v7 ∧ x.env.get 8 = .rsl ke 1 0 Ends.length ∧ x.st.get ke = some (.cells (natsC Ends) false) ∧ (ke < x.st.cnt) ∧ (ownB x.st ke v7 All) ∧ x.env.get 12 = .i .i64 (p : Int)) ?_ ?_
  · simp only [↓Z0, ↓Xp, Xq, Xc, binP, ofCells, Nat.reduceAdd, Nat.reduceMul, Nat.reduceLT, Nat.reduceEqDiff, reduceIte, Xm, Nat.reduceLeDiff, g0, g1, g2, g7, g8, qe, hlv, wA, hpi]
    (repeat' (first | exact True.intro | rfl | assumption | omega | apply And.intro | exact St.get_putk _ _ _ | (simp only [Z0L_, Z0M_]; omega) | (simp (disch := omega) only [Z0H_, Z0I_, Z0J_, qe]; done) | refine ownB.move o7 ?_ ?_ ?_ | (intro k hk hn; first | rfl | (simp (disch := omega) only [Z0H_, Z0I_, Z0J_]; first | done | rfl)) | refine ⟨_, rfl, ?_⟩))
  clear g0 g1 g2 g7 g8 qe hke o7
  rintro ⟨env, ⟨sto, c⟩⟩ ⟨g0, g1, g7, g8, qe, hke, o7, g12⟩
  simp only at g0 g1 g7 g8 qe hke o7 g12
  replace qe : ∀ n, St.get ⟨sto, n⟩ ke = some (.cells (natsC Ends) false) := fun _ => qe
  refine Za (fun x => x.env.get 0 = .fsl fs.length (fsC fs) ∧ x.env.get 1 = .fsl b.length (ofBytes b) ∧ x.env.get 7 = v7 ∧ x.env.get 8 = .rsl ke 1 0 Ends.length ∧ x.st.get ke = some (.cells (natsC Ends) false) ∧ (ke < x.st.cnt) ∧ (ownB x.st ke v7 All) ∧ x.env.get 12 = .i .i64 (p : Int) ∧ x.env.get 13 = .i .i64 ((0 : Nat) : Int) ∧ x.env.get 14 = .i .i64 ((0 : Nat) : Int)) ?_ ?_
  · simp only [↓Z0, ↓Xp, Xq, Xc, binP, ofCells, Nat.reduceAdd, Nat.reduceMul, Nat.reduceLT, Nat.reduceEqDiff, reduceIte, Xm, Nat.reduceLeDiff, g0, g1, g7, g8, qe, g12]
    (repeat' (first | exact True.intro | rfl | assumption | omega | apply And.intro | exact St.get_putk _ _ _ | (simp only [Z0L_, Z0M_]; omega) | (simp (disch := omega) only [Z0H_, Z0I_, Z0J_, qe]; done) | refine ownB.move o7 ?_ ?_ ?_ | (intro k hk hn; first | rfl | (simp (disch := omega) only [Z0H_, Z0I_, Z0J_]; first | done | rfl)) | refine ⟨_, rfl, ?_⟩))
  clear g0 g1 g7 g8 qe hke o7 g12
  rintro ⟨env, ⟨sto, c⟩⟩ ⟨g0, g1, g7, g8, qe, hke, o7, g12, g13, g14⟩
  simp only at g0 g1 g7 g8 qe hke o7 g12 g13 g14
  replace qe : ∀ n, St.get ⟨sto, n⟩ ke = some (.cells (natsC Ends) false) := fun _ => qe
  clear hpi hp wA
  -- loop 2: all read again
  refine Za (fun x => x.env.get 7 = v7 ∧ x.env.get 13 = .i .i64 (All.length : Int)) ?_ ?_
  · rw [Z0]
    simp only [↓Xp, Xq, Xc, binP, ofCells, Nat.reduceAdd, Nat.reduceMul, Nat.reduceLT, Nat.reduceEqDiff, reduceIte]
    refine Z9 (k := fs.length - 0) (fun d x => ∃ (i a n : Nat), i ≤ fs.length ∧ d = fs.length - i ∧ All.drop a = rowB (fs.drop i) ∧ a ≤ All.length ∧ Ends.drop (n + 1) = endsB a (fs.drop i) ∧ n ≤ i ∧ x.env.get 0 = .fsl fs.length (fsC fs) ∧ x.env.get 1 = .fsl b.length (ofBytes b) ∧ x.env.get 7 = v7 ∧ x.env.get 8 = .rsl ke 1 0 Ends.length ∧ x.env.get 12 = .i .i64 (p : Int) ∧ x.env.get 13 = .i .i64 (a : Int) ∧ x.env.get 14 = .i .i64 (n : Int) ∧ x.env.get 15 = .i .i64 (i : Int) ∧ x.st.get ke = some (.cells (natsC Ends) false) ∧ ke < x.st.cnt ∧ ownB x.st ke v7 All) ?_ ?_ (by omega)
    · skip
      clear g0 g1 g7 g8 qe hke o7 g12 g13 g14
      rintro d ⟨env, ⟨sto, c⟩⟩ ⟨i, a, n, hi, rfl, hd, ha, hen, hni, g0, g1, g7, g8, g12, g13, g14, g15, qe, hke, o7⟩
      simp only at g0 g1 g7 g8 g12 g13 g14 g15 qe hke o7
      replace qe : ∀ n, St.get ⟨sto, n⟩ ke = some (.cells (natsC Ends) false) := fun _ => qe
      by_cases hlt : i < fs.length
      · have hlti : ((i : Nat) : Int) < ((fs.length : Nat) : Int) := by omega
        have h0i : 0 ≤ ((i : Nat) : Int) := by omega
        have hwi : IntKind.i64.wrap ((i : Int) + Int.ofNat 1) = ((i + 1 : Nat) : Int) := by
          rw [wr_i64 _ ⟨by show _ ≤ (i : Int) + 1; omega, by show (i : Int) + 1 < _; omega⟩]; rfl
        have hld := fun st => hldF i hlt st
        have hcons := List.drop_eq_getElem_cons hlt
        have hXE := hE _ (List.getElem_mem hlt)
        have hX30 := h30 _ (List.getElem_mem hlt)
        rw [hcons] at hd hen
        generalize fs[i] = X at *
        refine Za (fun x => x.env.get 0 = .fsl fs.length (fsC fs) ∧ x.env.get 1 = .fsl b.length (ofBytes b) ∧ x.env.get 7 = v7 ∧ x.env.get 8 = .rsl ke 1 0 Ends.length ∧ x.env.get 12 = .i .i64 (p : Int) ∧ x.env.get 13 = .i .i64 (a : Int) ∧ x.env.get 14 = .i .i64 (n : Int) ∧ x.env.get 15 = .i .i64 (i : Int) ∧ x.st.get ke = some (.cells (natsC Ends) false) ∧ (ke < x.st.cnt) ∧ (ownB x.st ke v7 All)) ?_ ?_
        · simp only [↓Z0, ↓Xp, Xq, Xc, binP, ofCells, Nat.reduceAdd, Nat.reduceMul, Nat.reduceLT, Nat.reduceEqDiff, reduceIte, Xm, Nat.reduceLeDiff, g0, g1, g7, g8, g12, g13, g14, g15, qe, hln, hlti]
          (repeat' (first | exact True.intro | rfl | assumption | omega | apply And.intro | exact St.get_putk _ _ _ | (simp only [Z0L_, Z0M_]; omega) | (simp (disch := omega) only [Z0H_, Z0I_, Z0J_, qe]; done) | refine ownB.move o7 ?_ ?_ ?_ | (intro k hk hn; first | rfl | (simp (disch := omega) only [Z0H_, Z0I_, Z0J_]; first | done | rfl)) | refine ⟨_, rfl, ?_⟩))
        clear g0 g1 g7 g8 g12 g13 g14 g15 qe hke o7
        rintro ⟨env, ⟨sto, c⟩⟩ ⟨g0, g1, g7, g8, g12, g13, g14, g15, qe, hke, o7⟩
        simp only at g0 g1 g7 g8 g12 g13 g14 g15 qe hke o7
        replace qe : ∀ n, St.get ⟨sto, n⟩ ke = some (.cells (natsC Ends) false) := fun _ => qe
        rw [Z0]
        simp only [↓Xp, Xq, Xc, binP, ofCells, Nat.reduceAdd, Nat.reduceMul, Nat.reduceLT, Nat.reduceEqDiff, reduceIte]
        by_cases hX0 : X = []
        · subst hX0
          have hld0 : ∀ st, loadP st 1 (.fptr ((fsC fs).drop (i * 1))) = some [.fsl 0 []] := hld
          have e3 : (((0 : Nat) : Int) == Int.ofNat 0) = true := rfl
          simp only [↓Z0, ↓Xp, Xq, Xc, binP, ofCells, Nat.reduceAdd, Nat.reduceMul, Nat.reduceLT, Nat.reduceEqDiff, reduceIte, Xm, Nat.reduceLeDiff, g0, g1, g7, g8, g12, g13, g14, g15, qe, h0i, hfl, hlti, hld0, hln, e3, hwi]
          refine ⟨fs.length - (i + 1), by omega, i + 1, a, n, by omega, rfl, ?_, ha, ?_, by omega, ?_⟩
          · simpa [rowB, frameB] using hd
          · simpa [endsB] using hen
          (repeat' (first | exact True.intro | rfl | assumption | omega | apply And.intro | exact St.get_putk _ _ _ | (simp only [Z0L_, Z0M_]; omega) | (simp (disch := omega) only [Z0H_, Z0I_, Z0J_, qe]; done) | refine ownB.move o7 ?_ ?_ ?_ | (intro k hk hn; first | rfl | (simp (disch := omega) only [Z0H_, Z0I_, Z0J_]; first | done | rfl)) | refine ⟨_, rfl, ?_⟩))
        · skip
          have hX1 : 0 < X.length := List.length_pos_iff.2 hX0
          have hX4 : X.length ≤ 4096 := by omega
          have hfB : frameB X = frameL X := by unfold frameB; rw [if_neg hX0]
          have hd1 : All.drop a = frameL X ++ rowB (fs.drop (i + 1)) := by
            rw [← hfB]; exact hd
          have hen1 : Ends.drop (n + 1) = (a + (frameL X).length) :: endsB (a + (frameL X).length) (fs.drop (i + 1)) := by
            have h : Ends.drop (n + 1) = if X = [] then endsB a (fs.drop (i + 1)) else (a + (frameL X).length) :: endsB (a + (frameL X).length) (fs.drop (i + 1)) := hen
            rw [if_neg hX0] at h
            exact h
          have hFl := frameL_len X
          have hdl := drop_le hd1 ha
          have hdm := drop_more hd1
          have hcn := fun (y : List Ev) (m : Int) (k : Nat) => cut_no (l := X) (by omega) hX4 hXE (A := All) (a := a) (k := k) hd1 ha (y := y) (m := m)
          have hrk := fun (k : Nat) (hk : a + (frameL X).length ≤ k) (hkA : k ≤ All.length) => readL_frame (l := X) (by omega) hX4 hXE (b := All.take k) (rest := (rowB (fs.drop (i + 1))).take (k - a - (frameL X).length)) (a := a) (by rw [List.drop_take, hd1, List.take_append, List.take_of_length_le (by omega)]) (by rw [List.length_take]; omega)
          obtain ⟨A3, hA3⟩ : ∃ B, All ++ b = B := ⟨_, rfl⟩
          have hA3l : A3.length = All.length + b.length := by rw [← hA3, List.length_append]
          have hread := readL_frame (l := X) (by omega) hX4 hXE (b := A3) (rest := rowB (fs.drop (i + 1)) ++ b) (a := a) (by rw [← hA3, List.drop_append_of_le_length ha, hd1, List.append_assoc]) (by omega)
          generalize frameL X = F at *
          obtain ⟨a2, ha2⟩ : ∃ a2, a + F.length = a2 := ⟨_, rfl⟩
          rw [ha2] at hen1 hdl hdm hread
          simp only [ha2] at hcn hrk
          have hen2 : Ends.drop (n + 1 + 1) = endsB a2 (fs.drop (i + 1)) := by
            have := congrArg (List.drop 1) hen1
            rw [List.drop_drop] at this
            exact this
          have hnE : n + 1 < Ends.length := by
            rcases Nat.lt_or_ge (n + 1) Ends.length with h | h
            · exact h
            · rw [List.drop_of_length_le h] at hen1; cases hen1
          rcases o7 with ⟨_, h⟩ | ⟨ka, rfl, k7, hka, hkake⟩
          · exfalso
            rw [h] at hdl
            have : (0 : Nat) = ([] : List UInt8).length := rfl
            omega
          have o7 : ownB ⟨sto, c⟩ ke (.rsl ka 1 0 All.length) All := .inr ⟨ka, rfl, k7, hka, hkake⟩
          have hka : ka < c := hka
          replace k7 : ∀ n, St.get ⟨sto, n⟩ ka = some (.cells (ofBytes All) false) := fun _ => k7
          have e3 : ((X.length : Int) == Int.ofNat 0) = false := by simp; omega
          refine Za (fun x => x.env.get 0 = .fsl fs.length (fsC fs) ∧ x.env.get 1 = .fsl b.length (ofBytes b) ∧ x.env.get 7 = .rsl ka 1 0 All.length ∧ x.env.get 8 = .rsl ke 1 0 Ends.length ∧ x.env.get 12 = .i .i64 (p : Int) ∧ x.env.get 13 = .i .i64 (a : Int) ∧ x.env.get 14 = .i .i64 (n : Int) ∧ x.env.get 15 = .i .i64 (i : Int) ∧ x.st.get ke = some (.cells (natsC Ends) false) ∧ (ke < x.st.cnt) ∧ (ownB x.st ke (.rsl ka 1 0 All.length) All) ∧ x.st.get ka = some (.cells (ofBytes All) false) ∧ (ka < x.st.cnt)) ?_ ?_
          · simp only [↓Z0, ↓Xp, Xq, Xc, binP, ofCells, Nat.reduceAdd, Nat.reduceMul, Nat.reduceLT, Nat.reduceEqDiff, reduceIte, Xm, Nat.reduceLeDiff, g0, g1, g7, g8, g12, g13, g14, g15, qe, k7, h0i, hfl, hlti, hld, hln, e3]
            (repeat' (first | exact True.intro | rfl | assumption | omega | apply And.intro | exact St.get_putk _ _ _ | (simp only [Z0L_, Z0M_]; omega) | (simp (disch := omega) only [Z0H_, Z0I_, Z0J_, qe, k7]; done) | refine ownB.move o7 ?_ ?_ ?_ | (intro k hk hn; first | rfl | (simp (disch := omega) only [Z0H_, Z0I_, Z0J_]; first | done | rfl)) | refine ⟨_, rfl, ?_⟩))
          clear g0 g1 g7 g8 g12 g13 g14 g15 qe hke o7 k7 hka
          rintro ⟨env, ⟨sto, c⟩⟩ ⟨g0, g1, g7, g8, g12, g13, g14, g15, qe, hke, o7, k7, hka⟩
          simp only at g0 g1 g7 g8 g12 g13 g14 g15 qe hke o7 k7 hka
          replace qe : ∀ n, St.get ⟨sto, n⟩ ke = some (.cells (natsC Ends) false) := fun _ => qe
          replace k7 : ∀ n, St.get ⟨sto, n⟩ ka = some (.cells (ofBytes All) false) := fun _ => k7
          have hcb := fun n key => k_copyb (callE := evFn cfgK7 50) (st := ⟨sto, n⟩) (key := key) (deep_1 (deep_b (k7 n))) in_arg (by unfold maxBytes; omega)
          have ob := one_ofBytes b
          have cb : ∀ st : St, cellsOf st 1 (.fsl b.length (ofBytes b)) = some (b.length, ofBytes b) := fun st => cells_in (in_arg (l := b))
          have a1 : ∀ (S : St) (n key key2 : Nat), appendP ⟨(S.put key (some (.cells (ofBytes All) false))).sto, n⟩ key2 1 1 b.length (ofBytes b) (.rsl key 1 0 All.length) = some (.rsl key2 1 0 A3.length, ((⟨(S.put key (some (.cells (ofBytes All) false))).sto, n⟩ : St).put key none).put key2 (some (.cells (ofBytes A3) false))) := by
            intro S n key key2
            rw [← hA3]
            exact app_at (news := b) (get_at S n key _) (by unfold maxBytes; omega)
          have hr3 : ∀ (S : St) (n key key2 : Nat), callStep (runPure cfgK7 (evFn cfgK7 50) 15) false ⟨(S.put key (some (.cells (ofBytes A3) false))).sto, n⟩ key2 [.rsl key 1 0 A3.length, .i .i64 (a : Int)] = some (.tup [.rsl key2 5 0 X.length, .i .i64 (a2 : Int), .i .i64 0], (⟨(S.put key (some (.cells (ofBytes A3) false))).sto, n⟩ : St).put key2 (some (.cells (evsC X) false))) := fun S n key key2 => k_read_ok (st := ⟨(S.put key (some (.cells (ofBytes A3) false))).sto, n⟩) (deep_2 (deep_b (get_at S n key _)) (deep_i _ _ _)) in_arg (by omega) hread
          refine Za (fun x => x.env.get 0 = .fsl fs.length (fsC fs) ∧ x.env.get 1 = .fsl b.length (ofBytes b) ∧ x.env.get 7 = .rsl ka 1 0 All.length ∧ x.env.get 8 = .rsl ke 1 0 Ends.length ∧ x.env.get 12 = .i .i64 (p : Int) ∧ x.env.get 13 = .i .i64 (a : Int) ∧ x.env.get 14 = .i .i64 (n : Int) ∧ x.env.get 15 = .i .i64 (i : Int) ∧ x.st.get ke = some (.cells (natsC Ends) false) ∧ (ke < x.st.cnt) ∧ (ownB x.st ke (.rsl ka 1 0 All.length) All) ∧ x.st.get ka = some (.cells (ofBytes All) false) ∧ (ka < x.st.cnt) ∧ (∃ k, x.env.get 16 = .rsl k 5 0 X.length ∧ x.st.get k = some (.cells (evsC X) false)) ∧ x.env.get 17 = .i .i64 (a2 : Int) ∧ x.env.get 18 = .i .i64 0) ?_ ?_
          · simp only [↓Z0, ↓Xp, Xq, Xc, binP, ofCells, Nat.reduceAdd, Nat.reduceMul, Nat.reduceLT, Nat.reduceEqDiff, reduceIte, Xm, Nat.reduceLeDiff, g0, g1, g7, g8, g12, g13, g14, g15, qe, k7, hcb, ob, cb, a1, hr3]
            (repeat' (first | exact True.intro | rfl | assumption | omega | apply And.intro | exact St.get_putk _ _ _ | (simp only [Z0L_, Z0M_]; omega) | (simp (disch := omega) only [Z0H_, Z0I_, Z0J_, qe, k7]; done) | refine ownB.move o7 ?_ ?_ ?_ | (intro k hk hn; first | rfl | (simp (disch := omega) only [Z0H_, Z0I_, Z0J_]; first | done | rfl)) | refine ⟨_, rfl, ?_⟩))
          clear g0 g1 g7 g8 g12 g13 g14 g15 qe hke o7 k7 hka
          rintro ⟨env, ⟨sto, c⟩⟩ ⟨g0, g1, g7, g8, g12, g13, g14, g15, qe, hke, o7, k7, hka, h16, g17, g18⟩
          simp only at g0 g1 g7 g8 g12 g13 g14 g15 qe hke o7 k7 hka h16 g17 g18
          replace qe : ∀ n, St.get ⟨sto, n⟩ ke = some (.cells (natsC Ends) false) := fun _ => qe
          replace k7 : ∀ n, St.get ⟨sto, n⟩ ka = some (.cells (ofBytes All) false) := fun _ => k7
          clear hcb ob cb a1 hr3
          have hh16 := h16
          obtain ⟨k16, g16, k16c⟩ := hh16
          obtain ⟨n1, hn1⟩ : ∃ n1, n + 1 = n1 := ⟨_, rfl⟩
          rw [hn1] at hen1 hen2 hnE
          have e4 : ((0 : Int) != Int.ofNat 0) = false := rfl
          have wn : IntKind.i64.wrap ((n : Int) + Int.ofNat 1) = (n1 : Int) := by
            rw [wr_i64 _ ⟨by show _ ≤ (n : Int) + 1; omega, by show (n : Int) + 1 < _; omega⟩]
            show (n : Int) + 1 = _
            omega
          have h0n : 0 ≤ (n1 : Int) := by omega
          have hnE' : (n1 : Int) < (Ends.length : Int) := by omega
          have hlE := fun m => load_nats (st := ⟨sto, m⟩) (qe m) hen1
          have e5 : ((a2 : Int) != (a2 : Int)) = false := by simp
          have hse := fun n key => k_samee (callE := evFn cfgK7 50) (st := ⟨sto, n⟩) (key := key) (w1 := .rsl k16 5 0 X.length) (w2 := .fsl X.length (evsC X)) (deep_2 (deep_e (st := ⟨sto, n⟩) (fz := false) k16c) (deep_fsl _ _ _)) (inEl_fsl X) (inEl_fsl X) (by omega)
          have e6 : decide (X = X) = true := by simp
          refine Za (fun x => x.env.get 0 = .fsl fs.length (fsC fs) ∧ x.env.get 1 = .fsl b.length (ofBytes b) ∧ x.env.get 7 = .rsl ka 1 0 All.length ∧ x.env.get 8 = .rsl ke 1 0 Ends.length ∧ x.env.get 12 = .i .i64 (p : Int) ∧ x.env.get 13 = .i .i64 (a : Int) ∧ x.env.get 14 = .i .i64 (n : Int) ∧ x.env.get 15 = .i .i64 (i : Int) ∧ x.st.get ke = some (.cells (natsC Ends) false) ∧ (ke < x.st.cnt) ∧ (ownB x.st ke (.rsl ka 1 0 All.length) All) ∧ x.st.get ka = some (.cells (ofBytes All) false) ∧ (ka < x.st.cnt) ∧ x.env.get 17 = .i .i64 (a2 : Int) ∧ x.env.get 18 = .i .i64 0) ?_ ?_
          · simp only [↓Z0, ↓Xp, Xq, Xc, binP, ofCells, Nat.reduceAdd, Nat.reduceMul, Nat.reduceLT, Nat.reduceEqDiff, reduceIte, List.getElem?_cons_zero, List.getElem?_cons_succ, Z0L_, g0, g1, g7, g8, g12, g13, g14, g15, qe, k7, g17, g18, g16, h0i, hfl, hlti, hld, e4, wn, h0n, hnE', hlE, e5, hse, e6, unP]
            (repeat' (first | exact True.intro | rfl | assumption | omega | apply And.intro | exact St.get_putk _ _ _ | (simp only [Z0L_, Z0M_]; omega) | (simp (disch := omega) only [Z0H_, Z0I_, Z0J_, qe, k7]; done) | refine ownB.move o7 ?_ ?_ ?_ | (intro k hk hn; first | rfl | (simp (disch := omega) only [Z0H_, Z0I_, Z0J_]; first | done | rfl)) | refine ⟨_, rfl, ?_⟩))
          clear g0 g1 g7 g8 g12 g13 g14 g15 qe hke o7 k7 hka h16 g17 g18
          rintro ⟨env, ⟨sto, c⟩⟩ ⟨g0, g1, g7, g8, g12, g13, g14, g15, qe, hke, o7, k7, hka, g17, g18⟩
          simp only at g0 g1 g7 g8 g12 g13 g14 g15 qe hke o7 k7 hka g17 g18
          replace qe : ∀ n, St.get ⟨sto, n⟩ ke = some (.cells (natsC Ends) false) := fun _ => qe
          replace k7 : ∀ n, St.get ⟨sto, n⟩ ka = some (.cells (ofBytes All) false) := fun _ => k7
          clear hse g16 k16c hlE
          -- cut
          have hsl := upto_own (k := ka) (n := All.length) (p := p) hpA
          have hdp : ∀ n, deepL ⟨sto, n⟩ [.rsl ka 1 0 p, .i .i64 (a : Int)] = some [.fsl p (ofBytes (All.take p)), .i .i64 (a : Int)] := fun n => deep_2 (deep_upto (k7 n) hpA) (deep_i _ _ _)
          have hdl2 : (All.take p).length ≤ 140737488355328 := by rw [List.length_take]; omega
          have hrr : ∃ rr : Int, (a2 ≤ p → rr = 0) ∧ (a ≤ p → p < a2 → rr ≠ 0) ∧ ((∃ y m, readL (All.take p) (a : Int) = .inl (y, m) ∧ rr = 0) ∨ readL (All.take p) (a : Int) = .inr rr) := by
            cases hr : readL (All.take p) (a : Int) with
            | inl q =>
              obtain ⟨y, m⟩ := q
              refine ⟨0, fun _ => rfl, fun h1 h2 => ?_, .inl ⟨y, m, rfl, rfl⟩⟩
              exact (hcn y m p h2 h1 hpA hr).elim
            | inr e =>
              refine ⟨e, fun h => ?_, fun _ _ => readL_err hr, .inr rfl⟩
              have := hrk p h hpA
              rw [this] at hr
              cases hr
          obtain ⟨rr, hr1, hr2, hr3⟩ := hrr
          refine Za (fun x => x.env.get 21 = .i .i64 rr ∧ x.env.get 0 = .fsl fs.length (fsC fs) ∧ x.env.get 1 = .fsl b.length (ofBytes b) ∧ x.env.get 7 = .rsl ka 1 0 All.length ∧ x.env.get 8 = .rsl ke 1 0 Ends.length ∧ x.env.get 12 = .i .i64 (p : Int) ∧ x.env.get 13 = .i .i64 (a : Int) ∧ x.env.get 14 = .i .i64 (n : Int) ∧ x.env.get 15 = .i .i64 (i : Int) ∧ x.st.get ke = some (.cells (natsC Ends) false) ∧ (ke < x.st.cnt) ∧ (ownB x.st ke (.rsl ka 1 0 All.length) All) ∧ x.st.get ka = some (.cells (ofBytes All) false) ∧ (ka < x.st.cnt) ∧ x.env.get 17 = .i .i64 (a2 : Int) ∧ x.env.get 18 = .i .i64 0) ?_ ?_
          · rcases hr3 with ⟨y, m, hy, rfl⟩ | hy
            · have hc1 := fun n key => k_read_ok (callE := evFn cfgK7 50) (st := ⟨sto, n⟩) (key := key) (hdp n) (in_take hpA) hdl2 hy
              simp only [↓Z0, ↓Xp, Xq, Xc, binP, ofCells, Nat.reduceAdd, Nat.reduceMul, Nat.reduceLT, Nat.reduceEqDiff, reduceIte, Xm, Nat.reduceLeDiff, g0, g1, g7, g8, g12, g13, g14, g15, qe, k7, g17, g18, hlr, hsl, hc1]
              (repeat' (first | exact True.intro | rfl | assumption | omega | apply And.intro | exact St.get_putk _ _ _ | (simp only [Z0L_, Z0M_]; omega) | (simp (disch := omega) only [Z0H_, Z0I_, Z0J_, qe, k7]; done) | refine ownB.move o7 ?_ ?_ ?_ | (intro k hk hn; first | rfl | (simp (disch := omega) only [Z0H_, Z0I_, Z0J_]; first | done | rfl)) | refine ⟨_, rfl, ?_⟩))
            · have hc1 := fun n key => k_read_no (callE := evFn cfgK7 50) (st := ⟨sto, n⟩) (key := key) (hdp n) (in_take hpA) hdl2 hy
              simp only [↓Z0, ↓Xp, Xq, Xc, binP, ofCells, Nat.reduceAdd, Nat.reduceMul, Nat.reduceLT, Nat.reduceEqDiff, reduceIte, Xm, Nat.reduceLeDiff, g0, g1, g7, g8, g12, g13, g14, g15, qe, k7, g17, g18, hlr, hsl, hc1]
              (repeat' (first | exact True.intro | rfl | assumption | omega | apply And.intro | exact St.get_putk _ _ _ | (simp only [Z0L_, Z0M_]; omega) | (simp (disch := omega) only [Z0H_, Z0I_, Z0J_, qe, k7]; done) | refine ownB.move o7 ?_ ?_ ?_ | (intro k hk hn; first | rfl | (simp (disch := omega) only [Z0H_, Z0I_, Z0J_]; first | done | rfl)) | refine ⟨_, rfl, ?_⟩))
          clear g0 g1 g7 g8 g12 g13 g14 g15 qe hke o7 k7 hka g17 g18
          clear hdp
          rintro ⟨env, ⟨sto, c⟩⟩ ⟨g21, g0, g1, g7, g8, g12, g13, g14, g15, qe, hke, o7, k7, hka, g17, g18⟩
          simp only at g21
          simp only at g0 g1 g7 g8 g12 g13 g14 g15 qe hke o7 k7 hka g17 g18
          replace qe : ∀ n, St.get ⟨sto, n⟩ ke = some (.cells (natsC Ends) false) := fun _ => qe
          replace k7 : ∀ n, St.get ⟨sto, n⟩ ka = some (.cells (ofBytes All) false) := fun _ => k7
          refine Za (fun x => x.env.get 0 = .fsl fs.length (fsC fs) ∧ x.env.get 1 = .fsl b.length (ofBytes b) ∧ x.env.get 7 = .rsl ka 1 0 All.length ∧ x.env.get 8 = .rsl ke 1 0 Ends.length ∧ x.env.get 12 = .i .i64 (p : Int) ∧ x.env.get 13 = .i .i64 (a : Int) ∧ x.env.get 14 = .i .i64 (n : Int) ∧ x.env.get 15 = .i .i64 (i : Int) ∧ x.st.get ke = some (.cells (natsC Ends) false) ∧ (ke < x.st.cnt) ∧ (ownB x.st ke (.rsl ka 1 0 All.length) All) ∧ x.st.get ka = some (.cells (ofBytes All) false) ∧ (ka < x.st.cnt) ∧ x.env.get 17 = .i .i64 (a2 : Int) ∧ x.env.get 18 = .i .i64 0) ?_ ?_
          · by_cases hap : a ≤ p
            · have e7 : (a : Int) ≤ (p : Int) := by omega
              by_cases ha2p : a2 ≤ p
              · have e8 : (a2 : Int) ≤ (p : Int) := by omega
                have e9 : (rr == Int.ofNat 0) = true := by rw [hr1 ha2p]; rfl
                have heq : eqbP true (.b true) (.b true) = some (.b false) := rfl
                simp only [↓Z0, ↓Xp, Xq, Xc, binP, ofCells, Nat.reduceAdd, Nat.reduceMul, Nat.reduceLT, Nat.reduceEqDiff, reduceIte, Xm, Nat.reduceLeDiff, g0, g1, g7, g8, g12, g13, g14, g15, qe, k7, g17, g18, g21, e7, e8, e9, heq]
                (repeat' (first | exact True.intro | rfl | assumption | omega | apply And.intro | exact St.get_putk _ _ _ | (simp only [Z0L_, Z0M_]; omega) | (simp (disch := omega) only [Z0H_, Z0I_, Z0J_, qe, k7]; done) | refine ownB.move o7 ?_ ?_ ?_ | (intro k hk hn; first | rfl | (simp (disch := omega) only [Z0H_, Z0I_, Z0J_]; first | done | rfl)) | refine ⟨_, rfl, ?_⟩))
              · have e8 : ¬ (a2 : Int) ≤ (p : Int) := by omega
                have e9 : (rr == Int.ofNat 0) = false := by simpa using hr2 hap (by omega)
                have heq : eqbP true (.b false) (.b false) = some (.b false) := rfl
                simp only [↓Z0, ↓Xp, Xq, Xc, binP, ofCells, Nat.reduceAdd, Nat.reduceMul, Nat.reduceLT, Nat.reduceEqDiff, reduceIte, Xm, Nat.reduceLeDiff, g0, g1, g7, g8, g12, g13, g14, g15, qe, k7, g17, g18, g21, e7, e8, e9, heq]
                (repeat' (first | exact True.intro | rfl | assumption | omega | apply And.intro | exact St.get_putk _ _ _ | (simp only [Z0L_, Z0M_]; omega) | (simp (disch := omega) only [Z0H_, Z0I_, Z0J_, qe, k7]; done) | refine ownB.move o7 ?_ ?_ ?_ | (intro k hk hn; first | rfl | (simp (disch := omega) only [Z0H_, Z0I_, Z0J_]; first | done | rfl)) | refine ⟨_, rfl, ?_⟩))
            · have e7 : ¬ (a : Int) ≤ (p : Int) := by omega
              simp only [↓Z0, ↓Xp, Xq, Xc, binP, ofCells, Nat.reduceAdd, Nat.reduceMul, Nat.reduceLT, Nat.reduceEqDiff, reduceIte, Xm, Nat.reduceLeDiff, g0, g1, g7, g8, g12, g13, g14, g15, qe, k7, g17, g18, g21, e7]
              (repeat' (first | exact True.intro | rfl | assumption | omega | apply And.intro | exact St.get_putk _ _ _ | (simp only [Z0L_, Z0M_]; omega) | (simp (disch := omega) only [Z0H_, Z0I_, Z0J_, qe, k7]; done) | refine ownB.move o7 ?_ ?_ ?_ | (intro k hk hn; first | rfl | (simp (disch := omega) only [Z0H_, Z0I_, Z0J_]; first | done | rfl)) | refine ⟨_, rfl, ?_⟩))
          clear g0 g1 g7 g8 g12 g13 g14 g15 qe hke o7 k7 hka g17 g18
          clear g21
          rintro ⟨env, ⟨sto, c⟩⟩ ⟨g0, g1, g7, g8, g12, g13, g14, g15, qe, hke, o7, k7, hka, g17, g18⟩
          simp only at g0 g1 g7 g8 g12 g13 g14 g15 qe hke o7 k7 hka g17 g18
          replace qe : ∀ n, St.get ⟨sto, n⟩ ke = some (.cells (natsC Ends) false) := fun _ => qe
          replace k7 : ∀ n, St.get ⟨sto, n⟩ ka = some (.cells (ofBytes All) false) := fun _ => k7
          simp only [↓Z0, ↓Xp, Xq, Xc, binP, ofCells, Nat.reduceAdd, Nat.reduceMul, Nat.reduceLT, Nat.reduceEqDiff, reduceIte, Xm, Nat.reduceLeDiff, g0, g1, g7, g8, g12, g13, g14, g15, qe, k7, g17, g18, wn, hwi]
          refine ⟨fs.length - (i + 1), by omega, i + 1, a2, n1, by omega, rfl, hdm, hdl, hen2, by omega, ?_⟩
          (repeat' (first | exact True.intro | rfl | assumption | omega | apply And.intro | exact St.get_putk _ _ _ | (simp only [Z0L_, Z0M_]; omega) | (simp (disch := omega) only [Z0H_, Z0I_, Z0J_, qe, k7]; done) | refine ownB.move o7 ?_ ?_ ?_ | (intro k hk hn; first | rfl | (simp (disch := omega) only [Z0H_, Z0I_, Z0J_]; first | done | rfl)) | refine ⟨_, rfl, ?_⟩))
      · skip
        have hil : i = fs.length := by omega
        subst hil
        have haA : a = All.length := by
          rw [List.drop_length] at hd
          have := congrArg List.length hd
          rw [List.length_drop] at this
          have h0 : (rowB []).length = 0 := rfl
          omega
        subst haA
        simp only [↓Z0, ↓Xp, Xq, Xc, binP, ofCells, Nat.reduceAdd, Nat.reduceMul, Nat.reduceLT, Nat.reduceEqDiff, reduceIte, Xm, Nat.reduceLeDiff, g0, g1, g7, g8, g12, g13, g14, g15, qe, hln, Int.lt_irrefl]
        (repeat' (first | exact True.intro | rfl | assumption | omega | apply And.intro))
    · refine ⟨0, 0, 0, Nat.zero_le _, rfl, by rw [List.drop_zero, List.drop_zero]; exact hAll.symm, Nat.zero_le _, by rw [← hEnds]; rfl, Nat.le_refl _, ?_⟩
      simp only [Env.get_put, Nat.reduceEqDiff, if_false, if_true, g0, g1, g7, g8, g12, g13, g14]
      (repeat' (first | exact True.intro | rfl | assumption | omega | apply And.intro | exact St.get_putk _ _ _ | (simp only [Z0L_, Z0M_]; omega) | (simp (disch := omega) only [Z0H_, Z0I_, Z0J_, qe]; done) | refine ownB.move o7 ?_ ?_ ?_ | (intro k hk hn; first | rfl | (simp (disch := omega) only [Z0H_, Z0I_, Z0J_]; first | done | rfl)) | refine ⟨_, rfl, ?_⟩))
  clear g0 g1 g7 g8 g12 g13 g14 qe hke o7
  rintro ⟨env, ⟨sto, c⟩⟩ ⟨g7, g13⟩
  simp only at g7 g13
  have e7 : ((All.length : Int) == (All.length : Int)) = true := by simp
  simp only [↓Z0, ↓Xp, Xq, Xc, binP, ofCells, Nat.reduceAdd, Nat.reduceMul, Nat.reduceLT, Nat.reduceEqDiff, reduceIte, Xm, Nat.reduceLeDiff, g7, g13, hlv, e7, aw]
  refine ⟨nofun, _, rfl, ?_⟩
  simp only [tupV, ↓Z0, ↓Xp, Xq, Xc, binP, ofCells, Nat.reduceAdd, Nat.reduceMul, Nat.reduceLT, Nat.reduceEqDiff, reduceIte]
theorem is_frames : ∀ {n : Nat} {ps : List PV}, ps.length = n * 1 → (∀ j, j < n → (Sh.sl evSh).Is ((ps.drop (j * 1)).take 1)) → ∃ fs : List (List Ev), ps = fsC fs ∧ fs.length = n ∧ (∀ l ∈ fs, l.length ≤ reachBytes) ∧ ∀ l ∈ fs, ∀ e ∈ l, EvIn e
  | 0, ps, hl, _ => ⟨[], by have : ps = [] := List.length_eq_zero_iff.1 (by omega); rw [this]; rfl, rfl, by simp, by simp⟩
  | n + 1, ps, hl, h => by
    obtain ⟨m, qs, h1, h2, h3, h4⟩ := h 0 (by omega)
    obtain ⟨x, rfl, rfl, hx⟩ := is_evs h2 h4
    obtain ⟨fs, q1, q2, q3, q4⟩ := is_frames (n := n) (ps := ps.drop 1) (by rw [List.length_drop]; omega) (fun j hj => by
      have := h (j + 1) (by omega)
      rw [List.drop_drop, show 1 + j * 1 = (j + 1) * 1 by omega]
      exact this)
    refine ⟨x :: fs, ?_, by simp [q2], ?_, ?_⟩
    · show ps = .fsl x.length (evsC x) :: fsC fs
      rw [← q1]
      have : ps = ps.take 1 ++ ps.drop 1 := (List.take_append_drop 1 ps).symm
      rw [Nat.zero_mul, List.drop_zero] at h1
      rw [this, h1]
      rfl
    · intro l hl
      rcases List.mem_cons.1 hl with rfl | hl
      · exact h3
      · exact q3 l hl
    · intro l hl
      rcases List.mem_cons.1 hl with rfl | hl
      · exact hx
      · exact q4 l hl
theorem row_law (n : Nat) (ps : List PV) (hl : ps.length = n * (Sh.sl evSh).width) (hn : n ≤ reachBytes) (h : ∀ j, j < n → (Sh.sl evSh).Is ((ps.drop (j * (Sh.sl evSh).width)).take (Sh.sl evSh).width)) (n2 : Nat) (ps2 : List PV) (hl2 : ps2.length = n2 * (Sh.i .u8).width) (hn2 : n2 ≤ reachBytes) (h2 : ∀ j, j < n2 → (Sh.i .u8).Is ((ps2.drop (j * (Sh.i .u8).width)).take (Sh.i .u8).width)) (at0 : Int) (hat : (Lit.int .i64 at0).wf = true) : ∃ fuel, evP cfgK7 fuel 8 [.fsl n ps, .fsl n2 ps2, .i .i64 at0] = some (.b true) := by
  obtain ⟨fs, rfl, rfl, hL, hE⟩ := is_frames hl h
  obtain ⟨b, rfl, rfl⟩ := is_bytes hl2 h2
  exact row_ev (by unfold reachBytes at hn; omega) (by unfold reachBytes at hn2; omega) (fun l hl => by have := hL l hl; unfold reachBytes at this; omega) hE (i64_wf hat)
end Go.Pe
