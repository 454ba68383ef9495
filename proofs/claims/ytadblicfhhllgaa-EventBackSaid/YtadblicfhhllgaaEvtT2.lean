/-
  EventBack, by the interpreter of plain data. No condition.
-/
import Derived.Test.YtadblicfhhllgaaEvtAs
set_option linter.unusedVariables false
set_option linter.unusedSimpArgs false
namespace Go.Pe
open Go Go.Am Go.RowKit

set_option maxHeartbeats 8000000 in
set_option maxRecDepth 100000 in
theorem back_ev {l : List Ev} {b : List UInt8} {at0 : Int} {turn : UInt8} (hlb : l.length ≤ 140737488355328) (hbb : b.length ≤ 140737488355328) (hE : ∀ e ∈ l, EvIn e) (hat : in64 at0) : ∃ fuel, evP cfgK7 fuel 5 [.fsl l.length (evsC l), .fsl b.length (ofBytes b), .i .i64 at0, .i .u8 turn.toNat] = some (.b true) := by
  refine ⟨310 + 1, ev_flat rfl rfl (fun _ => rfl) (evFn_W (by kernel_rfl : cfgK7.fn 5 = some m5) ?_)⟩
  unfold m5
  have aw := fun st key => k_awake (callE := evFn cfgK7 310) st key
  have hln : ∀ (n : Nat) (cs : List PV), lenP (.fsl n cs) = some (.i .i64 n) := fun _ _ => rfl
  have hlr : ∀ (a b c n : Nat), lenP (.rsl a b c n) = some (.i .i64 n) := fun _ _ _ _ => rfl
  have d0 : ∀ st : St, deepL st [] = some [] := fun _ => rfl
  by_cases z0 : 300 < l.length
  · have e0 : (l.length : Int) > Int.ofNat 300 := by show (l.length : Int) > 300; omega
    simp only [putArgs, ↓Z0, ↓Xp, Xq, Xc, binP, ofCells, Nat.reduceAdd, Nat.reduceMul, Nat.reduceLT, Nat.reduceEqDiff, reduceIte, Xm, Nat.reduceLeDiff, hln, e0, aw]
    refine ⟨nofun, _, rfl, ?_⟩
    simp only [tupV, ↓Z0, ↓Xp, Xq, Xc, binP, ofCells, Nat.reduceAdd, Nat.reduceMul, Nat.reduceLT, Nat.reduceEqDiff, reduceIte]
  have e0 : ¬ (l.length : Int) > Int.ofNat 300 := by show ¬ (l.length : Int) > 300; omega
  by_cases z1 : 2000 < b.length
  · have e1 : (b.length : Int) > Int.ofNat 2000 := by show (b.length : Int) > 2000; omega
    simp only [putArgs, ↓Z0, ↓Xp, Xq, Xc, binP, ofCells, Nat.reduceAdd, Nat.reduceMul, Nat.reduceLT, Nat.reduceEqDiff, reduceIte, Xm, Nat.reduceLeDiff, hln, e0, e1, aw]
    refine ⟨nofun, _, rfl, ?_⟩
    simp only [tupV, ↓Z0, ↓Xp, Xq, Xc, binP, ofCells, Nat.reduceAdd, Nat.reduceMul, Nat.reduceLT, Nat.reduceEqDiff, reduceIte]
  have e1 : ¬ (b.length : Int) > Int.ofNat 2000 := by show ¬ (b.length : Int) > 2000; omega
  have hl4 : l.length ≤ 4096 := by omega
  refine Za (fun x => x.env.get 0 = .fsl l.length (evsC l) ∧ x.env.get 1 = .fsl b.length (ofBytes b) ∧ x.env.get 2 = .i .i64 at0 ∧ x.env.get 3 = .i .u8 turn.toNat) ?_ ?_
  · simp only [↓Z0, ↓Xp, Xq, Xc, binP, ofCells, Nat.reduceAdd, Nat.reduceMul, Nat.reduceLT, Nat.reduceEqDiff, reduceIte, Xm, Nat.reduceLeDiff, putArgs]
    (repeat' (first | exact True.intro | rfl | assumption | omega | apply And.intro | exact St.get_putk _ _ _ | refine ⟨_, rfl, ?_⟩))
  rintro ⟨env, ⟨sto, c⟩⟩ ⟨g0, g1, g2, g3⟩
  simp only at g0 g1 g2 g3
  refine Za (fun x => x.env.get 0 = .fsl l.length (evsC l) ∧ x.env.get 1 = .fsl b.length (ofBytes b) ∧ x.env.get 2 = .i .i64 at0 ∧ x.env.get 3 = .i .u8 turn.toNat) ?_ ?_
  · simp only [↓Z0, ↓Xp, Xq, Xc, binP, ofCells, Nat.reduceAdd, Nat.reduceMul, Nat.reduceLT, Nat.reduceEqDiff, reduceIte, Xm, Nat.reduceLeDiff, g0, g1, g2, g3, hln, e0, e1]
    (repeat' (first | exact True.intro | rfl | assumption | omega | apply And.intro | exact St.get_putk _ _ _ | refine ⟨_, rfl, ?_⟩))
  clear g0 g1 g2 g3
  rintro ⟨env, ⟨sto, c⟩⟩ ⟨g0, g1, g2, g3⟩
  simp only at g0 g1 g2 g3
  -- what is read, framed again
  have hd1 : ∀ n, deepL ⟨sto, n⟩ [.fsl b.length (ofBytes b), .i .i64 (Int.ofNat 0)] = some [.fsl b.length (ofBytes b), .i .i64 (Int.ofNat 0)] := fun n => deep_2 (deep_fsl _ _ _) (deep_i _ _ _)
  refine Za (fun x => x.env.get 0 = .fsl l.length (evsC l) ∧ x.env.get 1 = .fsl b.length (ofBytes b) ∧ x.env.get 2 = .i .i64 at0 ∧ x.env.get 3 = .i .u8 turn.toNat) ?_ ?_
  · cases hr : readL b (Int.ofNat 0) with
    | inr e =>
      have he := readL_err hr
      have e3 : (e == Int.ofNat 0) = false := by simpa using he
      have hc1 := fun n key => k_read_no (callE := evFn cfgK7 310) (st := ⟨sto, n⟩) (key := key) (hd1 n) in_arg hbb hr
      simp only [↓Z0, ↓Xp, Xq, Xc, binP, ofCells, Nat.reduceAdd, Nat.reduceMul, Nat.reduceLT, Nat.reduceEqDiff, reduceIte, Xm, Nat.reduceLeDiff, g0, g1, g2, g3, hc1, e3]
      (repeat' (first | exact True.intro | rfl | assumption | omega | apply And.intro))
    | inl q =>
      obtain ⟨x, m⟩ := q
      obtain ⟨a, rest, ha, _, hx1, hx4, hxE, hxd, hxm⟩ := readL_inv hr
      have ha0 : a = 0 := by simp at ha; omega
      subst ha0
      rw [List.drop_zero] at hxd
      rw [Nat.zero_add] at hxm
      have hx0 : x ≠ [] := by intro e; rw [e] at hx1; simp at hx1
      have hc1 := fun n key => k_read_ok (callE := evFn cfgK7 310) (st := ⟨sto, n⟩) (key := key) (hd1 n) in_arg hbb hr
      have e3 : ((0 : Int) == Int.ofNat 0) = true := rfl
      have e4 : ((0 : Int) != Int.ofNat 0) = false := rfl
      have hbl := congrArg List.length hxd
      rw [List.length_append] at hbl
      have hfl := frameL_len x
      have e5 : ¬ m < Int.ofNat 1 := by show ¬ m < 1; omega
      have e6 : ¬ m > (b.length : Int) := by show ¬ m > _; omega
      have hc2 := fun (m n key key2 : Nat) => k_frame (callE := evFn cfgK7 310) (st := ⟨((⟨sto, m⟩ : St).put key (some (.cells (evsC x) false))).sto, n⟩) (key := key2) (deep_1 (deep_e (St.get_putk ⟨sto, m⟩ key (some (.cells (evsC x) false))))) hx0 hx4
      have hcut := cut_in (in_arg (l := b)) (a := (frameL x).length) (by omega) (by omega)
      rw [hxd, List.take_left, ← hxd] at hcut
      have hsb : ∀ (S : St) (n key key2 : Nat), callStep (runPure cfgK7 (evFn cfgK7 310) 12) false ⟨(S.put key (some (.cells (ofBytes (frameL x)) false))).sto, n⟩ key2 [.rsl key 1 0 (frameL x).length, .fsl (frameL x).length (ofBytes (frameL x))] = some (.b (frameL x == frameL x), ⟨(S.put key (some (.cells (ofBytes (frameL x)) false))).sto, n⟩) := fun S n key key2 => k_sameb (deep_2 (deep_b (St.get_putk S key (some (.cells (ofBytes (frameL x)) false)))) (deep_fsl _ _ _)) in_arg in_arg
      rw [hxm] at hc1 e5 e6
      simp only [↓Z0, ↓Xp, Xq, Xc, binP, ofCells, Nat.reduceAdd, Nat.reduceMul, Nat.reduceLT, Nat.reduceEqDiff, reduceIte, Xm, Nat.reduceLeDiff, g0, g1, g2, g3, hc1, e3, e4, hc2, e5, e6, hln, hcut, hsb, beq_self_eq_true, unP]
      (repeat' (first | exact True.intro | rfl | assumption | omega | apply And.intro))
  clear g0 g1 g2 g3
  clear hd1
  rintro ⟨env, ⟨sto, c⟩⟩ ⟨g0, g1, g2, g3⟩
  simp only at g0 g1 g2 g3
  -- an event ahead, the bytes copied
  obtain ⟨ka, rfl⟩ : ∃ ka, ka = c := ⟨c, rfl⟩
  refine Za (fun x => x.env.get 0 = .fsl l.length (evsC l) ∧ x.env.get 1 = .fsl b.length (ofBytes b) ∧ x.env.get 2 = .i .i64 at0 ∧ x.env.get 3 = .i .u8 turn.toNat ∧ x.env.get 14 = .ptr ka 0 ∧ x.st.get ka = some (.cells (evC Ev.zero) false) ∧ (ka < x.st.cnt)) ?_ ?_
  · simp only [↓Z0, ↓Xp, Xq, Xc, binP, ofCells, Nat.reduceAdd, Nat.reduceMul, Nat.reduceLT, Nat.reduceEqDiff, reduceIte, Xm, Nat.reduceLeDiff, g0, g1, g2, g3, Ev.zero]
    (repeat' (first | exact True.intro | rfl | assumption | omega | apply And.intro | exact St.get_putk _ _ _ | refine ⟨_, rfl, ?_⟩))
  clear g0 g1 g2 g3
  rintro ⟨env, ⟨sto, c⟩⟩ ⟨g0, g1, g2, g3, g14, qa, hc0⟩
  simp only at g0 g1 g2 g3 g14 qa hc0
  replace qa : ∀ n, St.get ⟨sto, n⟩ ka = some (.cells (evC Ev.zero) false) := fun _ => qa
  have hcb := fun n key => k_copyb (callE := evFn cfgK7 310) (st := ⟨sto, n⟩) (key := key) (deep_1 (deep_fsl _ b.length (ofBytes b))) in_arg (by unfold maxBytes; omega)
  have kne : ∀ j, (c + j = ka) = False := by intro j; simp only [eq_iff_iff, iff_false]; omega
  have kne0 : (c = ka) = False := by simp only [eq_iff_iff, iff_false]; omega
  refine Za (fun x => x.env.get 0 = .fsl l.length (evsC l) ∧ x.env.get 1 = .fsl b.length (ofBytes b) ∧ x.env.get 2 = .i .i64 at0 ∧ x.env.get 3 = .i .u8 turn.toNat ∧ x.env.get 14 = .ptr ka 0 ∧ x.st.get ka = some (.cells (evC Ev.zero) false) ∧ (ka < x.st.cnt) ∧ (∃ kb, x.env.get 15 = .rsl kb 1 0 b.length ∧ x.st.get kb = some (.cells (ofBytes b) false) ∧ ka ≠ kb ∧ kb < x.st.cnt)) ?_ ?_
  · simp only [↓Z0, ↓Xp, Xq, Xc, binP, ofCells, Nat.reduceAdd, Nat.reduceMul, Nat.reduceLT, Nat.reduceEqDiff, reduceIte, Xm, Nat.reduceLeDiff, g0, g1, g2, g3, g14, qa, hcb, kne, kne0]
    (repeat' (first | exact True.intro | rfl | assumption | omega | apply And.intro | exact St.get_putk _ _ _ | refine ⟨_, rfl, ?_⟩))
  clear g0 g1 g2 g3 g14 qa hc0
  rintro ⟨env, ⟨sto, c⟩⟩ ⟨g0, g1, g2, g3, g14, qa, hc0, h15⟩
  simp only at g0 g1 g2 g3 g14 qa hc0 h15
  replace qa : ∀ n, St.get ⟨sto, n⟩ ka = some (.cells (evC Ev.zero) false) := fun _ => qa
  clear hcb kne kne0
  obtain ⟨kb, g15, k15, hkab, hkbc⟩ := h15
  obtain ⟨All, hAll⟩ : ∃ A, b ++ pts .zero l = A := ⟨_, rfl⟩
  have hAl : All.length ≤ 14300 := by
    have := pts_len l .zero
    rw [← hAll, List.length_append]; omega
  have hldE : ∀ (st : St) (i : Nat) (h : i < l.length), loadP st 5 (.fptr ((evsC l).drop (i * 5))) = some (evC (l[i]'h)) := fun st i h => load_evs h
  have hlnE : (evsC l).length = l.length * 5 := evsC_len l
  -- all events behind the bytes
  refine Za (fun x => x.env.get 0 = .fsl l.length (evsC l) ∧ x.env.get 1 = .fsl b.length (ofBytes b) ∧ x.env.get 2 = .i .i64 at0 ∧ x.env.get 3 = .i .u8 turn.toNat ∧ x.env.get 14 = .ptr ka 0 ∧ ∃ (X : Ev) (kb : Nat), x.st.get ka = some (.cells (evC X) false) ∧ x.env.get 15 = .rsl kb 1 0 All.length ∧ x.st.get kb = some (.cells (ofBytes All) false) ∧ ka ≠ kb ∧ kb < x.st.cnt ∧ ka < x.st.cnt) ?_ ?_
  · rw [Z0]
    simp only [↓Xp, Xq, Xc, binP, ofCells, Nat.reduceAdd, Nat.reduceMul, Nat.reduceLT, Nat.reduceEqDiff, reduceIte]
    refine Z9 (k := l.length - 0) (fun d x => ∃ (i : Nat) (L : List UInt8) (X : Ev) (kb : Nat), i ≤ l.length ∧ d = l.length - i ∧ L ++ pts X (l.drop i) = All ∧ x.env.get 0 = .fsl l.length (evsC l) ∧ x.env.get 1 = .fsl b.length (ofBytes b) ∧ x.env.get 2 = .i .i64 at0 ∧ x.env.get 3 = .i .u8 turn.toNat ∧ x.env.get 14 = .ptr ka 0 ∧ x.env.get 16 = .i .i64 (i : Int) ∧ x.st.get ka = some (.cells (evC X) false) ∧ x.env.get 15 = .rsl kb 1 0 L.length ∧ x.st.get kb = some (.cells (ofBytes L) false) ∧ ka ≠ kb ∧ kb < x.st.cnt ∧ ka < x.st.cnt) ?_ ?_ (by omega)
    · clear g0 g1 g2 g3 g14 qa hc0 g15 k15 hkab hkbc
      rintro d ⟨env, ⟨sto, c⟩⟩ ⟨i, L, X, kb, hi, rfl, hL, g0, g1, g2, g3, g14, g16, qa, g15, k15, hkab, hkbc, hc0⟩
      simp only at g0 g1 g2 g3 g14 g16 qa g15 k15 hkbc hc0
      replace qa : ∀ n, St.get ⟨sto, n⟩ ka = some (.cells (evC X) false) := fun _ => qa
      replace k15 : ∀ n, St.get ⟨sto, n⟩ kb = some (.cells (ofBytes L) false) := fun _ => k15
      by_cases hlt : i < l.length
      · have hlti : ((i : Nat) : Int) < ((l.length : Nat) : Int) := by omega
        have h0i : 0 ≤ ((i : Nat) : Int) := by omega
        have hwi : IntKind.i64.wrap ((i : Int) + Int.ofNat 1) = ((i + 1 : Nat) : Int) := by
          rw [wr_i64 _ ⟨by show _ ≤ (i : Int) + 1; omega, by show (i : Int) + 1 < _; omega⟩]; rfl
        have hld := fun st => hldE st i hlt
        have hcons := List.drop_eq_getElem_cons hlt
        rw [hcons] at hL
        generalize l[i] = E at *
        have hL' : putE L X E ++ pts E (l.drop (i + 1)) = All := by
          rw [putE_pt, List.append_assoc]; exact hL
        have hLl : L.length + 60 ≤ maxBytes := by
          have := congrArg List.length hL
          rw [List.length_append] at this
          unfold maxBytes; omega
        have hlda : ∀ n, loadP ⟨sto, n⟩ 5 (.ptr ka 0) = some (evC X) := fun n => load_whole (st := ⟨sto, n⟩) (qa n) rfl
        have hput := fun n key => k_put (callE := evFn cfgK7 310) (st := ⟨sto, n⟩) (key := key) (X := X) (E := E) (k15 n) hLl
        generalize putE L X E = L2 at *
        have hka : ∀ j, ka < c + j := fun j => by omega
        have hst : ∀ (m n key : Nat), ka < key → storeP ⟨(((⟨sto, m⟩ : St).put kb none).put key (some (.cells (ofBytes L2) false))).sto, n⟩ 5 (.ptr ka 0) (.agg (evC E)) = some ((⟨(((⟨sto, m⟩ : St).put kb none).put key (some (.cells (ofBytes L2) false))).sto, n⟩ : St).put ka (some (.cells (evC E) false))) := by
          intro m n key hk
          refine store_whole (v := .agg (evC E)) (cs := evC X) ?_ rfl rfl rfl
          show (((⟨sto, m⟩ : St).put kb none).put key _).get ka = _
          rw [St.get_put_ne (by omega), St.get_put_ne (fun e => hkab e.symm)]
          exact qa m
        simp only [↓Z0, ↓Xp, Xq, Xc, binP, ofCells, Nat.reduceAdd, Nat.reduceMul, Nat.reduceLT, Nat.reduceEqDiff, reduceIte, g0, g1, g2, g3, g14, g15, g16, hln, hlti, h0i, hlnE, hld, hlda, hput, hka, hst, hwi]
        refine ⟨l.length - (i + 1), by omega, i + 1, L2, E, c + 80, ?_⟩
        (repeat' (first | exact True.intro | rfl | assumption | omega | apply And.intro | exact St.get_putk _ _ _ | (simp only [Z0L_, Z0M_]; omega) | (simp (disch := omega) only [Z0H_, Z0I_, Z0J_, qa, k15]; done) | refine ⟨_, rfl, ?_⟩))
      · have hil : i = l.length := by omega
        subst hil
        rw [List.drop_length] at hL
        have hL' : L = All := by rw [← hL]; exact (List.append_nil _).symm
        subst hL'
        simp only [↓Z0, ↓Xp, Xq, Xc, binP, ofCells, Nat.reduceAdd, Nat.reduceMul, Nat.reduceLT, Nat.reduceEqDiff, reduceIte, g0, g1, g2, g3, g14, g15, g16, hln, Int.lt_irrefl]
        refine ⟨X, kb, ?_⟩
        (repeat' (first | exact True.intro | rfl | assumption | omega | apply And.intro | exact St.get_putk _ _ _ | (simp only [Z0L_, Z0M_]; omega) | (simp (disch := omega) only [Z0H_, Z0I_, Z0J_, qa, k15]; done) | refine ⟨_, rfl, ?_⟩))
    · refine ⟨0, b, .zero, kb, Nat.zero_le _, rfl, by rw [List.drop_zero]; exact hAll, ?_⟩
      simp only [Env.get_put, Nat.reduceEqDiff, if_false, if_true, g0, g1, g2, g3, g14, g15]
      (repeat' (first | exact True.intro | rfl | assumption | omega | apply And.intro | exact St.get_putk _ _ _ | (simp only [Z0L_, Z0M_]; omega) | (simp (disch := omega) only [Z0H_, Z0I_, Z0J_, qa, k15]; done) | refine ⟨_, rfl, ?_⟩))
  clear g0 g1 g2 g3 g14 qa hc0 g15 k15 hkab hkbc kb
  rintro ⟨env, ⟨sto, c⟩⟩ ⟨g0, g1, g2, g3, g14, X0, kb, qa, g15, k15, hkab, hkbc, hc0⟩
  simp only at g0 g1 g2 g3 g14 qa g15 k15 hkbc hc0
  replace qa : ∀ n, St.get ⟨sto, n⟩ ka = some (.cells (evC X0) false) := fun _ => qa
  replace k15 : ∀ n, St.get ⟨sto, n⟩ kb = some (.cells (ofBytes All) false) := fun _ => k15
  have hkba : (ka = kb) = False := by simp [hkab]
  refine Za (fun x => x.env.get 0 = .fsl l.length (evsC l) ∧ x.env.get 1 = .fsl b.length (ofBytes b) ∧ x.env.get 2 = .i .i64 at0 ∧ x.env.get 3 = .i .u8 turn.toNat ∧ x.env.get 14 = .ptr ka 0 ∧ x.st.get ka = some (.cells (evC X0) false) ∧ x.env.get 15 = .rsl kb 1 0 All.length ∧ x.st.get kb = some (.cells (ofBytes All) false) ∧ (kb < x.st.cnt) ∧ (ka < x.st.cnt) ∧ x.env.get 17 = .i .i64 b.length) ?_ ?_
  · simp only [↓Z0, ↓Xp, Xq, Xc, binP, ofCells, Nat.reduceAdd, Nat.reduceMul, Nat.reduceLT, Nat.reduceEqDiff, reduceIte, Xm, Nat.reduceLeDiff, g0, g1, g2, g3, g14, qa, g15, k15, hln]
    (repeat' (first | exact True.intro | rfl | assumption | omega | apply And.intro | exact St.get_putk _ _ _ | refine ⟨_, rfl, ?_⟩))
  clear g0 g1 g2 g3 g14 qa g15 k15 hkbc hc0
  rintro ⟨env, ⟨sto, c⟩⟩ ⟨g0, g1, g2, g3, g14, qa, g15, k15, hkbc, hc0, g17⟩
  simp only at g0 g1 g2 g3 g14 qa g15 k15 hkbc hc0 g17
  replace qa : ∀ n, St.get ⟨sto, n⟩ ka = some (.cells (evC X0) false) := fun _ => qa
  replace k15 : ∀ n, St.get ⟨sto, n⟩ kb = some (.cells (ofBytes All) false) := fun _ => k15
  have hst0 : ∀ n, storeP ⟨sto, n⟩ 5 (.ptr ka 0) (.agg (evC .zero)) = some ((⟨sto, n⟩ : St).put ka (some (.cells (evC .zero) false))) := fun n => store_whole (v := .agg (evC .zero)) (cs := evC X0) (qa n) rfl rfl rfl
  have hz0 : ([.i .i64 (.ofNat 0), .i .u8 (.ofNat 0), .i .i64 (.ofNat 0), .i .i64 (.ofNat 0), .i .i64 (.ofNat 0)] : List PV) = evC .zero := rfl
  refine Za (fun x => x.env.get 0 = .fsl l.length (evsC l) ∧ x.env.get 1 = .fsl b.length (ofBytes b) ∧ x.env.get 2 = .i .i64 at0 ∧ x.env.get 3 = .i .u8 turn.toNat ∧ x.env.get 14 = .ptr ka 0 ∧ x.st.get ka = some (.cells (evC Ev.zero) false) ∧ x.env.get 15 = .rsl kb 1 0 All.length ∧ x.st.get kb = some (.cells (ofBytes All) false) ∧ (kb < x.st.cnt) ∧ (ka < x.st.cnt) ∧ x.env.get 17 = .i .i64 b.length) ?_ ?_
  · simp only [↓Z0, ↓Xp, Xq, Xc, binP, ofCells, Nat.reduceAdd, Nat.reduceMul, Nat.reduceLT, Nat.reduceEqDiff, reduceIte, Xm, Nat.reduceLeDiff, g0, g1, g2, g3, g14, qa, g15, k15, g17, hz0, hst0, hkba]
    (repeat' (first | exact True.intro | rfl | assumption | omega | apply And.intro | exact St.get_putk _ _ _ | refine ⟨_, rfl, ?_⟩))
  clear g0 g1 g2 g3 g14 qa g15 k15 hkbc hc0 g17
  rintro ⟨env, ⟨sto, c⟩⟩ ⟨g0, g1, g2, g3, g14, qa, g15, k15, hkbc, hc0, g17⟩
  simp only at g0 g1 g2 g3 g14 qa g15 k15 hkbc hc0 g17
  replace qa : ∀ n, St.get ⟨sto, n⟩ ka = some (.cells (evC Ev.zero) false) := fun _ => qa
  replace k15 : ∀ n, St.get ⟨sto, n⟩ kb = some (.cells (ofBytes All) false) := fun _ => k15
  clear hst0 hz0
  -- all got again
  have hAllL : All.length = b.length + (pts .zero l).length := by rw [← hAll, List.length_append]
  refine Za (fun x => x.env.get 0 = .fsl l.length (evsC l) ∧ x.env.get 1 = .fsl b.length (ofBytes b) ∧ x.env.get 2 = .i .i64 at0 ∧ x.env.get 3 = .i .u8 turn.toNat ∧ x.env.get 15 = .rsl kb 1 0 All.length ∧ x.env.get 17 = .i .i64 (All.length : Int)) ?_ ?_
  · rw [Z0]
    simp only [↓Xp, Xq, Xc, binP, ofCells, Nat.reduceAdd, Nat.reduceMul, Nat.reduceLT, Nat.reduceEqDiff, reduceIte]
    refine Z9 (k := l.length - 0) (fun d x => ∃ (i a : Nat) (X : Ev), i ≤ l.length ∧ d = l.length - i ∧ All.drop a = pts X (l.drop i) ∧ a ≤ All.length ∧ x.env.get 0 = .fsl l.length (evsC l) ∧ x.env.get 1 = .fsl b.length (ofBytes b) ∧ x.env.get 2 = .i .i64 at0 ∧ x.env.get 3 = .i .u8 turn.toNat ∧ x.env.get 14 = .ptr ka 0 ∧ x.env.get 15 = .rsl kb 1 0 All.length ∧ x.env.get 17 = .i .i64 (a : Int) ∧ x.env.get 18 = .i .i64 (i : Int) ∧ x.st.get ka = some (.cells (evC X) false) ∧ x.st.get kb = some (.cells (ofBytes All) false) ∧ kb < x.st.cnt ∧ ka < x.st.cnt) ?_ ?_ (by omega)
    · skip
      clear g0 g1 g2 g3 g14 qa g15 k15 hkbc hc0 g17
      rintro d ⟨env, ⟨sto, c⟩⟩ ⟨i, a, X, hi, rfl, hd, ha, g0, g1, g2, g3, g14, g15, g17, g18, qa, k15, hkbc, hc0⟩
      simp only at g0 g1 g2 g3 g14 g15 g17 g18 qa k15 hkbc hc0
      replace qa : ∀ n, St.get ⟨sto, n⟩ ka = some (.cells (evC X) false) := fun _ => qa
      replace k15 : ∀ n, St.get ⟨sto, n⟩ kb = some (.cells (ofBytes All) false) := fun _ => k15
      by_cases hlt : i < l.length
      · have hlti : ((i : Nat) : Int) < ((l.length : Nat) : Int) := by omega
        have h0i : 0 ≤ ((i : Nat) : Int) := by omega
        have hwi : IntKind.i64.wrap ((i : Int) + Int.ofNat 1) = ((i + 1 : Nat) : Int) := by
          rw [wr_i64 _ ⟨by show _ ≤ (i : Int) + 1; omega, by show (i : Int) + 1 < _; omega⟩]; rfl
        have hld := fun st => hldE st i hlt
        have hcons := List.drop_eq_getElem_cons hlt
        have hEin := hE _ (List.getElem_mem hlt)
        rw [hcons] at hd
        generalize l[i] = E at *
        have hd' : All.drop a = pt X E ++ pts E (l.drop (i + 1)) := hd
        have hg := getE_put hd' ha hEin
        have hp5 := pt_len X E
        have hdn := drop_more hd'
        have hln2 := drop_le hd' ha
        have hcg : ∀ n key, callStep (runPure cfgK7 (evFn cfgK7 310) 11) false ⟨sto, n⟩ key [.rsl kb 1 0 All.length, .i .i64 (a : Int), .agg (evC X)] = some (.tup [.agg (evC E), .i .i64 ((a + (pt X E).length : Nat) : Int), .i .i64 0], ⟨sto, n⟩) := by
          intro n key
          have := k_get (callE := evFn cfgK7 310) (st := ⟨sto, n⟩) (key := key) (a := (a : Int)) (X := X) (deep_3 (deep_b (st := ⟨sto, n⟩) (k15 n)) (deep_i _ _ _) (deep_evc _ _)) in_arg (by omega)
          rw [hg] at this
          exact this
        obtain ⟨a2, ha2⟩ : ∃ a2, a + (pt X E).length = a2 := ⟨_, rfl⟩
        rw [ha2] at hdn hln2
        simp only [ha2] at hcg
        have hlda : ∀ n, loadP ⟨sto, n⟩ 5 (.ptr ka 0) = some (evC X) := fun n => load_whole (st := ⟨sto, n⟩) (qa n) rfl
        have hka : ∀ j, ka < c + j := fun j => by omega
        have hsn : ∀ (S : St) (k : Nat), storeP (S.put k (some (.cells [.i .i64 (.ofNat 0), .i .u8 (.ofNat 0), .i .i64 (.ofNat 0), .i .i64 (.ofNat 0), .i .i64 (.ofNat 0)] false))) 5 (.ptr k 0) (.agg (evC E)) = some ((S.put k (some (.cells [.i .i64 (.ofNat 0), .i .u8 (.ofNat 0), .i .i64 (.ofNat 0), .i .i64 (.ofNat 0), .i .i64 (.ofNat 0)] false))).put k (some (.cells (evC E) false))) := fun S k => store_whole (v := .agg (evC E)) (St.get_putk _ _ _) rfl rfl rfl
        have hl5 : ∀ (S : St) (n k : Nat), loadP ⟨(S.put k (some (.cells (evC E) false))).sto, n⟩ 5 (.ptr k 0) = some (evC E) := fun S n k => load_whole (st := ⟨(S.put k (some (.cells (evC E) false))).sto, n⟩) (St.get_putk S k _) rfl
        have hst : ∀ (m n k : Nat) (o o' : Option PObj), ka < k → storeP ⟨(((⟨sto, m⟩ : St).put k o).put k o').sto, n⟩ 5 (.ptr ka 0) (.agg (evC E)) = some ((⟨(((⟨sto, m⟩ : St).put k o).put k o').sto, n⟩ : St).put ka (some (.cells (evC E) false))) := by
          intro m n k o o' hk
          refine store_whole (v := .agg (evC E)) (cs := evC X) ?_ rfl rfl rfl
          show (((⟨sto, m⟩ : St).put k o).put k o').get ka = _
          rw [St.get_put_ne (by omega), St.get_put_ne (by omega)]
          exact qa m
        have e4 : ((0 : Int) != Int.ofNat 0) = false := rfl
        have e5 : ¬ (a2 : Int) ≤ (a : Int) := by omega
        have hq : eqsP [(0, 0), (1, 0), (2, 0), (3, 0), (4, 0)] (evC E) (evC E) = some true := by rw [eqs_ev]; simp
        simp only [↓Z0, ↓Xp, Xq, Xc, binP, ofCells, Nat.reduceAdd, Nat.reduceMul, Nat.reduceLT, Nat.reduceEqDiff, reduceIte, g0, g1, g2, g3, g14, g15, g17, g18, hln, hlti, h0i, hlnE, hld, hlda, hcg, List.getElem?_cons_zero, List.getElem?_cons_succ, hsn, hl5, e4, e5, hq, Z1j_, hka, hst, hwi]
        refine ⟨l.length - (i + 1), by omega, i + 1, a2, E, ?_⟩
        (repeat' (first | exact True.intro | rfl | assumption | omega | apply And.intro | exact St.get_putk _ _ _ | (simp only [Z0L_, Z0M_]; omega) | (simp (disch := omega) only [Z0H_, Z0I_, Z0J_, qa, k15]; done) | refine ⟨_, rfl, ?_⟩))
      · have hil : i = l.length := by omega
        subst hil
        have haA : a = All.length := by
          rw [List.drop_length] at hd
          have := congrArg List.length hd
          rw [List.length_drop] at this
          have h0 : (pts X []).length = 0 := rfl
          omega
        subst haA
        simp only [↓Z0, ↓Xp, Xq, Xc, binP, ofCells, Nat.reduceAdd, Nat.reduceMul, Nat.reduceLT, Nat.reduceEqDiff, reduceIte, g0, g1, g2, g3, g14, g15, g17, g18, hln, Int.lt_irrefl]
        (repeat' (first | exact True.intro | rfl | assumption | omega | apply And.intro))
    · refine ⟨0, b.length, .zero, Nat.zero_le _, rfl, by rw [List.drop_zero, ← hAll, List.drop_left], by omega, ?_⟩
      simp only [Env.get_put, Nat.reduceEqDiff, if_false, if_true, g0, g1, g2, g3, g14, g15, g17]
      (repeat' (first | exact True.intro | rfl | assumption | omega | apply And.intro | exact St.get_putk _ _ _ | (simp only [Z0L_, Z0M_]; omega) | (simp (disch := omega) only [Z0H_, Z0I_, Z0J_, qa, k15]; done) | refine ⟨_, rfl, ?_⟩))
  clear g0 g1 g2 g3 g14 qa g15 k15 hkbc hc0 g17
  rintro ⟨env, ⟨sto, c⟩⟩ ⟨g0, g1, g2, g3, g15, g17⟩
  simp only at g0 g1 g2 g3 g15 g17
  have e6 : ((All.length : Int) != (All.length : Int)) = false := by simp
  refine Za (fun x => x.env.get 0 = .fsl l.length (evsC l) ∧ x.env.get 1 = .fsl b.length (ofBytes b) ∧ x.env.get 2 = .i .i64 at0 ∧ x.env.get 3 = .i .u8 turn.toNat) ?_ ?_
  · simp only [↓Z0, ↓Xp, Xq, Xc, binP, ofCells, Nat.reduceAdd, Nat.reduceMul, Nat.reduceLT, Nat.reduceEqDiff, reduceIte, Xm, Nat.reduceLeDiff, g0, g1, g2, g3, g15, g17, hlr, e6]
    (repeat' (first | exact True.intro | rfl | assumption | omega | apply And.intro | exact St.get_putk _ _ _ | refine ⟨_, rfl, ?_⟩))
  clear g0 g1 g2 g3 g15 g17
  rintro ⟨env, ⟨sto, c⟩⟩ ⟨g0, g1, g2, g3⟩
  simp only at g0 g1 g2 g3
  clear e6
  by_cases h0 : l = []
  · subst h0
    have hf0 := fun n key => k_frame_nil (callE := evFn cfgK7 310) (st := ⟨sto, n⟩) (key := key) (deep_1 (deep_fsl _ _ _))
    have g0' : env.get 0 = .fsl 0 [] := g0
    have e7 : (((0 : Nat) : Int) == Int.ofNat 0) = true := rfl
    have e8 : ((2 : Int) == Int.ofNat 2) = true := rfl
    simp only [↓Z0, ↓Xp, Xq, Xc, binP, ofCells, Nat.reduceAdd, Nat.reduceMul, Nat.reduceLT, Nat.reduceEqDiff, reduceIte, Xm, Nat.reduceLeDiff, g0', hf0, hln, e7, e8, aw]
    refine ⟨nofun, _, rfl, ?_⟩
    simp only [tupV, ↓Z0, ↓Xp, Xq, Xc, binP, ofCells, Nat.reduceAdd, Nat.reduceMul, Nat.reduceLT, Nat.reduceEqDiff, reduceIte]
  have hlp : 0 < l.length := List.length_pos_iff.2 h0
  have hfr := fun n key => k_frame (callE := evFn cfgK7 310) (st := ⟨sto, n⟩) (key := key) (deep_1 (deep_fsl _ l.length (evsC l))) h0 hl4
  have hFl := frameL_len l
  have hBl := bodyL_le hl4
  have hVl := varint_le (bodyL l).length
  have hread := readL_frame (l := l) (by omega) hl4 hE (b := b ++ frameL l ++ b) (rest := b) (a := b.length) (by rw [List.append_assoc, List.drop_left]) (by simp only [List.length_append]; omega)
  have hcutr := fun k (hk : k < (frameL l).length) => readL_cut hl4 hk
  have hinv := @readL_inv
  obtain ⟨F, hF⟩ : ∃ F, frameL l = F := ⟨_, rfl⟩
  rw [hF] at hfr hFl hread hcutr
  obtain ⟨kf, hkf⟩ : ∃ kf, kf = c + 8 := ⟨_, rfl⟩
  have hfr' := fun n => hfr n (c + 8)
  rw [← hkf] at hfr'
  have hkf' : c + 8 = kf := hkf.symm
  refine Za (fun x => x.env.get 0 = .fsl l.length (evsC l) ∧ x.env.get 1 = .fsl b.length (ofBytes b) ∧ x.env.get 2 = .i .i64 at0 ∧ x.env.get 3 = .i .u8 turn.toNat ∧ x.env.get 22 = .rsl kf 1 0 F.length ∧ x.env.get 23 = .i .i64 0 ∧ x.st.get kf = some (.cells (ofBytes F) false) ∧ (kf < x.st.cnt)) ?_ ?_
  · simp only [↓Z0, ↓Xp, Xq, Xc, binP, ofCells, Nat.reduceAdd, Nat.reduceMul, Nat.reduceLT, Nat.reduceEqDiff, reduceIte, Xm, Nat.reduceLeDiff, g0, g1, g2, g3, hfr, hkf']
    (repeat' (first | exact True.intro | rfl | assumption | omega | apply And.intro | exact St.get_putk _ _ _ | refine ⟨_, rfl, ?_⟩))
  clear g0 g1 g2 g3
  rintro ⟨env, ⟨sto, c⟩⟩ ⟨g0, g1, g2, g3, g22, g23, kF, hc1⟩
  simp only at g0 g1 g2 g3 g22 g23 kF hc1
  replace kF : ∀ n, St.get ⟨sto, n⟩ kf = some (.cells (ofBytes F) false) := fun _ => kF
  clear hfr hfr' hkf hkf'
  have e7 : ((l.length : Int) == Int.ofNat 0) = false := by simp; omega
  refine Za (fun x => x.env.get 0 = .fsl l.length (evsC l) ∧ x.env.get 1 = .fsl b.length (ofBytes b) ∧ x.env.get 2 = .i .i64 at0 ∧ x.env.get 3 = .i .u8 turn.toNat ∧ x.env.get 22 = .rsl kf 1 0 F.length ∧ x.env.get 23 = .i .i64 0 ∧ x.st.get kf = some (.cells (ofBytes F) false) ∧ (kf < x.st.cnt)) ?_ ?_
  · simp only [↓Z0, ↓Xp, Xq, Xc, binP, ofCells, Nat.reduceAdd, Nat.reduceMul, Nat.reduceLT, Nat.reduceEqDiff, reduceIte, Xm, Nat.reduceLeDiff, g0, g1, g2, g3, g22, g23, kF, hln, e7]
    (repeat' (first | exact True.intro | rfl | assumption | omega | apply And.intro | exact St.get_putk _ _ _ | refine ⟨_, rfl, ?_⟩))
  clear g0 g1 g2 g3 g22 g23 kF hc1
  rintro ⟨env, ⟨sto, c⟩⟩ ⟨g0, g1, g2, g3, g22, g23, kF, hc1⟩
  simp only at g0 g1 g2 g3 g22 g23 kF hc1
  replace kF : ∀ n, St.get ⟨sto, n⟩ kf = some (.cells (ofBytes F) false) := fun _ => kF
  -- read with something ahead and behind
  have hcb := fun n key => k_copyb (callE := evFn cfgK7 310) (st := ⟨sto, n⟩) (key := key) (deep_1 (deep_fsl _ b.length (ofBytes b))) in_arg (by unfold maxBytes; omega)
  obtain ⟨q, hq⟩ : ∃ q, b.length + F.length = q := ⟨_, rfl⟩
  obtain ⟨BF, hBF⟩ : ∃ B, b ++ F = B := ⟨_, rfl⟩
  obtain ⟨A3, hA3⟩ : ∃ B, BF ++ b = B := ⟨_, rfl⟩
  have hBFl : BF.length = q := by rw [← hBF, List.length_append]; omega
  have hA3l : A3.length = q + b.length := by rw [← hA3, List.length_append]; omega
  rw [hBF, hA3] at hread
  rw [hq] at hread
  have hFb : F.length ≤ 168000 := by omega
  have hFin : kf < c := hc1
  have cF : ∀ (m n key : Nat) (o : Option PObj), kf < key → cellsOf ⟨((⟨sto, m⟩ : St).put key o).sto, n⟩ 1 (.rsl kf 1 0 F.length) = some (F.length, ofBytes F) := by
    intro m n key o hk
    refine cells_at (fz := false) ?_
    show ((⟨sto, m⟩ : St).put key o).get kf = _
    rw [St.get_put_ne (by omega)]
    exact kF m
  have a1 : ∀ (S : St) (n key key2 : Nat), appendP ⟨(S.put key (some (.cells (ofBytes b) false))).sto, n⟩ key2 1 1 F.length (ofBytes F) (.rsl key 1 0 b.length) = some (.rsl key2 1 0 BF.length, ((⟨(S.put key (some (.cells (ofBytes b) false))).sto, n⟩ : St).put key none).put key2 (some (.cells (ofBytes BF) false))) := by
    intro S n key key2
    rw [← hBF]
    exact app_at (news := F) (get_at S n key _) (by unfold maxBytes; omega)
  have a2 : ∀ (S : St) (n key key2 : Nat), appendP ⟨(S.put key (some (.cells (ofBytes BF) false))).sto, n⟩ key2 1 1 b.length (ofBytes b) (.rsl key 1 0 BF.length) = some (.rsl key2 1 0 A3.length, ((⟨(S.put key (some (.cells (ofBytes BF) false))).sto, n⟩ : St).put key none).put key2 (some (.cells (ofBytes A3) false))) := by
    intro S n key key2
    rw [← hA3]
    exact app_at (news := b) (get_at S n key _) (by unfold maxBytes; omega)
  have hr3 : ∀ (S : St) (n key key2 : Nat), callStep (runPure cfgK7 (evFn cfgK7 310) 15) false ⟨(S.put key (some (.cells (ofBytes A3) false))).sto, n⟩ key2 [.rsl key 1 0 A3.length, .i .i64 (b.length : Int)] = some (.tup [.rsl key2 5 0 l.length, .i .i64 (q : Int), .i .i64 0], (⟨(S.put key (some (.cells (ofBytes A3) false))).sto, n⟩ : St).put key2 (some (.cells (evsC l) false))) := fun S n key key2 => k_read_ok (st := ⟨(S.put key (some (.cells (ofBytes A3) false))).sto, n⟩) (deep_2 (deep_b (get_at S n key _)) (deep_i _ _ _)) in_arg (by omega) hread
  have ob := one_ofBytes b
  have oF := one_ofBytes F
  have cb : ∀ st : St, cellsOf st 1 (.fsl b.length (ofBytes b)) = some (b.length, ofBytes b) := fun st => cells_in (in_arg (l := b))
  have hkfc : ∀ j, kf < c + j := fun j => by omega
  refine Za (fun x => x.env.get 0 = .fsl l.length (evsC l) ∧ x.env.get 1 = .fsl b.length (ofBytes b) ∧ x.env.get 2 = .i .i64 at0 ∧ x.env.get 3 = .i .u8 turn.toNat ∧ x.env.get 22 = .rsl kf 1 0 F.length ∧ x.env.get 23 = .i .i64 0 ∧ x.st.get kf = some (.cells (ofBytes F) false) ∧ (kf < x.st.cnt) ∧ (∃ k, x.env.get 24 = .rsl k 5 0 l.length ∧ x.st.get k = some (.cells (evsC l) false)) ∧ x.env.get 25 = .i .i64 q ∧ x.env.get 26 = .i .i64 0) ?_ ?_
  · simp only [↓Z0, ↓Xp, Xq, Xc, binP, ofCells, Nat.reduceAdd, Nat.reduceMul, Nat.reduceLT, Nat.reduceEqDiff, reduceIte, Xm, Nat.reduceLeDiff, g0, g1, g2, g3, g22, g23, kF, hcb, cF, a1, a2, hr3, ob, oF, cb, hln, hkfc]
    (repeat' (first | exact True.intro | rfl | assumption | omega | apply And.intro | exact St.get_putk _ _ _ | (simp only [Z0L_, Z0M_]; omega) | (simp (disch := omega) only [Z0H_, Z0I_, Z0J_, kF]; done) | refine ⟨_, rfl, ?_⟩))
  clear g0 g1 g2 g3 g22 g23 kF hc1
  rintro ⟨env, ⟨sto, c⟩⟩ ⟨g0, g1, g2, g3, g22, g23, kF, hc1, h24, g25, g26⟩
  simp only at g0 g1 g2 g3 g22 g23 kF hc1 h24 g25 g26
  replace kF : ∀ n, St.get ⟨sto, n⟩ kf = some (.cells (ofBytes F) false) := fun _ => kF
  clear hcb cF a1 a2 hr3 ob oF cb hkfc
  have hh24 := h24
  obtain ⟨k24, g24, k24c⟩ := hh24
  have e8 : ((0 : Int) != Int.ofNat 0) = false := rfl
  have w1 : IntKind.i64.wrap ((b.length : Int) + (F.length : Int)) = (q : Int) := by
    rw [wr_i64 _ ⟨by omega, by omega⟩]; omega
  have e9 : ((q : Int) != (q : Int)) = false := by simp
  have hse := fun n key => k_samee (callE := evFn cfgK7 310) (st := ⟨sto, n⟩) (key := key) (w1 := .rsl k24 5 0 l.length) (w2 := .fsl l.length (evsC l)) (deep_2 (deep_e (st := ⟨sto, n⟩) (fz := false) k24c) (deep_fsl _ _ _)) (inEl_fsl l) (inEl_fsl l) hlb
  have e10 : decide (l = l) = true := by simp
  refine Za (fun x => x.env.get 0 = .fsl l.length (evsC l) ∧ x.env.get 1 = .fsl b.length (ofBytes b) ∧ x.env.get 2 = .i .i64 at0 ∧ x.env.get 3 = .i .u8 turn.toNat ∧ x.env.get 22 = .rsl kf 1 0 F.length ∧ x.env.get 23 = .i .i64 0 ∧ x.st.get kf = some (.cells (ofBytes F) false) ∧ (kf < x.st.cnt) ∧ x.env.get 25 = .i .i64 q ∧ x.env.get 26 = .i .i64 0) ?_ ?_
  · simp only [↓Z0, ↓Xp, Xq, Xc, binP, ofCells, Nat.reduceAdd, Nat.reduceMul, Nat.reduceLT, Nat.reduceEqDiff, reduceIte, Xm, Nat.reduceLeDiff, g0, g1, g2, g3, g22, g23, kF, g25, g26, g24, hln, hlr, e8, w1, e9, hse, e10, unP]
    (repeat' (first | exact True.intro | rfl | assumption | omega | apply And.intro | exact St.get_putk _ _ _ | refine ⟨_, rfl, ?_⟩))
  clear g0 g1 g2 g3 g22 g23 kF hc1 h24 g25 g26
  rintro ⟨env, ⟨sto, c⟩⟩ ⟨g0, g1, g2, g3, g22, g23, kF, hc1, g25, g26⟩
  simp only at g0 g1 g2 g3 g22 g23 kF hc1 g25 g26
  replace kF : ∀ n, St.get ⟨sto, n⟩ kf = some (.cells (ofBytes F) false) := fun _ => kF
  clear hse g24 k24c
  -- cut
  obtain ⟨p, hp⟩ : ∃ p : Nat, pickI at0 (F.length : Int) = (p : Int) := ⟨(pickI at0 (F.length : Int)).toNat, by have := pick_nonneg (x := at0) (n := (F.length : Int)) (by omega); omega⟩
  have hpF : p < F.length := by have := pick_nonneg (x := at0) (n := (F.length : Int)) (by omega); omega
  have hpi := fun st key => k_pick (callE := evFn cfgK7 310) (st := st) (key := key) (x := at0) (n := (F.length : Int)) hat ⟨by omega, by omega⟩
  rw [hp] at hpi
  have hsl := upto_own (k := kf) (n := F.length) (p := p) (by omega)
  have hr4 := fun n key => k_read_no (callE := evFn cfgK7 310) (st := ⟨sto, n⟩) (key := key) (w := .rsl kf 1 0 p) (v := .fsl p (ofBytes (F.take p))) (at0 := Int.ofNat 0) (deep_2 (deep_upto (st := ⟨sto, n⟩) (kF n) (by omega)) (deep_i _ _ _)) (in_take (by omega)) (by rw [List.length_take]; omega) (hcutr p hpF)
  have e11 : ((11 : Int) != Int.ofNat 11) = false := rfl
  refine Za (fun x => x.env.get 0 = .fsl l.length (evsC l) ∧ x.env.get 1 = .fsl b.length (ofBytes b) ∧ x.env.get 2 = .i .i64 at0 ∧ x.env.get 3 = .i .u8 turn.toNat ∧ x.env.get 22 = .rsl kf 1 0 F.length ∧ x.env.get 23 = .i .i64 0 ∧ x.st.get kf = some (.cells (ofBytes F) false) ∧ (kf < x.st.cnt) ∧ x.env.get 25 = .i .i64 q ∧ x.env.get 26 = .i .i64 0) ?_ ?_
  · simp only [↓Z0, ↓Xp, Xq, Xc, binP, ofCells, Nat.reduceAdd, Nat.reduceMul, Nat.reduceLT, Nat.reduceEqDiff, reduceIte, Xm, Nat.reduceLeDiff, g0, g1, g2, g3, g22, g23, kF, g25, g26, hpi, hsl, hr4, e11, hlr]
    (repeat' (first | exact True.intro | rfl | assumption | omega | apply And.intro | exact St.get_putk _ _ _ | refine ⟨_, rfl, ?_⟩))
  clear g0 g1 g2 g3 g22 g23 kF hc1 g25 g26
  rintro ⟨env, ⟨sto, c⟩⟩ ⟨g0, g1, g2, g3, g22, g23, kF, hc1, g25, g26⟩
  simp only at g0 g1 g2 g3 g22 g23 kF hc1 g25 g26
  replace kF : ∀ n, St.get ⟨sto, n⟩ kf = some (.cells (ofBytes F) false) := fun _ => kF
  clear hr4 hsl
  -- a byte turned
  by_cases hu : turn = 0
  · have e12 : (((turn.toNat : Nat) : Int) != Int.ofNat 0) = false := by rw [hu]; rfl
    simp only [↓Z0, ↓Xp, Xq, Xc, binP, ofCells, Nat.reduceAdd, Nat.reduceMul, Nat.reduceLT, Nat.reduceEqDiff, reduceIte, Xm, Nat.reduceLeDiff, g0, g1, g2, g3, g22, g23, kF, g25, g26, e12, aw]
    refine ⟨nofun, _, rfl, ?_⟩
    simp only [tupV, ↓Z0, ↓Xp, Xq, Xc, binP, ofCells, Nat.reduceAdd, Nat.reduceMul, Nat.reduceLT, Nat.reduceEqDiff, reduceIte]
  have e12 : (((turn.toNat : Nat) : Int) != Int.ofNat 0) = true := by
    have h1 : turn.toNat ≠ 0 := fun h => hu (UInt8.toNat_inj.1 h)
    simpa using h1
  have hj1 : 0 ≤ (p : Int) := by omega
  have hj2 : (p : Int) < (F.length : Int) := by omega
  have hld := fun n => load_byte (st := ⟨sto, n⟩) (kF n) (i := p) (by omega)
  have hxor := ibits_xor8 (F.getD p 0) turn
  have hsto := fun n => store_byte (st := ⟨sto, n⟩) (kF n) (i := p) (by omega) (F.getD p 0 ^^^ turn)
  have hne : ∀ y m, readL (F.set p (F.getD p 0 ^^^ turn)) (Int.ofNat 0) = .inl (y, m) → y ≠ l := by
    intro y m hy
    rw [← hF] at hy hpF
    exact turned_ne hpF hu hy
  obtain ⟨G, hG⟩ : ∃ G, F.set p (F.getD p 0 ^^^ turn) = G := ⟨_, rfl⟩
  have hGl : G.length = F.length := by rw [← hG, List.length_set]
  rw [hG] at hne
  simp only [hG] at hsto
  have hdG : ∀ (S : St) n, deepL ⟨(S.put kf (some (.cells (ofBytes G) false))).sto, n⟩ [.rsl kf 1 0 F.length, .i .i64 (Int.ofNat 0)] = some [.fsl G.length (ofBytes G), .i .i64 (Int.ofNat 0)] := by
    intro S n
    rw [← hGl]
    exact deep_2 (deep_b (get_at S n kf _)) (deep_i _ _ _)
  cases hr : readL G (Int.ofNat 0) with
  | inr e =>
    have he := readL_err hr
    have e13 : (e == Int.ofNat 0) = false := by simpa using he
    have hc1 := fun (S : St) n key => k_read_no (callE := evFn cfgK7 310) (st := ⟨(S.put kf (some (.cells (ofBytes G) false))).sto, n⟩) (key := key) (hdG S n) in_arg (by omega) hr
    simp only [↓Z0, ↓Xp, Xq, Xc, binP, ofCells, Nat.reduceAdd, Nat.reduceMul, Nat.reduceLT, Nat.reduceEqDiff, reduceIte, g0, g1, g2, g3, g22, g23, kF, g25, g26, List.getElem?_cons_zero, List.getElem?_cons_succ, Z0L_, e12, hpi, hlr, hj1, hj2, hld, hxor, hsto, hc1, e13, aw]
    refine ⟨nofun, _, rfl, ?_⟩
    simp only [tupV, ↓Z0, ↓Xp, Xq, Xc, binP, ofCells, Nat.reduceAdd, Nat.reduceMul, Nat.reduceLT, Nat.reduceEqDiff, reduceIte]
  | inl qq =>
    obtain ⟨y, m⟩ := qq
    have hyl := hne y m hr
    obtain ⟨_, _, _, _, hy1, hy4, _, _, _⟩ := hinv hr
    have e13 : ((0 : Int) == Int.ofNat 0) = true := rfl
    have e14 : decide (y = l) = false := by simpa using hyl
    have hc1 := fun (S : St) n key => k_read_ok (callE := evFn cfgK7 310) (st := ⟨(S.put kf (some (.cells (ofBytes G) false))).sto, n⟩) (key := key) (hdG S n) in_arg (by omega) hr
    have hse := fun (S : St) (n key key2 : Nat) => k_samee (callE := evFn cfgK7 310) (st := ⟨(S.put key (some (.cells (evsC y) false))).sto, n⟩) (key := key2) (w1 := .rsl key 5 0 y.length) (w2 := .fsl l.length (evsC l)) (deep_2 (deep_e (get_at S n key _)) (deep_fsl _ _ _)) (inEl_fsl y) (inEl_fsl l) (by omega)
    simp only [↓Z0, ↓Xp, Xq, Xc, binP, ofCells, Nat.reduceAdd, Nat.reduceMul, Nat.reduceLT, Nat.reduceEqDiff, reduceIte, g0, g1, g2, g3, g22, g23, kF, g25, g26, List.getElem?_cons_zero, List.getElem?_cons_succ, Z0L_, e12, hpi, hlr, hj1, hj2, hld, hxor, hsto, hc1, e13, hse, e14, aw]
    refine ⟨nofun, _, rfl, ?_⟩
    simp only [tupV, ↓Z0, ↓Xp, Xq, Xc, binP, ofCells, Nat.reduceAdd, Nat.reduceMul, Nat.reduceLT, Nat.reduceEqDiff, reduceIte]
theorem back_law (n : Nat) (ps : List PV) (hl : ps.length = n * evSh.width) (hn : n ≤ reachBytes) (h : ∀ j, j < n → evSh.Is ((ps.drop (j * evSh.width)).take evSh.width)) (n2 : Nat) (ps2 : List PV) (hl2 : ps2.length = n2 * (Sh.i .u8).width) (hn2 : n2 ≤ reachBytes) (h2 : ∀ j, j < n2 → (Sh.i .u8).Is ((ps2.drop (j * (Sh.i .u8).width)).take (Sh.i .u8).width)) (at0 : Int) (hat : (Lit.int .i64 at0).wf = true) (turn : Int) (htu : (Lit.int .u8 turn).wf = true) : ∃ fuel, evP cfgK7 fuel 5 [.fsl n ps, .fsl n2 ps2, .i .i64 at0, .i .u8 turn] = some (.b true) := by
  obtain ⟨l, rfl, rfl, hE⟩ := is_evs hl h
  obtain ⟨b, rfl, rfl⟩ := is_bytes hl2 h2
  obtain ⟨h3, h4⟩ := u8_wf htu
  obtain ⟨u, rfl⟩ : ∃ u : UInt8, turn = (u.toNat : Int) := ⟨turn.toNat.toUInt8, by rw [Nat.toUInt8, UInt8.toNat_ofNat']; omega⟩
  exact back_ev (by unfold reachBytes at hn; omega) (by unfold reachBytes at hn2; omega) hE (i64_wf hat)
end Go.Pe
