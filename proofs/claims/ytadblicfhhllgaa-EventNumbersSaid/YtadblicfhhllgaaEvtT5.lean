/-
  EventNumbers, by the interpreter of plain data. No condition.
-/
import Derived.Test.YtadblicfhhllgaaRefE
import Derived.Test.YtadblicfhhllgaaEvtK
import Derived.Test.YtadblicfhhllgaaEvtC
import Derived.Test.YtadblicfhhllgaaEvtI
import Derived.Test.YtadblicfhhllgaaEvtL
import Derived.Test.YtadblicfhhllgaaEvtT
import Derived.Test.YtadblicfhhllgaaPe9
set_option linter.unusedVariables false
set_option linter.unusedSimpArgs false
namespace Go.Pe
open Go Go.Am Go.RowKit

def wrongL : List (List UInt8) := [[], [0], [1], [1, 0, 0, 0, 0], [1, 0, 0, 0, 0, 0, 0], [2, 0, 0, 0, 0, 0], [129, 32], [128, 0]]
def gWrong : List PV → Option PV
  | [v] => match inL v with
    | some l => if l ∈ wrongL then some (.b true) else none
    | none => none
  | _ => none
def extW8 : FuncId → Option (List PV → Option PV) := fun f => if f = 15 then some gRead else none
noncomputable def cfgW8 : Cfg := { fn := fun f => lookT f tblL, ext := extW8 }
theorem extW8_ok {Gl : Gmap} : ∀ f g, extW8 f = some g → PureOK Go.Proofs.Try.prog Gl f g := by
  intro f g h
  unfold extW8 at h
  by_cases e : f = 15
  · subst e; rw [if_pos rfl] at h; cases h
    exact pure_of cfgK5_ok read_any
  rw [if_neg e] at h; clear e
  cases h
theorem cfgW8_ok {Gl : Gmap} : CfgOK Go.Proofs.Try.prog Gl cfgW8 := cfg_okt tbl_all extW8_ok
theorem hxW8_gRead : extW8 15 = some gRead := by kernel_rfl

set_option maxRecDepth 100000 in
theorem wrong_run0 : fvP cfgW8 60 16 [.nsl] = some (.b true) := by kernel_rfl
set_option maxRecDepth 100000 in
theorem wrong_run : wrongL.all (fun l => match fvP cfgW8 60 16 [.fsl l.length (ofBytes l)] with | some (.b true) => true | _ => false) = true := by kernel_rfl
theorem wrong_any (args : List PV) (r : PV) (h : gWrong args = some r) : ∃ fuel, evP cfgW8 fuel 16 args = some r := by
  unfold gWrong at h
  split at h
  · rename_i v
    split at h
    · rename_i l hl
      split at h
      · rename_i hc
        simp only [Option.some.injEq] at h
        subst h
        refine ⟨60, ?_⟩
        rw [← fvP_eq]
        unfold inL at hl
        split at hl
        · exact wrong_run0
        · split at hl
          · rename_i n cs l' hb
            split at hl
            · rename_i hn
              simp only [Option.some.injEq] at hl
              subst hl hn
              rw [of_bytesOf hb]
              have h1 := (List.all_eq_true.1 wrong_run) _ hc
              split at h1
              · assumption
              · cases h1
            · cases hl
          · cases hl
        · cases hl
      · cases h
    · cases h
  · cases h
def extT8 : FuncId → Option (List PV → Option PV) := fun f => if f = 14 then some gFrame else if f = 15 then some gRead else if f = 10 then some gPut else if f = 11 then some gGetE else if f = 13 then some gRPut else if f = 12 then some gSame else if f = 16 then some gWrong else if f = 17 then some gAwake else none
noncomputable def cfgT8 : Cfg := { fn := fun f => lookT f tblL, ext := extT8 }
theorem extT8_ok {Gl : Gmap} : ∀ f g, extT8 f = some g → PureOK Go.Proofs.Try.prog Gl f g := by
  intro f g h
  unfold extT8 at h
  by_cases e : f = 14
  · subst e; rw [if_pos rfl] at h; cases h
    exact pure_of cfgK6_ok frame_any
  rw [if_neg e] at h; clear e
  by_cases e : f = 15
  · subst e; rw [if_pos rfl] at h; cases h
    exact pure_of cfgK5_ok read_any
  rw [if_neg e] at h; clear e
  by_cases e : f = 10
  · subst e; rw [if_pos rfl] at h; cases h
    exact pure_of cfgE2_ok put_any
  rw [if_neg e] at h; clear e
  by_cases e : f = 11
  · subst e; rw [if_pos rfl] at h; cases h
    exact pure_of cfgK3_ok get_any
  rw [if_neg e] at h; clear e
  by_cases e : f = 13
  · subst e; rw [if_pos rfl] at h; cases h
    exact pure_of cfgR6_ok rput_any
  rw [if_neg e] at h; clear e
  by_cases e : f = 12
  · subst e; rw [if_pos rfl] at h; cases h
    exact pure_of cfgE0_ok same_any
  rw [if_neg e] at h; clear e
  by_cases e : f = 16
  · subst e; rw [if_pos rfl] at h; cases h
    exact pure_of cfgW8_ok wrong_any
  rw [if_neg e] at h; clear e
  by_cases e : f = 17
  · subst e; rw [if_pos rfl] at h; cases h
    exact pure_of cfgE3_ok eawake_any
  rw [if_neg e] at h; clear e
  cases h
theorem cfgT8_ok {Gl : Gmap} : CfgOK Go.Proofs.Try.prog Gl cfgT8 := cfg_okt tbl_all extT8_ok
theorem hxT8_gFrame : extT8 14 = some gFrame := by kernel_rfl
theorem hxT8_gRead : extT8 15 = some gRead := by kernel_rfl
theorem hxT8_gPut : extT8 10 = some gPut := by kernel_rfl
theorem hxT8_gGetE : extT8 11 = some gGetE := by kernel_rfl
theorem hxT8_gRPut : extT8 13 = some gRPut := by kernel_rfl
theorem hxT8_gSame : extT8 12 = some gSame := by kernel_rfl
theorem hxT8_gWrong : extT8 16 = some gWrong := by kernel_rfl
theorem hxT8_gAwake : extT8 17 = some gAwake := by kernel_rfl

theorem WC_run {α : Type} {cfg : Cfg} {k n : Nat} {m : MCode} {x : Now} (f : Now → α) (a : α) (h : (fCode m cfg (fFn cfg k) n x).map (fun p => (p.1, f p.2)) = some (.nrm, a)) : WC cfg (evFn cfg k) n m x (fun e x' => e = .nrm ∧ f x' = a) := by
  rw [fFn_eq, fCode_eq] at h
  simp only [Option.map_eq_some_iff, Prod.mk.injEq] at h
  obtain ⟨⟨e, x'⟩, h1, h2, h3⟩ := h
  exact ⟨e, x', h1, h2, h3⟩
theorem WC_assoc2 (cfg : Cfg) (callE : CallE) (n : Nat) (a b c : MCode) (x : Now) (Q : MExit → Now → Prop) : WC cfg callE n (.seq a (.seq b c)) x Q ↔ WC cfg callE n (.seq (.seq a b) c) x Q := by
  rw [Z0, Z0, Z0]
  constructor
  · intro h
    refine h.mono ?_
    intro e x' hq
    cases e with
    | nrm => exact (Z0 ..).1 hq
    | ex id => exact hq
    | ret => exact hq
  · intro h
    refine h.mono ?_
    intro e x' hq
    cases e with
    | nrm => exact (Z0 ..).2 hq
    | ex id => exact hq
    | ret => exact hq
theorem evs_zeros5 (n : Nat) : List.flatten (List.replicate n [PV.i .i64 ((0 : Nat) : Int), .i .u8 ((0 : Nat) : Int), .i .i64 ((0 : Nat) : Int), .i .i64 ((0 : Nat) : Int), .i .i64 ((0 : Nat) : Int)]) = evsC (List.replicate n .zero) := by
  induction n with
  | zero => rfl
  | succ n ih => rw [List.replicate_succ, List.flatten_cons, ih, List.replicate_succ]; rfl
theorem clO_evs5 (L : List Ev) : clO (evsC L) = true := by
  unfold clO
  rw [List.all_eq_true]
  intro p hp
  simp only [evsC, List.mem_flatMap] at hp
  obtain ⟨e, _, h⟩ := hp
  simp only [evC, List.mem_cons, List.not_mem_nil, or_false] at h
  rcases h with rfl | rfl | rfl | rfl | rfl <;> rfl
def valE5 (v : PV) (L : List Ev) : PV := valO v L.length (evsC L)
theorem Own.deepE5 {st : St} {n : Nat} {v : PV} {L : List Ev} (h : Own st 5 v n (evsC L)) (hn : n = L.length) : Go.Pe.deep st 12 v = some (valE5 v L) ∧ inEl (valE5 v L) = some L := by
  subst hn
  refine ⟨h.deepO (ev_flatC L), ?_⟩
  rcases h with ⟨rfl, h1, h2⟩ | ⟨k, rfl, _⟩
  · have : L = [] := List.length_eq_zero_iff.1 h1
    subst this; rfl
  · exact inEl_fsl L
theorem evC_len5 (e : Ev) : (evC e).length = 5 := Eq.trans rfl rfl
theorem evC_take5 (e : Ev) : (evC e).take 5 = evC e := Eq.trans rfl rfl
theorem evC_one5 (e : Ev) : (evC e).all PV.one = true := Eq.trans rfl rfl
def mostE : Ev := ⟨9223372036854775807, 255, -9223372036854775808, 9223372036854775807, -9223372036854775808⟩
set_option maxHeartbeats 8000000 in
set_option maxRecDepth 100000 in
theorem enum_ev : ∃ fuel, evP cfgT8 fuel 3 [] = some (.b true) := by
  refine ⟨401 + 1, ev_flat rfl rfl (fun _ => rfl) (evFn_W (by kernel_rfl : cfgT8.fn 3 = some m3) ?_)⟩
  unfold m3
  simp only [putArgs]
  rw [WC_assoc2, WC_assoc2, WC_assoc2]
  refine Za (fun x => (x.env.get 1, x.st.get 17, decide (17 < x.st.cnt)) = (.ptr 17 0, some (.cells (evC mostE) false), true)) ?_ ?_
  · exact WC_run (fun x => (x.env.get 1, x.st.get 17, decide (17 < x.st.cnt))) _ (by kernel_rfl)
  rintro ⟨env, ⟨sto, c⟩⟩ h
  simp only [Prod.mk.injEq, decide_eq_true_eq] at h
  obtain ⟨g1, k17, hc⟩ := h
  have k17' : ∀ n, St.get ⟨sto, n⟩ 17 = some (.cells (evC mostE) false) := fun _ => k17
  have aw : ∀ (st : St) (key : Nat), callStep (runPure cfgT8 (evFn cfgT8 401) 17) false st key [] = some (.b true, st) := fun st key => callStep_flat rfl (by rw [runPure_ext (show cfgT8.ext 17 = some gAwake from hxT8_gAwake)]; rfl) rfl
  (try simp only at g1 hc)
  (try rw [Z0])
  (try simp (maxSteps := 2000000) (disch := first | omega | rfl | assumption) only [↓Xp, ↓Xt, Xq, Xc, binP, ofCells, Nat.reduceAdd, Nat.reduceMul, Nat.reduceLT, Nat.reduceEqDiff, reduceIte, Xa, Xn, unP, len_f, len_n, len_r, Xm, Nat.reduceLeDiff, List.nil_append, List.cons_append, g1])
  rw [evs_zeros5]
  obtain ⟨F, hF⟩ : ∃ F, List.replicate 4096 Ev.zero = F := ⟨_, rfl⟩
  have lF : F.length = 4096 := by rw [← hF, List.length_replicate]
  have eF : ∀ e ∈ F, EvIn e := by
    intro e he
    rw [← hF] at he
    rw [List.eq_of_mem_replicate he]
    exact ⟨⟨by decide, by decide⟩, ⟨by decide, by decide⟩, ⟨by decide, by decide⟩, ⟨by decide, by decide⟩⟩
  rw [hF]
  clear hF
  have gFr : ∀ {v : PV} {l : List Ev}, inEl v = some l → l.length ≤ 140737488355328 → runPure cfgT8 (evFn cfgT8 401) 14 [v] = some (frameV l) := fun {v l} hv hl => by
    rw [runPure_ext (show cfgT8.ext 14 = some gFrame from hxT8_gFrame)]
    unfold inEl at hv
    split at hv
    · simp only [Option.some.injEq] at hv
      subst hv; rfl
    · split at hv
      · rename_i l' hl'
        split at hv
        · rename_i hn
          simp only [Option.some.injEq] at hv
          subst hv
          unfold gFrame
          simp only [hl']
          rw [if_pos ⟨hn, by omega⟩]
        · cases hv
      · cases hv
    · cases hv
  have gRd : ∀ {v : PV} {b : List UInt8} {a : Int}, inL v = some b → b.length ≤ 140737488355328 → runPure cfgT8 (evFn cfgT8 401) 15 [v, .i .i64 a] = some (readV b a) := fun {v b a} hv hb => by
    rw [runPure_ext (show cfgT8.ext 15 = some gRead from hxT8_gRead)]
    unfold gRead
    simp only [hv]
    rw [if_pos hb]
  have fF : frameV F = .tup ([] ++ PV.osl 1 (frameL F).length (ofBytes (frameL F)) :: [.i .i64 0]) := by
    unfold frameV
    rw [if_neg (by rintro rfl; simp at lF), if_neg (by omega)]; rfl
  have lB : (frameL F).length ≤ 200000 := by
    have h1 := bodyL_le (l := F) (by omega)
    have h2 := varint_le (bodyL F).length
    rw [frameL_len]; omega
  have rF : readV (frameL F) 0 = .tup ([] ++ PV.osl 5 F.length (evsC F) :: [.i .i64 ((frameL F).length : Nat), .i .i64 0]) := by
    have h := readL_frame (l := F) (by omega) (by omega) eF (b := frameL F) (rest := []) (a := 0) (by simp) (by omega)
    rw [Nat.zero_add] at h
    unfold readV
    have h' : readL (frameL F) 0 = .inl (F, (((frameL F).length : Nat) : Int)) := h
    rw [h']; rfl
  refine ⟨by unfold maxBytes; omega, ?_⟩
  have o0 : Own ((⟨sto, c + 16⟩ : St).put c (some (.cells (evsC F) false))) 5 (.rsl c 5 0 4096) 4096 (evsC F) := .inr ⟨c, rfl, St.get_putk _ _ _, by rw [evsC_len, lF], by show c < c + 16; omega⟩
  have k0 : ∀ n, St.get ⟨((⟨sto, c + 16⟩ : St).put c (some (.cells (evsC F) false))).sto, n⟩ 17 = some (.cells (evC mostE) false) := fun n => by
    rw [Z0J_, St.get_put_ne (by omega)]; exact k17
  obtain ⟨S0, hS0⟩ : ∃ S, (⟨sto, c + 16⟩ : St).put c (some (.cells (evsC F) false)) = S := ⟨_, rfl⟩
  have cS0 : S0.cnt = c + 16 := by rw [← hS0]; rfl
  rw [hS0] at o0 k0 ⊢
  clear hS0 k17 k17'
  (try rw [Z0])
  (try simp (maxSteps := 2000000) (disch := first | omega | rfl | assumption) only [↓Xp, ↓Xt, Xq, Xc, binP, ofCells, Nat.reduceAdd, Nat.reduceMul, Nat.reduceLT, Nat.reduceEqDiff, reduceIte, Xa, Xn, unP, len_f, len_n, len_r, Xm, Nat.reduceLeDiff, List.nil_append, List.cons_append, g1, cS0])
  refine WV_callT (deepL_one ((o0.cnt (by omega)).deepE5 (by omega)).1) ((gFr (o0.deepE5 (by omega)).2 (by omega)).trans (congrArg some fF)) (OutV.osl _ _ _) rfl rfl (clO_bytes _) (by rw [len_ofBytes, Nat.mul_one]) (by first | omega | (simp only [Z0L_, Z0M_, Nat.add_assoc, Nat.reduceAdd]; omega) | (simp only; omega)) ?_
  intro w1 st1 o1 q1 c1 f1
  (try simp only [Z0L_] at c1)
  replace o0 := o0.over f1 rfl (by first | omega | (simp only; omega)) (by first | omega | (simp only; omega))
  replace k0 : ∀ n, St.get ⟨st1.sto, n⟩ 17 = some (.cells (evC mostE) false) := fun n => by rw [Z0J_, f1 17 (by omega)]; exact k0 _
  (repeat (first | rw [Z0] | simp (maxSteps := 2000000) (disch := first | omega | rfl | assumption) only [↓Xp, ↓Xt, Xq, Xc, binP, ofCells, Nat.reduceAdd, Nat.reduceMul, Nat.reduceLT, Nat.reduceEqDiff, reduceIte, Xa, Xn, unP, len_f, len_n, len_r, Xm, Nat.reduceLeDiff, List.nil_append, List.cons_append, g1, cS0]))
  refine WV_callT (deepL_two (o1.cnt (by omega)).deepV rfl) ((gRd o1.inV (by omega)).trans (congrArg some rF)) (OutV.osl _ _ _) rfl rfl (clO_evs5 _) (evsC_len _) (by first | omega | (simp only [Z0L_, Z0M_, Nat.add_assoc, Nat.reduceAdd]; omega) | (simp only; omega)) ?_
  intro w2 st2 o2 q2 c2 f2
  (try simp only [Z0L_] at c2)
  replace o0 := o0.over f2 rfl (by first | omega | (simp only; omega)) (by first | omega | (simp only; omega))
  replace o1 := o1.over f2 rfl (by first | omega | (simp only; omega)) (by first | omega | (simp only; omega))
  replace k0 : ∀ n, St.get ⟨st2.sto, n⟩ 17 = some (.cells (evC mostE) false) := fun n => by rw [Z0J_, f2 17 (by omega)]; exact k0 _
  rw [lF] at o2
  have cO : ∀ (S : St) (k n : Nat), cellsOf (S.put k (some (.cells (evC mostE) false))) 5 (.rsl k 5 0 1) = some (1, evC mostE) := fun S k n => by
    rw [cells_putL]; rfl
  (repeat (first | rw [Z0] | simp (maxSteps := 2000000) (disch := first | omega | rfl | assumption) only [↓Xp, ↓Xt, Xq, Xc, binP, ofCells, Nat.reduceAdd, Nat.reduceMul, Nat.reduceLT, Nat.reduceEqDiff, reduceIte, Xa, Xn, unP, len_f, len_n, len_r, Xm, Nat.reduceLeDiff, List.nil_append, List.cons_append, g1, cS0, k0, evC_len5, evC_take5, evC_one5, cO]))
  rw [cO]
  simp only [evC_one5, if_true]
  have oS : Own ((⟨st2.sto, st2.cnt + 80⟩ : St).put (st2.cnt + 16) (some (.cells (evC mostE) false))) 5 (.rsl c 5 0 4096) 4096 (evsC F) := (o0.cnt (by omega)).put (by simp only [keyOf_rsl, List.mem_singleton]; omega)
  refine WV_appO oS (by show _ < st2.cnt + 80; omega) (by simp only [keyOf_rsl, List.mem_singleton]; omega) (evC_len5 _) (by decide) (by unfold maxBytes; omega) ?_
  intro w3 st3 o3 c3 q3 f3
  have c3' : st3.cnt = st2.cnt + 80 := c3
  clear c3
  have k3 : ∀ n, St.get ⟨st3.sto, n⟩ 17 = some (.cells (evC mostE) false) := fun n => by
    rw [Z0J_, f3 17 (by omega) (by simp only [keyOf_rsl, List.mem_singleton]; omega), St.get_put_ne (by omega)]
    exact k0 _
  have o3' : Own st3 5 w3 (4096 + 1) (evsC (F ++ [mostE])) := by
    have : evsC (F ++ [mostE]) = evsC F ++ evC mostE := by unfold evsC; rw [List.flatMap_append]; simp
    rw [this]; exact o3
  have o2' : Own st3 5 w2 4096 (evsC F) := o2.move (by omega) (fun j hj hlt => by
    have h1 := q2 j hj
    rw [f3 j (by omega) (by simp only [keyOf_rsl, List.mem_singleton]; omega), St.get_put_ne (by omega)]; rfl)
  have o1' : Own st3 1 w1 (frameL F).length (ofBytes (frameL F)) := o1.move (by omega) (fun j hj hlt => by
    have h1 := q1 j hj
    rw [f3 j (by omega) (by simp only [keyOf_rsl, List.mem_singleton]; omega), St.get_put_ne (by omega)]; rfl)
  have e3 : frameV (F ++ [mostE]) = .tup [.nsl, .i .i64 3] := by
    unfold frameV
    rw [if_neg (by simp), if_pos (by rw [List.length_append, lF]; simp)]
  have t3 : ∀ key, callStep (runPure cfgT8 (evFn cfgT8 401) 14) false st3 key [w3] = some (.tup [.nsl, .i .i64 3], st3) := fun key => by
    have hd := o3'.deepE5 (by rw [List.length_append, lF]; rfl)
    exact callStep_gen (deepL_one hd.1) ((gFr hd.2 (by rw [List.length_append, lF]; simp)).trans (congrArg some e3)) rfl
  have t4 : ∀ st key, callStep (runPure cfgT8 (evFn cfgT8 401) 14) false st key [.nsl] = some (.tup [.nsl, .i .i64 2], st) := fun st key => by
    refine callStep_flat rfl (by rw [runPure_ext (show cfgT8.ext 14 = some gFrame from hxT8_gFrame)]; rfl) rfl
  have kg : ∀ {st : St} {key : Nat} {w v : PV} {l : List UInt8} {a e : Int}, deepL st [w, .i .i64 a, .agg (evC mostE)] = some [v, .i .i64 a, .agg (evC mostE)] → inL v = some l → l.length ≤ 140737488355328 → getE l a mostE = (.zero, 0, e) → callStep (runPure cfgT8 (evFn cfgT8 401) 11) false st key [w, .i .i64 a, .agg (evC mostE)] = some (.tup [.agg (evC .zero), .i .i64 0, .i .i64 e], st) := fun {st key w v l a e} hd hv hb he => by
    refine call_deepb hd ?_ rfl rfl
    rw [runPure_ext (show cfgT8.ext 11 = some gGetE from hxT8_gGetE)]
    unfold gGetE evC
    simp only [hv]
    rw [if_pos hb, getV_eq, he]
    rfl
  have kr : ∀ {st : St} {key : Nat} {w v : PV} {l : List UInt8} {a e : Int}, deepL st [w, .i .i64 a] = some [v, .i .i64 a] → inL v = some l → l.length ≤ 140737488355328 → readL l a = .inr e → callStep (runPure cfgT8 (evFn cfgT8 401) 15) false st key [w, .i .i64 a] = some (.tup [.nsl, .i .i64 0, .i .i64 e], st) := fun {st key w v l a e} hd hv hb he => by
    refine call_deepb hd ((gRd hv hb).trans ?_) rfl rfl
    unfold readV
    rw [he]
  have kw : ∀ {st : St} {key : Nat} {w v : PV} {l : List UInt8}, deepL st [w] = some [v] → inL v = some l → l ∈ wrongL → callStep (runPure cfgT8 (evFn cfgT8 401) 16) false st key [w] = some (.b true, st) := fun {st key w v l} hd hv hb => by
    refine call_deepb hd ?_ rfl rfl
    rw [runPure_ext (show cfgT8.ext 16 = some gWrong from hxT8_gWrong)]
    unfold gWrong
    simp only [hv]
    rw [if_pos hb]
  have tg0 : ∀ (S : St) (key key2 : Nat), callStep (runPure cfgT8 (evFn cfgT8 401) 11) false (S.put key (some (.cells [.i .u8 ((1 : Nat) : Int), .i .u8 ((2 : Nat) : Int)] false))) key2 [.rsl key 1 0 2, .i .i64 ((0 : Nat) : Int), .agg (evC mostE)] = some (.tup [.agg (evC .zero), .i .i64 0, .i .i64 11], S.put key (some (.cells [.i .u8 ((1 : Nat) : Int), .i .u8 ((2 : Nat) : Int)] false))) := fun S key key2 => kg (l := [1, 2]) (deep_3 (deep_bytes0 (m := [1, 2]) (St.get_putk _ _ _)) rfl rfl) (in_fsl _) (by decide) (by kernel_rfl)
  have tg1 : ∀ (S : St) (key key2 : Nat), callStep (runPure cfgT8 (evFn cfgT8 401) 11) false (S.put key (some (.cells [.i .u8 ((1 : Nat) : Int), .i .u8 ((128 : Nat) : Int), .i .u8 ((0 : Nat) : Int), .i .u8 ((0 : Nat) : Int), .i .u8 ((0 : Nat) : Int), .i .u8 ((0 : Nat) : Int)] false))) key2 [.rsl key 1 0 6, .i .i64 ((0 : Nat) : Int), .agg (evC mostE)] = some (.tup [.agg (evC .zero), .i .i64 0, .i .i64 10], S.put key (some (.cells [.i .u8 ((1 : Nat) : Int), .i .u8 ((128 : Nat) : Int), .i .u8 ((0 : Nat) : Int), .i .u8 ((0 : Nat) : Int), .i .u8 ((0 : Nat) : Int), .i .u8 ((0 : Nat) : Int)] false))) := fun S key key2 => kg (l := [1, 128, 0, 0, 0, 0]) (deep_3 (deep_bytes0 (m := [1, 128, 0, 0, 0, 0]) (St.get_putk _ _ _)) rfl rfl) (in_fsl _) (by decide) (by kernel_rfl)
  have th0 : ∀ (S : St) (key2 : Nat), callStep (runPure cfgT8 (evFn cfgT8 401) 11) false S key2 [.nsl, .i .i64 ((0 : Nat) : Int), .agg (evC mostE)] = some (.tup [.agg (evC .zero), .i .i64 0, .i .i64 11], S) := fun S key2 => kg (l := []) (deep_3 rfl rfl rfl) rfl (by decide) (by kernel_rfl)
  have th1 : ∀ (S : St) (key2 : Nat), callStep (runPure cfgT8 (evFn cfgT8 401) 11) false S key2 [.nsl, .i .i64 ((1 : Nat) : Int), .agg (evC mostE)] = some (.tup [.agg (evC .zero), .i .i64 0, .i .i64 2], S) := fun S key2 => kg (l := []) (deep_3 rfl rfl rfl) rfl (by decide) (by kernel_rfl)
  have th2 : ∀ (S : St) (key2 : Nat), callStep (runPure cfgT8 (evFn cfgT8 401) 11) false S key2 [.nsl, .i .i64 (-((1 : Nat) : Int)), .agg (evC mostE)] = some (.tup [.agg (evC .zero), .i .i64 0, .i .i64 2], S) := fun S key2 => kg (l := []) (deep_3 rfl rfl rfl) rfl (by decide) (by kernel_rfl)
  have tr0 : ∀ (S : St) (key key2 : Nat), callStep (runPure cfgT8 (evFn cfgT8 401) 15) false (S.put key (some (.cells [.i .u8 ((129 : Nat) : Int), .i .u8 ((128 : Nat) : Int), .i .u8 ((16 : Nat) : Int)] false))) key2 [.rsl key 1 0 3, .i .i64 ((0 : Nat) : Int)] = some (.tup [.nsl, .i .i64 0, .i .i64 3], S.put key (some (.cells [.i .u8 ((129 : Nat) : Int), .i .u8 ((128 : Nat) : Int), .i .u8 ((16 : Nat) : Int)] false))) := fun S key key2 => kr (l := [129, 128, 16]) (deepL_two (deep_bytes0 (m := [129, 128, 16]) (St.get_putk _ _ _)) rfl) (in_fsl _) (by decide) (by kernel_rfl)
  have tr1 : ∀ (S : St) (key key2 : Nat), callStep (runPure cfgT8 (evFn cfgT8 401) 15) false (S.put key (some (.cells [.i .u8 ((1 : Nat) : Int), .i .u8 ((0 : Nat) : Int), .i .u8 ((0 : Nat) : Int), .i .u8 ((0 : Nat) : Int), .i .u8 ((0 : Nat) : Int), .i .u8 ((0 : Nat) : Int)] false))) key2 [.rsl key 1 0 6, .i .i64 ((0 : Nat) : Int)] = some (.tup [.nsl, .i .i64 0, .i .i64 12], S.put key (some (.cells [.i .u8 ((1 : Nat) : Int), .i .u8 ((0 : Nat) : Int), .i .u8 ((0 : Nat) : Int), .i .u8 ((0 : Nat) : Int), .i .u8 ((0 : Nat) : Int), .i .u8 ((0 : Nat) : Int)] false))) := fun S key key2 => kr (l := [1, 0, 0, 0, 0, 0]) (deepL_two (deep_bytes0 (m := [1, 0, 0, 0, 0, 0]) (St.get_putk _ _ _)) rfl) (in_fsl _) (by decide) (by kernel_rfl)
  have tr2 : ∀ (S : St) (key key2 : Nat), callStep (runPure cfgT8 (evFn cfgT8 401) 15) false (S.put key (some (.cells [.i .u8 ((128 : Nat) : Int), .i .u8 ((0 : Nat) : Int)] false))) key2 [.rsl key 1 0 2, .i .i64 ((0 : Nat) : Int)] = some (.tup [.nsl, .i .i64 0, .i .i64 10], S.put key (some (.cells [.i .u8 ((128 : Nat) : Int), .i .u8 ((0 : Nat) : Int)] false))) := fun S key key2 => kr (l := [128, 0]) (deepL_two (deep_bytes0 (m := [128, 0]) (St.get_putk _ _ _)) rfl) (in_fsl _) (by decide) (by kernel_rfl)
  have ts0 : ∀ (S : St) (key2 : Nat), callStep (runPure cfgT8 (evFn cfgT8 401) 15) false S key2 [.nsl, .i .i64 ((0 : Nat) : Int)] = some (.tup [.nsl, .i .i64 0, .i .i64 11], S) := fun S key2 => kr (l := []) (deepL_two rfl rfl) rfl (by decide) (by kernel_rfl)
  have ts1 : ∀ (S : St) (key2 : Nat), callStep (runPure cfgT8 (evFn cfgT8 401) 15) false S key2 [.nsl, .i .i64 ((1 : Nat) : Int)] = some (.tup [.nsl, .i .i64 0, .i .i64 2], S) := fun S key2 => kr (l := []) (deepL_two rfl rfl) rfl (by decide) (by kernel_rfl)
  have tw0 : ∀ (S : St) (key key2 : Nat), callStep (runPure cfgT8 (evFn cfgT8 401) 16) false (S.put key (some (.cells [.i .u8 ((0 : Nat) : Int)] false))) key2 [.rsl key 1 0 1] = some (.b true, S.put key (some (.cells [.i .u8 ((0 : Nat) : Int)] false))) := fun S key key2 => kw (l := [0]) (deepL_one (deep_bytes0 (m := [0]) (St.get_putk _ _ _))) (in_fsl _) (by decide)
  have tw1 : ∀ (S : St) (key key2 : Nat), callStep (runPure cfgT8 (evFn cfgT8 401) 16) false (S.put key (some (.cells [.i .u8 ((1 : Nat) : Int)] false))) key2 [.rsl key 1 0 1] = some (.b true, S.put key (some (.cells [.i .u8 ((1 : Nat) : Int)] false))) := fun S key key2 => kw (l := [1]) (deepL_one (deep_bytes0 (m := [1]) (St.get_putk _ _ _))) (in_fsl _) (by decide)
  have tw2 : ∀ (S : St) (key key2 : Nat), callStep (runPure cfgT8 (evFn cfgT8 401) 16) false (S.put key (some (.cells [.i .u8 ((1 : Nat) : Int), .i .u8 ((0 : Nat) : Int), .i .u8 ((0 : Nat) : Int), .i .u8 ((0 : Nat) : Int), .i .u8 ((0 : Nat) : Int)] false))) key2 [.rsl key 1 0 5] = some (.b true, S.put key (some (.cells [.i .u8 ((1 : Nat) : Int), .i .u8 ((0 : Nat) : Int), .i .u8 ((0 : Nat) : Int), .i .u8 ((0 : Nat) : Int), .i .u8 ((0 : Nat) : Int)] false))) := fun S key key2 => kw (l := [1, 0, 0, 0, 0]) (deepL_one (deep_bytes0 (m := [1, 0, 0, 0, 0]) (St.get_putk _ _ _))) (in_fsl _) (by decide)
  have tw3 : ∀ (S : St) (key key2 : Nat), callStep (runPure cfgT8 (evFn cfgT8 401) 16) false (S.put key (some (.cells [.i .u8 ((1 : Nat) : Int), .i .u8 ((0 : Nat) : Int), .i .u8 ((0 : Nat) : Int), .i .u8 ((0 : Nat) : Int), .i .u8 ((0 : Nat) : Int), .i .u8 ((0 : Nat) : Int), .i .u8 ((0 : Nat) : Int)] false))) key2 [.rsl key 1 0 7] = some (.b true, S.put key (some (.cells [.i .u8 ((1 : Nat) : Int), .i .u8 ((0 : Nat) : Int), .i .u8 ((0 : Nat) : Int), .i .u8 ((0 : Nat) : Int), .i .u8 ((0 : Nat) : Int), .i .u8 ((0 : Nat) : Int), .i .u8 ((0 : Nat) : Int)] false))) := fun S key key2 => kw (l := [1, 0, 0, 0, 0, 0, 0]) (deepL_one (deep_bytes0 (m := [1, 0, 0, 0, 0, 0, 0]) (St.get_putk _ _ _))) (in_fsl _) (by decide)
  have tw4 : ∀ (S : St) (key key2 : Nat), callStep (runPure cfgT8 (evFn cfgT8 401) 16) false (S.put key (some (.cells [.i .u8 ((2 : Nat) : Int), .i .u8 ((0 : Nat) : Int), .i .u8 ((0 : Nat) : Int), .i .u8 ((0 : Nat) : Int), .i .u8 ((0 : Nat) : Int), .i .u8 ((0 : Nat) : Int)] false))) key2 [.rsl key 1 0 6] = some (.b true, S.put key (some (.cells [.i .u8 ((2 : Nat) : Int), .i .u8 ((0 : Nat) : Int), .i .u8 ((0 : Nat) : Int), .i .u8 ((0 : Nat) : Int), .i .u8 ((0 : Nat) : Int), .i .u8 ((0 : Nat) : Int)] false))) := fun S key key2 => kw (l := [2, 0, 0, 0, 0, 0]) (deepL_one (deep_bytes0 (m := [2, 0, 0, 0, 0, 0]) (St.get_putk _ _ _))) (in_fsl _) (by decide)
  have tw5 : ∀ (S : St) (key key2 : Nat), callStep (runPure cfgT8 (evFn cfgT8 401) 16) false (S.put key (some (.cells [.i .u8 ((129 : Nat) : Int), .i .u8 ((32 : Nat) : Int)] false))) key2 [.rsl key 1 0 2] = some (.b true, S.put key (some (.cells [.i .u8 ((129 : Nat) : Int), .i .u8 ((32 : Nat) : Int)] false))) := fun S key key2 => kw (l := [129, 32]) (deepL_one (deep_bytes0 (m := [129, 32]) (St.get_putk _ _ _))) (in_fsl _) (by decide)
  have tw6 : ∀ (S : St) (key key2 : Nat), callStep (runPure cfgT8 (evFn cfgT8 401) 16) false (S.put key (some (.cells [.i .u8 ((128 : Nat) : Int), .i .u8 ((0 : Nat) : Int)] false))) key2 [.rsl key 1 0 2] = some (.b true, S.put key (some (.cells [.i .u8 ((128 : Nat) : Int), .i .u8 ((0 : Nat) : Int)] false))) := fun S key key2 => kw (l := [128, 0]) (deepL_one (deep_bytes0 (m := [128, 0]) (St.get_putk _ _ _))) (in_fsl _) (by decide)
  have twn : ∀ (S : St) (key2 : Nat), callStep (runPure cfgT8 (evFn cfgT8 401) 16) false S key2 [.nsl] = some (.b true, S) := fun S key2 => kw (l := []) (deepL_one rfl) rfl (by decide)
  have hee : ∀ x : Int, (x == x) = true := fun x => beq_self_eq_true x
  have l1 := o1'.len
  have l2 := o2'.len
  clear gFr gRd fF rF o0 o1 o2 o3 k0 cO oS e3 f1 f2 f3 kg kr kw
  (repeat (first | rw [Z0] | simp (maxSteps := 2000000) (disch := first | omega | rfl | assumption) only [↓Xp, ↓Xt, Xq, Xc, binP, ofCells, Nat.reduceAdd, Nat.reduceMul, Nat.reduceLT, Nat.reduceEqDiff, reduceIte, Xa, Xn, unP, len_f, len_n, len_r, Xm, Nat.reduceLeDiff, List.nil_append, List.cons_append, g1, cS0, k3, t3, t4, hee, l1, l2, evC_len5, evC_take5, evC_one5, aw, tg0, tg1, th0, th1, th2, tr0, tr1, tr2, ts0, ts1, tw0, tw1, tw2, tw3, tw4, tw5, tw6, twn]))
  · refine ⟨nofun, _, rfl, ?_⟩
    simp only [tupV, ↓Z0, ↓Xp, ↓Xt, Xq, Xc, binP, ofCells, Nat.reduceAdd, Nat.reduceMul, Nat.reduceLT, Nat.reduceEqDiff, reduceIte]
  exact 0
theorem enum_law : ∃ fuel, evP cfgT8 fuel 3 [] = some (.b true) := enum_ev
end Go.Pe
