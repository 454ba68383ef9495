/-
  SegmentNumbers, by the interpreter of plain data. No condition.
-/
import Derived.Test.YtogdkhejfkbnmaaSegJ
import Derived.Test.YtogdkhejfkbnmaaPeL3
import Derived.Test.YtogdkhejfkbnmaaPe9
set_option linter.unusedVariables false
set_option linter.unusedSimpArgs false
namespace Go.Pe
open Go Go.Am Go.RowKit

def noneL : List (List UInt8) := [[], [65, 77, 83, 49, 0, 1, 0, 1, 0, 1, 0, 1, 0, 1, 0, 1], [65, 77, 68, 49, 0, 0], [65, 77, 68, 49, 0, 1, 0, 1, 0, 1, 0, 1, 0, 1, 0], [65, 77, 68, 49, 0, 1, 0, 1, 0, 1, 0, 1, 0, 1, 0, 1, 0], [65, 77, 68, 49, 0, 1, 0, 2, 0, 1, 0, 1, 0, 1, 0, 1], [65, 77, 68, 49, 0, 1, 0, 0, 0, 1, 0, 1, 0, 1, 0, 1], [65, 77, 68, 49, 0, 2, 0, 1, 0, 1, 0, 2, 0, 2, 0, 2, 0, 2], [65, 77, 68, 49, 0, 1, 0, 1, 1, 1, 0, 1, 0, 1, 0, 1], [65, 77, 68, 49, 0, 129, 128, 64]]
def gNone : List PV → Option PV
  | [v] => match inL v with
    | some l => if l ∈ noneL then some (.b true) else none
    | none => none
  | _ => none
def extN9 : FuncId → Option (List PV → Option PV) := fun f => if f = 20 then some gUnpackS else none
noncomputable def cfgN9 : Cfg := { fn := fun f => lookT f tblL, ext := extN9 }
theorem extN9_ok {Gl : Gmap} : ∀ f g, extN9 f = some g → PureOK Go.Proofs.Try.prog Gl f g := by
  intro f g h
  unfold extN9 at h
  by_cases e : f = 20
  · subst e; rw [if_pos rfl] at h; cases h
    exact pure_of cfgS1_ok unpacks_any
  rw [if_neg e] at h; clear e
  cases h
theorem cfgN9_ok {Gl : Gmap} : CfgOK Go.Proofs.Try.prog Gl cfgN9 := cfg_okt tbl_all extN9_ok
theorem hxN9_gUnpackS : extN9 20 = some gUnpackS := by kernel_rfl

set_option maxRecDepth 100000 in
theorem none_run0 : fvP cfgN9 400 21 [.nsl] = some (.b true) := by kernel_rfl
set_option maxRecDepth 100000 in
theorem none_run : noneL.all (fun l => match fvP cfgN9 400 21 [.fsl l.length (ofBytes l)] with | some (.b true) => true | _ => false) = true := by kernel_rfl
theorem none_any (args : List PV) (r : PV) (h : gNone args = some r) : ∃ fuel, evP cfgN9 fuel 21 args = some r := by
  unfold gNone at h
  split at h
  · rename_i v
    split at h
    · rename_i l hl
      split at h
      · rename_i hc
        simp only [Option.some.injEq] at h
        subst h
        refine ⟨400, ?_⟩
        rw [← fvP_eq]
        unfold inL at hl
        split at hl
        · exact none_run0
        · split at hl
          · rename_i n cs l' hb
            split at hl
            · rename_i hn
              simp only [Option.some.injEq] at hl
              subst hl hn
              rw [of_bytesOf hb]
              have h1 := (List.all_eq_true.1 none_run) _ hc
              split at h1
              · assumption
              · cases h1
            · cases hl
          · cases hl
        · cases hl
      · cases h
    · cases h
  · cases h
def extSN : FuncId → Option (List PV → Option PV) := fun f => if f = 11 then some gHeadM else if f = 19 then some gPackS else if f = 20 then some gUnpackS else if f = 15 then some gScanS else if f = 13 then some gCopyB else if f = 21 then some gNone else if f = 22 then some gAwakeS else none
noncomputable def cfgSN : Cfg := { fn := fun f => lookT f tblL, ext := extSN }
theorem extSN_ok {Gl : Gmap} : ∀ f g, extSN f = some g → PureOK Go.Proofs.Try.prog Gl f g := by
  intro f g h
  unfold extSN at h
  by_cases e : f = 11
  · subst e; rw [if_pos rfl] at h; cases h
    exact pure_of cfgS1_ok headm_any
  rw [if_neg e] at h; clear e
  by_cases e : f = 19
  · subst e; rw [if_pos rfl] at h; cases h
    exact pure_of cfgS1_ok packs_any
  rw [if_neg e] at h; clear e
  by_cases e : f = 20
  · subst e; rw [if_pos rfl] at h; cases h
    exact pure_of cfgS1_ok unpacks_any
  rw [if_neg e] at h; clear e
  by_cases e : f = 15
  · subst e; rw [if_pos rfl] at h; cases h
    exact pure_of cfgS2_ok scans_any
  rw [if_neg e] at h; clear e
  by_cases e : f = 13
  · subst e; rw [if_pos rfl] at h; cases h
    exact pure_of cfgE0_ok copyb_any
  rw [if_neg e] at h; clear e
  by_cases e : f = 21
  · subst e; rw [if_pos rfl] at h; cases h
    exact pure_of cfgN9_ok none_any
  rw [if_neg e] at h; clear e
  by_cases e : f = 22
  · subst e; rw [if_pos rfl] at h; cases h
    exact pure_of cfgS3_ok sawake_any
  rw [if_neg e] at h; clear e
  cases h
theorem cfgSN_ok {Gl : Gmap} : CfgOK Go.Proofs.Try.prog Gl cfgSN := cfg_okt tbl_all extSN_ok
theorem hxSN_gHeadM : extSN 11 = some gHeadM := by kernel_rfl
theorem hxSN_gPackS : extSN 19 = some gPackS := by kernel_rfl
theorem hxSN_gUnpackS : extSN 20 = some gUnpackS := by kernel_rfl
theorem hxSN_gScanS : extSN 15 = some gScanS := by kernel_rfl
theorem hxSN_gCopyB : extSN 13 = some gCopyB := by kernel_rfl
theorem hxSN_gNone : extSN 21 = some gNone := by kernel_rfl
theorem hxSN_gAwakeS : extSN 22 = some gAwakeS := by kernel_rfl

noncomputable def cfgL3 : Cfg := { fn := fun f => lookT f tblX3, ext := extSN }
theorem cfgL3_ok {Gl : Gmap} : CfgOK Go.Proofs.Try.prog Gl cfgL3 := cfg_okt tbl_all3 extSN_ok
theorem WC_run {α : Type} {cfg : Cfg} {k n : Nat} {m : MCode} {x : Now} (f : Now → α) (a : α) (h : (fCode m cfg (fFn cfg k) n x).map (fun p => (p.1, f p.2)) = some (.nrm, a)) : WC cfg (evFn cfg k) n m x (fun e x' => e = .nrm ∧ f x' = a) := by
  rw [fFn_eq, fCode_eq] at h
  simp only [Option.map_eq_some_iff, Prod.mk.injEq] at h
  obtain ⟨⟨e, x'⟩, h1, h2, h3⟩ := h
  exact ⟨e, x', h1, h2, h3⟩
theorem WC_assoc2 (cfg : Cfg) (callE : CallE) (n : Nat) (a b c : MCode) (x : Now) (Q : MExit → Now → Prop) : WC cfg callE n (.seq a (.seq b c)) x Q ↔ WC cfg callE n (.seq (.seq a b) c) x Q := by
  rw [Z0, Z0, Z0]
  constructor
  · intro h
    refine h.mono ?_
    intro e x' hq
    cases e with
    | nrm => exact (Z0 ..).1 hq
    | ex id => exact hq
    | ret => exact hq
  · intro h
    refine h.mono ?_
    intro e x' hq
    cases e with
    | nrm => exact (Z0 ..).2 hq
    | ex id => exact hq
    | ret => exact hq
theorem evs_zeros5 (n : Nat) : List.flatten (List.replicate n [PV.i .i64 ((0 : Nat) : Int), .i .u8 ((0 : Nat) : Int), .i .i64 ((0 : Nat) : Int), .i .i64 ((0 : Nat) : Int), .i .i64 ((0 : Nat) : Int)]) = evsC (List.replicate n .zero) := by
  induction n with
  | zero => rfl
  | succ n ih => rw [List.replicate_succ, List.flatten_cons, ih, List.replicate_succ]; rfl
theorem clO_evs5 (L : List Ev) : clO (evsC L) = true := by
  unfold clO
  rw [List.all_eq_true]
  intro p hp
  simp only [evsC, List.mem_flatMap] at hp
  obtain ⟨e, _, h⟩ := hp
  simp only [evC, List.mem_cons, List.not_mem_nil, or_false] at h
  rcases h with rfl | rfl | rfl | rfl | rfl <;> rfl
def valE5 (v : PV) (L : List Ev) : PV := valO v L.length (evsC L)
theorem Own.deepE5 {st : St} {n : Nat} {v : PV} {L : List Ev} (h : Own st 5 v n (evsC L)) (hn : n = L.length) : Go.Pe.deep st 12 v = some (valE5 v L) ∧ inEl (valE5 v L) = some L := by
  subst hn
  refine ⟨h.deepO (ev_flatC L), ?_⟩
  rcases h with ⟨rfl, h1, h2⟩ | ⟨k, rfl, _⟩
  · have : L = [] := List.length_eq_zero_iff.1 h1
    subst this; rfl
  · exact inEl_fsl L
theorem evC_len5 (e : Ev) : (evC e).length = 5 := Eq.trans rfl rfl
theorem evC_take5 (e : Ev) : (evC e).take 5 = evC e := Eq.trans rfl rfl
theorem evC_one5 (e : Ev) : (evC e).all PV.one = true := Eq.trans rfl rfl
set_option maxHeartbeats 8000000 in
set_option maxRecDepth 100000 in
theorem snum_ev : ∃ fuel, evP cfgL3 fuel 3 [] = some (.b true) := by
  refine ⟨401 + 1, ev_flat rfl rfl (fun _ => rfl) (evFn_W (by kernel_rfl : cfgL3.fn 3 = some m3) ?_)⟩
  unfold m3
  simp only [putArgs]
  rw [WC_assoc2, WC_assoc2, WC_assoc2, WC_assoc2, WC_assoc2, WC_assoc2, WC_assoc2, WC_assoc2, WC_assoc2, WC_assoc2, WC_assoc2, WC_assoc2, WC_assoc2]
  refine Za (fun x => (x.env.get 19, x.env.get 21, x.env.get 23) = (.b true, .i .i64 2, .i .i64 2)) ?_ ?_
  · exact WC_run (fun x => (x.env.get 19, x.env.get 21, x.env.get 23)) _ (by kernel_rfl)
  rintro ⟨env, ⟨sto, c⟩⟩ h
  simp only [Prod.mk.injEq] at h
  obtain ⟨g19, g21, g23⟩ := h
  have aw : ∀ (st : St) (key : Nat), callStep (runPure cfgL3 (evFn cfgL3 401) 22) false st key [] = some (.b true, st) := fun st key => callStep_flat rfl (by rw [runPure_ext (show cfgL3.ext 22 = some gAwakeS from hxSN_gAwakeS)]; rfl) rfl
  have gPk : ∀ {v : PV} {l : List Ev} {n : Int}, inEl v = some l → l.length ≤ 140737488355327 → -9223372036854775808 ≤ n ∧ n ≤ 9223372036854775807 → runPure cfgL3 (evFn cfgL3 401) 19 [.i .i64 n, v] = some (packV n l) := fun {v l n} hv hl hn => by
    rw [runPure_ext (show cfgL3.ext 19 = some gPackS from hxSN_gPackS)]
    unfold gPackS
    simp only [hv]
    rw [if_pos ⟨hl, hn.1, hn.2⟩]
  have gUn : ∀ {v : PV} {b : List UInt8}, inL v = some b → b.length ≤ 140737488355000 → runPure cfgL3 (evFn cfgL3 401) 20 [v] = some (unpackV b) := fun {v b} hv hb => by
    rw [runPure_ext (show cfgL3.ext 20 = some gUnpackS from hxSN_gUnpackS)]
    unfold gUnpackS
    simp only [hv]
    rw [if_pos hb]
  have ku : ∀ {st : St} {key : Nat} {w v : PV} {l : List UInt8} {e : Int}, deepL st [w] = some [v] → inL v = some l → l.length ≤ 140737488355000 → unpackR l = .inr e → callStep (runPure cfgL3 (evFn cfgL3 401) 20) false st key [w] = some (.tup [.i .i64 0, .nsl, .i .i64 e], st) := fun {st key w v l e} hd hv hb he => by
    refine call_deepb hd ((gUn hv hb).trans ?_) rfl rfl
    unfold unpackV
    rw [he]
  have kn : ∀ {st : St} {key : Nat} {w v : PV} {l : List UInt8}, deepL st [w] = some [v] → inL v = some l → l ∈ noneL → callStep (runPure cfgL3 (evFn cfgL3 401) 21) false st key [w] = some (.b true, st) := fun {st key w v l} hd hv hb => by
    refine call_deepb hd ?_ rfl rfl
    rw [runPure_ext (show cfgL3.ext 21 = some gNone from hxSN_gNone)]
    unfold gNone
    simp only [hv]
    rw [if_pos hb]
  have tu0 : ∀ (S : St) (key key2 : Nat), callStep (runPure cfgL3 (evFn cfgL3 401) 20) false (S.put key (some (.cells [.i .u8 ((1 : Nat) : Int), .i .u8 ((2 : Nat) : Int), .i .u8 ((3 : Nat) : Int)] false))) key2 [.rsl key 1 0 3] = some (.tup [.i .i64 0, .nsl, .i .i64 11], S.put key (some (.cells [.i .u8 ((1 : Nat) : Int), .i .u8 ((2 : Nat) : Int), .i .u8 ((3 : Nat) : Int)] false))) := fun S key key2 => ku (l := [1, 2, 3]) (deepL_one (deep_bytes0 (m := [1, 2, 3]) (St.get_putk _ _ _))) (in_fsl _) (by decide) (by kernel_rfl)
  have tu1 : ∀ (S : St) (key key2 : Nat), callStep (runPure cfgL3 (evFn cfgL3 401) 20) false (S.put key (some (.cells [.i .u8 ((65 : Nat) : Int), .i .u8 ((77 : Nat) : Int), .i .u8 ((68 : Nat) : Int), .i .u8 ((49 : Nat) : Int), .i .u8 ((0 : Nat) : Int)] false))) key2 [.rsl key 1 0 5] = some (.tup [.i .i64 0, .nsl, .i .i64 12], S.put key (some (.cells [.i .u8 ((65 : Nat) : Int), .i .u8 ((77 : Nat) : Int), .i .u8 ((68 : Nat) : Int), .i .u8 ((49 : Nat) : Int), .i .u8 ((0 : Nat) : Int)] false))) := fun S key key2 => ku (l := [65, 77, 68, 49, 0]) (deepL_one (deep_bytes0 (m := [65, 77, 68, 49, 0]) (St.get_putk _ _ _))) (in_fsl _) (by decide) (by kernel_rfl)
  have tn0 : ∀ (S : St) (key key2 : Nat), callStep (runPure cfgL3 (evFn cfgL3 401) 21) false (S.put key (some (.cells [.i .u8 ((65 : Nat) : Int), .i .u8 ((77 : Nat) : Int), .i .u8 ((83 : Nat) : Int), .i .u8 ((49 : Nat) : Int), .i .u8 ((0 : Nat) : Int), .i .u8 ((1 : Nat) : Int), .i .u8 ((0 : Nat) : Int), .i .u8 ((1 : Nat) : Int), .i .u8 ((0 : Nat) : Int), .i .u8 ((1 : Nat) : Int), .i .u8 ((0 : Nat) : Int), .i .u8 ((1 : Nat) : Int), .i .u8 ((0 : Nat) : Int), .i .u8 ((1 : Nat) : Int), .i .u8 ((0 : Nat) : Int), .i .u8 ((1 : Nat) : Int)] false))) key2 [.rsl key 1 0 16] = some (.b true, S.put key (some (.cells [.i .u8 ((65 : Nat) : Int), .i .u8 ((77 : Nat) : Int), .i .u8 ((83 : Nat) : Int), .i .u8 ((49 : Nat) : Int), .i .u8 ((0 : Nat) : Int), .i .u8 ((1 : Nat) : Int), .i .u8 ((0 : Nat) : Int), .i .u8 ((1 : Nat) : Int), .i .u8 ((0 : Nat) : Int), .i .u8 ((1 : Nat) : Int), .i .u8 ((0 : Nat) : Int), .i .u8 ((1 : Nat) : Int), .i .u8 ((0 : Nat) : Int), .i .u8 ((1 : Nat) : Int), .i .u8 ((0 : Nat) : Int), .i .u8 ((1 : Nat) : Int)] false))) := fun S key key2 => kn (l := [65, 77, 83, 49, 0, 1, 0, 1, 0, 1, 0, 1, 0, 1, 0, 1]) (deepL_one (deep_bytes0 (m := [65, 77, 83, 49, 0, 1, 0, 1, 0, 1, 0, 1, 0, 1, 0, 1]) (St.get_putk _ _ _))) (in_fsl _) (by decide)
  have tn1 : ∀ (S : St) (key key2 : Nat), callStep (runPure cfgL3 (evFn cfgL3 401) 21) false (S.put key (some (.cells [.i .u8 ((65 : Nat) : Int), .i .u8 ((77 : Nat) : Int), .i .u8 ((68 : Nat) : Int), .i .u8 ((49 : Nat) : Int), .i .u8 ((0 : Nat) : Int), .i .u8 ((0 : Nat) : Int)] false))) key2 [.rsl key 1 0 6] = some (.b true, S.put key (some (.cells [.i .u8 ((65 : Nat) : Int), .i .u8 ((77 : Nat) : Int), .i .u8 ((68 : Nat) : Int), .i .u8 ((49 : Nat) : Int), .i .u8 ((0 : Nat) : Int), .i .u8 ((0 : Nat) : Int)] false))) := fun S key key2 => kn (l := [65, 77, 68, 49, 0, 0]) (deepL_one (deep_bytes0 (m := [65, 77, 68, 49, 0, 0]) (St.get_putk _ _ _))) (in_fsl _) (by decide)
  have tn2 : ∀ (S : St) (key key2 : Nat), callStep (runPure cfgL3 (evFn cfgL3 401) 21) false (S.put key (some (.cells [.i .u8 ((65 : Nat) : Int), .i .u8 ((77 : Nat) : Int), .i .u8 ((68 : Nat) : Int), .i .u8 ((49 : Nat) : Int), .i .u8 ((0 : Nat) : Int), .i .u8 ((1 : Nat) : Int), .i .u8 ((0 : Nat) : Int), .i .u8 ((1 : Nat) : Int), .i .u8 ((0 : Nat) : Int), .i .u8 ((1 : Nat) : Int), .i .u8 ((0 : Nat) : Int), .i .u8 ((1 : Nat) : Int), .i .u8 ((0 : Nat) : Int), .i .u8 ((1 : Nat) : Int), .i .u8 ((0 : Nat) : Int)] false))) key2 [.rsl key 1 0 15] = some (.b true, S.put key (some (.cells [.i .u8 ((65 : Nat) : Int), .i .u8 ((77 : Nat) : Int), .i .u8 ((68 : Nat) : Int), .i .u8 ((49 : Nat) : Int), .i .u8 ((0 : Nat) : Int), .i .u8 ((1 : Nat) : Int), .i .u8 ((0 : Nat) : Int), .i .u8 ((1 : Nat) : Int), .i .u8 ((0 : Nat) : Int), .i .u8 ((1 : Nat) : Int), .i .u8 ((0 : Nat) : Int), .i .u8 ((1 : Nat) : Int), .i .u8 ((0 : Nat) : Int), .i .u8 ((1 : Nat) : Int), .i .u8 ((0 : Nat) : Int)] false))) := fun S key key2 => kn (l := [65, 77, 68, 49, 0, 1, 0, 1, 0, 1, 0, 1, 0, 1, 0]) (deepL_one (deep_bytes0 (m := [65, 77, 68, 49, 0, 1, 0, 1, 0, 1, 0, 1, 0, 1, 0]) (St.get_putk _ _ _))) (in_fsl _) (by decide)
  have tn3 : ∀ (S : St) (key key2 : Nat), callStep (runPure cfgL3 (evFn cfgL3 401) 21) false (S.put key (some (.cells [.i .u8 ((65 : Nat) : Int), .i .u8 ((77 : Nat) : Int), .i .u8 ((68 : Nat) : Int), .i .u8 ((49 : Nat) : Int), .i .u8 ((0 : Nat) : Int), .i .u8 ((1 : Nat) : Int), .i .u8 ((0 : Nat) : Int), .i .u8 ((1 : Nat) : Int), .i .u8 ((0 : Nat) : Int), .i .u8 ((1 : Nat) : Int), .i .u8 ((0 : Nat) : Int), .i .u8 ((1 : Nat) : Int), .i .u8 ((0 : Nat) : Int), .i .u8 ((1 : Nat) : Int), .i .u8 ((0 : Nat) : Int), .i .u8 ((1 : Nat) : Int), .i .u8 ((0 : Nat) : Int)] false))) key2 [.rsl key 1 0 17] = some (.b true, S.put key (some (.cells [.i .u8 ((65 : Nat) : Int), .i .u8 ((77 : Nat) : Int), .i .u8 ((68 : Nat) : Int), .i .u8 ((49 : Nat) : Int), .i .u8 ((0 : Nat) : Int), .i .u8 ((1 : Nat) : Int), .i .u8 ((0 : Nat) : Int), .i .u8 ((1 : Nat) : Int), .i .u8 ((0 : Nat) : Int), .i .u8 ((1 : Nat) : Int), .i .u8 ((0 : Nat) : Int), .i .u8 ((1 : Nat) : Int), .i .u8 ((0 : Nat) : Int), .i .u8 ((1 : Nat) : Int), .i .u8 ((0 : Nat) : Int), .i .u8 ((1 : Nat) : Int), .i .u8 ((0 : Nat) : Int)] false))) := fun S key key2 => kn (l := [65, 77, 68, 49, 0, 1, 0, 1, 0, 1, 0, 1, 0, 1, 0, 1, 0]) (deepL_one (deep_bytes0 (m := [65, 77, 68, 49, 0, 1, 0, 1, 0, 1, 0, 1, 0, 1, 0, 1, 0]) (St.get_putk _ _ _))) (in_fsl _) (by decide)
  have tn4 : ∀ (S : St) (key key2 : Nat), callStep (runPure cfgL3 (evFn cfgL3 401) 21) false (S.put key (some (.cells [.i .u8 ((65 : Nat) : Int), .i .u8 ((77 : Nat) : Int), .i .u8 ((68 : Nat) : Int), .i .u8 ((49 : Nat) : Int), .i .u8 ((0 : Nat) : Int), .i .u8 ((1 : Nat) : Int), .i .u8 ((0 : Nat) : Int), .i .u8 ((2 : Nat) : Int), .i .u8 ((0 : Nat) : Int), .i .u8 ((1 : Nat) : Int), .i .u8 ((0 : Nat) : Int), .i .u8 ((1 : Nat) : Int), .i .u8 ((0 : Nat) : Int), .i .u8 ((1 : Nat) : Int), .i .u8 ((0 : Nat) : Int), .i .u8 ((1 : Nat) : Int)] false))) key2 [.rsl key 1 0 16] = some (.b true, S.put key (some (.cells [.i .u8 ((65 : Nat) : Int), .i .u8 ((77 : Nat) : Int), .i .u8 ((68 : Nat) : Int), .i .u8 ((49 : Nat) : Int), .i .u8 ((0 : Nat) : Int), .i .u8 ((1 : Nat) : Int), .i .u8 ((0 : Nat) : Int), .i .u8 ((2 : Nat) : Int), .i .u8 ((0 : Nat) : Int), .i .u8 ((1 : Nat) : Int), .i .u8 ((0 : Nat) : Int), .i .u8 ((1 : Nat) : Int), .i .u8 ((0 : Nat) : Int), .i .u8 ((1 : Nat) : Int), .i .u8 ((0 : Nat) : Int), .i .u8 ((1 : Nat) : Int)] false))) := fun S key key2 => kn (l := [65, 77, 68, 49, 0, 1, 0, 2, 0, 1, 0, 1, 0, 1, 0, 1]) (deepL_one (deep_bytes0 (m := [65, 77, 68, 49, 0, 1, 0, 2, 0, 1, 0, 1, 0, 1, 0, 1]) (St.get_putk _ _ _))) (in_fsl _) (by decide)
  have tn5 : ∀ (S : St) (key key2 : Nat), callStep (runPure cfgL3 (evFn cfgL3 401) 21) false (S.put key (some (.cells [.i .u8 ((65 : Nat) : Int), .i .u8 ((77 : Nat) : Int), .i .u8 ((68 : Nat) : Int), .i .u8 ((49 : Nat) : Int), .i .u8 ((0 : Nat) : Int), .i .u8 ((1 : Nat) : Int), .i .u8 ((0 : Nat) : Int), .i .u8 ((0 : Nat) : Int), .i .u8 ((0 : Nat) : Int), .i .u8 ((1 : Nat) : Int), .i .u8 ((0 : Nat) : Int), .i .u8 ((1 : Nat) : Int), .i .u8 ((0 : Nat) : Int), .i .u8 ((1 : Nat) : Int), .i .u8 ((0 : Nat) : Int), .i .u8 ((1 : Nat) : Int)] false))) key2 [.rsl key 1 0 16] = some (.b true, S.put key (some (.cells [.i .u8 ((65 : Nat) : Int), .i .u8 ((77 : Nat) : Int), .i .u8 ((68 : Nat) : Int), .i .u8 ((49 : Nat) : Int), .i .u8 ((0 : Nat) : Int), .i .u8 ((1 : Nat) : Int), .i .u8 ((0 : Nat) : Int), .i .u8 ((0 : Nat) : Int), .i .u8 ((0 : Nat) : Int), .i .u8 ((1 : Nat) : Int), .i .u8 ((0 : Nat) : Int), .i .u8 ((1 : Nat) : Int), .i .u8 ((0 : Nat) : Int), .i .u8 ((1 : Nat) : Int), .i .u8 ((0 : Nat) : Int), .i .u8 ((1 : Nat) : Int)] false))) := fun S key key2 => kn (l := [65, 77, 68, 49, 0, 1, 0, 0, 0, 1, 0, 1, 0, 1, 0, 1]) (deepL_one (deep_bytes0 (m := [65, 77, 68, 49, 0, 1, 0, 0, 0, 1, 0, 1, 0, 1, 0, 1]) (St.get_putk _ _ _))) (in_fsl _) (by decide)
  have tn6 : ∀ (S : St) (key key2 : Nat), callStep (runPure cfgL3 (evFn cfgL3 401) 21) false (S.put key (some (.cells [.i .u8 ((65 : Nat) : Int), .i .u8 ((77 : Nat) : Int), .i .u8 ((68 : Nat) : Int), .i .u8 ((49 : Nat) : Int), .i .u8 ((0 : Nat) : Int), .i .u8 ((2 : Nat) : Int), .i .u8 ((0 : Nat) : Int), .i .u8 ((1 : Nat) : Int), .i .u8 ((0 : Nat) : Int), .i .u8 ((1 : Nat) : Int), .i .u8 ((0 : Nat) : Int), .i .u8 ((2 : Nat) : Int), .i .u8 ((0 : Nat) : Int), .i .u8 ((2 : Nat) : Int), .i .u8 ((0 : Nat) : Int), .i .u8 ((2 : Nat) : Int), .i .u8 ((0 : Nat) : Int), .i .u8 ((2 : Nat) : Int)] false))) key2 [.rsl key 1 0 18] = some (.b true, S.put key (some (.cells [.i .u8 ((65 : Nat) : Int), .i .u8 ((77 : Nat) : Int), .i .u8 ((68 : Nat) : Int), .i .u8 ((49 : Nat) : Int), .i .u8 ((0 : Nat) : Int), .i .u8 ((2 : Nat) : Int), .i .u8 ((0 : Nat) : Int), .i .u8 ((1 : Nat) : Int), .i .u8 ((0 : Nat) : Int), .i .u8 ((1 : Nat) : Int), .i .u8 ((0 : Nat) : Int), .i .u8 ((2 : Nat) : Int), .i .u8 ((0 : Nat) : Int), .i .u8 ((2 : Nat) : Int), .i .u8 ((0 : Nat) : Int), .i .u8 ((2 : Nat) : Int), .i .u8 ((0 : Nat) : Int), .i .u8 ((2 : Nat) : Int)] false))) := fun S key key2 => kn (l := [65, 77, 68, 49, 0, 2, 0, 1, 0, 1, 0, 2, 0, 2, 0, 2, 0, 2]) (deepL_one (deep_bytes0 (m := [65, 77, 68, 49, 0, 2, 0, 1, 0, 1, 0, 2, 0, 2, 0, 2, 0, 2]) (St.get_putk _ _ _))) (in_fsl _) (by decide)
  have tn7 : ∀ (S : St) (key key2 : Nat), callStep (runPure cfgL3 (evFn cfgL3 401) 21) false (S.put key (some (.cells [.i .u8 ((65 : Nat) : Int), .i .u8 ((77 : Nat) : Int), .i .u8 ((68 : Nat) : Int), .i .u8 ((49 : Nat) : Int), .i .u8 ((0 : Nat) : Int), .i .u8 ((1 : Nat) : Int), .i .u8 ((0 : Nat) : Int), .i .u8 ((1 : Nat) : Int), .i .u8 ((1 : Nat) : Int), .i .u8 ((1 : Nat) : Int), .i .u8 ((0 : Nat) : Int), .i .u8 ((1 : Nat) : Int), .i .u8 ((0 : Nat) : Int), .i .u8 ((1 : Nat) : Int), .i .u8 ((0 : Nat) : Int), .i .u8 ((1 : Nat) : Int)] false))) key2 [.rsl key 1 0 16] = some (.b true, S.put key (some (.cells [.i .u8 ((65 : Nat) : Int), .i .u8 ((77 : Nat) : Int), .i .u8 ((68 : Nat) : Int), .i .u8 ((49 : Nat) : Int), .i .u8 ((0 : Nat) : Int), .i .u8 ((1 : Nat) : Int), .i .u8 ((0 : Nat) : Int), .i .u8 ((1 : Nat) : Int), .i .u8 ((1 : Nat) : Int), .i .u8 ((1 : Nat) : Int), .i .u8 ((0 : Nat) : Int), .i .u8 ((1 : Nat) : Int), .i .u8 ((0 : Nat) : Int), .i .u8 ((1 : Nat) : Int), .i .u8 ((0 : Nat) : Int), .i .u8 ((1 : Nat) : Int)] false))) := fun S key key2 => kn (l := [65, 77, 68, 49, 0, 1, 0, 1, 1, 1, 0, 1, 0, 1, 0, 1]) (deepL_one (deep_bytes0 (m := [65, 77, 68, 49, 0, 1, 0, 1, 1, 1, 0, 1, 0, 1, 0, 1]) (St.get_putk _ _ _))) (in_fsl _) (by decide)
  have tn8 : ∀ (S : St) (key key2 : Nat), callStep (runPure cfgL3 (evFn cfgL3 401) 21) false (S.put key (some (.cells [.i .u8 ((65 : Nat) : Int), .i .u8 ((77 : Nat) : Int), .i .u8 ((68 : Nat) : Int), .i .u8 ((49 : Nat) : Int), .i .u8 ((0 : Nat) : Int), .i .u8 ((129 : Nat) : Int), .i .u8 ((128 : Nat) : Int), .i .u8 ((64 : Nat) : Int)] false))) key2 [.rsl key 1 0 8] = some (.b true, S.put key (some (.cells [.i .u8 ((65 : Nat) : Int), .i .u8 ((77 : Nat) : Int), .i .u8 ((68 : Nat) : Int), .i .u8 ((49 : Nat) : Int), .i .u8 ((0 : Nat) : Int), .i .u8 ((129 : Nat) : Int), .i .u8 ((128 : Nat) : Int), .i .u8 ((64 : Nat) : Int)] false))) := fun S key key2 => kn (l := [65, 77, 68, 49, 0, 129, 128, 64]) (deepL_one (deep_bytes0 (m := [65, 77, 68, 49, 0, 129, 128, 64]) (St.get_putk _ _ _))) (in_fsl _) (by decide)
  have tnn : ∀ (S : St) (key2 : Nat), callStep (runPure cfgL3 (evFn cfgL3 401) 21) false S key2 [.nsl] = some (.b true, S) := fun S key2 => kn (l := []) (deepL_one rfl) rfl (by decide)
  have zE : ∀ n, ∀ e ∈ List.replicate n Ev.zero, EvIn e := by
    intro n e he
    rw [List.eq_of_mem_replicate he]
    exact ⟨⟨by decide, by decide⟩, ⟨by decide, by decide⟩, ⟨by decide, by decide⟩, ⟨by decide, by decide⟩⟩
  have hee : ∀ x : Int, (x == x) = true := fun x => beq_self_eq_true x
  (try rw [Z0])
  (try simp (maxSteps := 2000000) (disch := first | omega | rfl | assumption) only [↓Xp, ↓Xt, Xq, Xc, binP, ofCells, Nat.reduceAdd, Nat.reduceMul, Nat.reduceLT, Nat.reduceEqDiff, reduceIte, Xa, Xn, unP, len_f, len_n, len_r, Xm, Nat.reduceLeDiff, List.nil_append, List.cons_append, g19])
  rw [evs_zeros5]
  refine ⟨by unfold maxBytes; omega, ?_⟩
  obtain ⟨F0, hF0⟩ : ∃ F, List.replicate 1048577 Ev.zero = F := ⟨_, rfl⟩
  have lF0 : F0.length = 1048577 := by rw [← hF0, List.length_replicate]
  rw [hF0]
  clear hF0
  have o0 : Own ((⟨sto, c + 56⟩ : St).put c (some (.cells (evsC F0) false))) 5 (.rsl c 5 0 1048577) 1048577 (evsC F0) := .inr ⟨c, rfl, St.get_putk _ _ _, by rw [evsC_len, lF0], by show c < c + 56; omega⟩
  obtain ⟨S0, hS0⟩ : ∃ S, (⟨sto, c + 56⟩ : St).put c (some (.cells (evsC F0) false)) = S := ⟨_, rfl⟩
  have cS0 : S0.cnt = c + 56 := by rw [← hS0]; rfl
  rw [hS0] at o0 ⊢
  have t0 : ∀ key, callStep (runPure cfgL3 (evFn cfgL3 401) 19) false S0 key [.i .i64 ((0 : Nat) : Int), .rsl c 5 0 1048577] = some (.tup [.nsl, .i .i64 3], S0) := fun key => by
    have hd := o0.deepE (by omega)
    refine callStep_gen (r := .tup [.nsl, .i .i64 3]) (deepL_two rfl hd.1) ((gPk hd.2 (by omega) (by omega)).trans ?_) rfl
    unfold packV
    rw [if_neg (by rintro (h | h | rfl) <;> first | omega | simp at lF0), if_pos (by omega)]
  clear hS0 o0
  (try rw [Z0])
  (try simp (maxSteps := 2000000) (disch := first | omega | rfl | assumption) only [↓Xp, ↓Xt, Xq, Xc, binP, ofCells, Nat.reduceAdd, Nat.reduceMul, Nat.reduceLT, Nat.reduceEqDiff, reduceIte, Xa, Xn, unP, len_f, len_n, len_r, Xm, Nat.reduceLeDiff, List.nil_append, List.cons_append, cS0, t0])
  (try rw [Z0])
  (try simp (maxSteps := 2000000) (disch := first | omega | rfl | assumption) only [↓Xp, ↓Xt, Xq, Xc, binP, ofCells, Nat.reduceAdd, Nat.reduceMul, Nat.reduceLT, Nat.reduceEqDiff, reduceIte, Xa, Xn, unP, len_f, len_n, len_r, Xm, Nat.reduceLeDiff, List.nil_append, List.cons_append, cS0, t0])
  rw [evs_zeros5]
  refine ⟨by unfold maxBytes; omega, ?_⟩
  obtain ⟨F, hF⟩ : ∃ F, List.replicate 1048576 Ev.zero = F := ⟨_, rfl⟩
  have lF : F.length = 1048576 := by rw [← hF, List.length_replicate]
  have eF : ∀ e ∈ F, EvIn e := by rw [← hF]; exact zE _
  rw [hF]
  clear hF
  have o1 : Own ((⟨S0.sto, c + 112⟩ : St).put (c + 56) (some (.cells (evsC F) false))) 5 (.rsl (c + 56) 5 0 1048576) 1048576 (evsC F) := .inr ⟨c + 56, rfl, St.get_putk _ _ _, by rw [evsC_len, lF], by show c + 56 < c + 112; omega⟩
  have fP : packV ((4611686018427387904 : Nat) : Int) F = .tup ([] ++ PV.osl 1 (packB 4611686018427387904 F).length (ofBytes (packB 4611686018427387904 F)) :: [.i .i64 0]) := by
    unfold packV
    rw [if_neg (by rintro (h | h | rfl) <;> first | omega | simp at lF), if_neg (by omega)]; rfl
  have lP : (packB 4611686018427387904 F).length ≤ 28 + 100 * F.length := packB_len
  have rU : unpackV (packB 4611686018427387904 F) = .tup ([.i .i64 ((4611686018427387904 : Nat) : Int)] ++ PV.osl 5 F.length (evsC F) :: [.i .i64 0]) := by
    unfold unpackV
    rw [unpackR_B (by omega) (by omega) (by omega) eF]; rfl
  refine WV_callT (deepL_two rfl (o1.deepE (by omega)).1) ((gPk (o1.deepE (by omega)).2 (by omega) (by omega)).trans (congrArg some fP)) (OutV.osl _ _ _) rfl rfl (clO_bytes _) (by rw [len_ofBytes, Nat.mul_one]) (by first | omega | (simp only [Z0L_, Z0M_, Nat.add_assoc, Nat.reduceAdd]; omega) | (simp only; omega)) ?_
  intro w1 st1 o2 q1 c1 f1
  replace c1 : st1.cnt = c + 112 := c1
  (try rw [Z0])
  (try simp (maxSteps := 2000000) (disch := first | omega | rfl | assumption) only [↓Xp, ↓Xt, Xq, Xc, binP, ofCells, Nat.reduceAdd, Nat.reduceMul, Nat.reduceLT, Nat.reduceEqDiff, reduceIte, Xa, Xn, unP, len_f, len_n, len_r, Xm, Nat.reduceLeDiff, List.nil_append, List.cons_append, c1])
  (try rw [Z0])
  (try simp (maxSteps := 2000000) (disch := first | omega | rfl | assumption) only [↓Xp, ↓Xt, Xq, Xc, binP, ofCells, Nat.reduceAdd, Nat.reduceMul, Nat.reduceLT, Nat.reduceEqDiff, reduceIte, Xa, Xn, unP, len_f, len_n, len_r, Xm, Nat.reduceLeDiff, List.nil_append, List.cons_append, c1])
  refine WV_callT (deepL_one (o2.cnt (by omega)).deepV) ((gUn o2.inV (by omega)).trans (congrArg some rU)) (OutV.osl _ _ _) rfl rfl (clO_evs _) (evsC_len _) (by first | omega | (simp only [Z0L_, Z0M_, Nat.add_assoc, Nat.reduceAdd]; omega) | (simp only; omega)) ?_
  intro w2 st2 o3 q2 c2 f2
  (try simp only [Z0L_] at c2)
  rw [lF] at o3
  have l3 := o3.len
  clear gPk gUn fP rU o1 o2 o3 f1 f2 zE ku kn
  (repeat (first | rw [Z0] | simp (maxSteps := 2000000) (disch := first | omega | rfl | assumption) only [↓Xp, ↓Xt, Xq, Xc, binP, ofCells, Nat.reduceAdd, Nat.reduceMul, Nat.reduceLT, Nat.reduceEqDiff, reduceIte, Xa, Xn, unP, len_f, len_n, len_r, Xm, Nat.reduceLeDiff, List.nil_append, List.cons_append, c1, c2, l3, hee, aw, g19, g21, g23, tu0, tu1, tn0, tn1, tn2, tn3, tn4, tn5, tn6, tn7, tn8, tnn]))
  · refine ⟨nofun, _, rfl, ?_⟩
    simp only [tupV, ↓Z0, ↓Xp, ↓Xt, Xq, Xc, binP, ofCells, Nat.reduceAdd, Nat.reduceMul, Nat.reduceLT, Nat.reduceEqDiff, reduceIte]
end Go.Pe
