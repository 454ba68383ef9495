/-
  Events: all calls of the laws, told by contracts, at the seat. No condition.
-/
import Derived.Test.YtadblicfhhllgaaEvtI
import Derived.Test.YtadblicfhhllgaaEvtC
set_option linter.unusedVariables false
namespace Go.Pe
open Go Go.Am Go.RowKit

def extK7 : FuncId → Option (List PV → Option PV) := fun f => if f = 14 then some gFrame else if f = 15 then some gRead else if f = 10 then some gPut else if f = 11 then some gGetE else if f = 24 then some gPick else if f = 23 then some gSameE else if f = 12 then some gSame else if f = 18 then some gCopyB else if f = 19 then some gCopyE else if f = 17 then some gAwake else none
noncomputable def cfgK7 : Cfg := { fn := fun f => lookT f tblL, ext := extK7 }
theorem cfgK7_ok {Gl : Gmap} : CfgOK Go.Proofs.Try.prog Gl cfgK7 := by
  refine cfg_okt tbl_all ?_
  intro f g h
  unfold extK7 at h
  split at h
  · rename_i e; simp only [Option.some.injEq] at h; subst h; subst e
    exact pure_of cfgK6_ok frame_any
  split at h
  · rename_i e; simp only [Option.some.injEq] at h; subst h; subst e
    exact pure_of cfgK5_ok read_any
  split at h
  · rename_i e; simp only [Option.some.injEq] at h; subst h; subst e
    exact pure_of cfgE2_ok put_any
  split at h
  · rename_i e; simp only [Option.some.injEq] at h; subst h; subst e
    exact pure_of cfgK3_ok get_any
  split at h
  · rename_i e; simp only [Option.some.injEq] at h; subst h; subst e
    exact pure_of cfgE0_ok pick_any
  split at h
  · rename_i e; simp only [Option.some.injEq] at h; subst h; subst e
    exact pure_of cfgE0_ok samee_any
  split at h
  · rename_i e; simp only [Option.some.injEq] at h; subst h; subst e
    exact pure_of cfgE0_ok same_any
  split at h
  · rename_i e; simp only [Option.some.injEq] at h; subst h; subst e
    exact pure_of cfgE0_ok copyb_any
  split at h
  · rename_i e; simp only [Option.some.injEq] at h; subst h; subst e
    exact pure_of cfgE0_ok copye_any
  split at h
  · rename_i e; simp only [Option.some.injEq] at h; subst h; subst e
    exact pure_of cfgE3_ok eawake_any
  · simp at h
section
variable {callE : CallE}
theorem hx7_fr : cfgK7.ext 14 = some gFrame := by kernel_rfl
theorem hx7_re : cfgK7.ext 15 = some gRead := by kernel_rfl
theorem hx7_pu : cfgK7.ext 10 = some gPut := by kernel_rfl
theorem hx7_ge : cfgK7.ext 11 = some gGetE := by kernel_rfl
theorem hx7_pi : cfgK7.ext 24 = some gPick := by kernel_rfl
theorem hx7_se : cfgK7.ext 23 = some gSameE := by kernel_rfl
theorem hx7_sb : cfgK7.ext 12 = some gSame := by kernel_rfl
theorem hx7_cb : cfgK7.ext 18 = some gCopyB := by kernel_rfl
theorem hx7_ce : cfgK7.ext 19 = some gCopyE := by kernel_rfl
theorem hx7_aw : cfgK7.ext 17 = some gAwake := by kernel_rfl
/-! ### The calls, as steps -/
theorem k_awake (st : St) (key : Nat) : callStep (runPure cfgK7 callE 17) false st key [] = some (.b true, st) :=
  callStep_flat rfl (by rw [runPure_ext hx7_aw]; rfl) rfl
theorem in_arg {l : List UInt8} : inL (.fsl l.length (ofBytes l)) = some l := in_fsl l
theorem closed_frame (F : List UInt8) (k : IntKind) (e : Int) : PV.closedB (.tup [.osl 1 F.length (ofBytes F), .i k e]) = true := by
  show PV.closed (11 + 1) _ = true
  unfold PV.closed
  simp only [List.all_cons, List.all_nil, Bool.and_true]
  have h1 : PV.closed 11 (.osl 1 F.length (ofBytes F)) = true := by
    show PV.closed (10 + 1) _ = true
    unfold PV.closed
    exact closed_ofBytes 9 F
  rw [h1]; rfl
theorem closed_read (L : List Ev) (k k' : IntKind) (a e : Int) : PV.closedB (.tup [.osl 5 L.length (evsC L), .i k a, .i k' e]) = true := by
  show PV.closed (11 + 1) _ = true
  unfold PV.closed
  simp only [List.all_cons, List.all_nil, Bool.and_true]
  have h1 : PV.closed 11 (.osl 5 L.length (evsC L)) = true := by
    show PV.closed (10 + 1) _ = true
    unfold PV.closed
    exact closed_evs 9 L
  rw [h1]; rfl
/-- Frame of events: bytes of one's own -/
theorem k_frame {st : St} {key : Nat} {w : PV} {l : List Ev} (hd : deepL st [w] = some [.fsl l.length (evsC l)]) (h0 : l ≠ []) (h1 : l.length ≤ 4096) :
    callStep (runPure cfgK7 callE 14) false st key [w] = some (.tup [.rsl key 1 0 (frameL l).length, .i .i64 0], st.put key (some (.cells (ofBytes (frameL l)) false))) := by
  have hg : runPure cfgK7 callE 14 [.fsl l.length (evsC l)] = some (.tup [.osl 1 (frameL l).length (ofBytes (frameL l)), .i .i64 0]) := by
    rw [runPure_ext hx7_fr]
    unfold gFrame
    simp only [evsOf_evsC]
    rw [if_pos ⟨trivial, by omega⟩]
    unfold frameV
    rw [if_neg h0, if_neg (by omega)]
  exact callStep_gen hd hg (closed_frame _ _ _)
/-- Read of bytes: events of one's own, or an error -/
theorem k_read_ok {st : St} {key : Nat} {w v : PV} {b : List UInt8} {at0 : Int} (hd : deepL st [w, .i .i64 at0] = some [v, .i .i64 at0]) (hv : inL v = some b) (hb : b.length ≤ 140737488355328) {l : List Ev} {m : Int} (h : readL b at0 = .inl (l, m)) :
    callStep (runPure cfgK7 callE 15) false st key [w, .i .i64 at0] = some (.tup [.rsl key 5 0 l.length, .i .i64 m, .i .i64 0], st.put key (some (.cells (evsC l) false))) := by
  have hg : runPure cfgK7 callE 15 [v, .i .i64 at0] = some (.tup [.osl 5 l.length (evsC l), .i .i64 m, .i .i64 0]) := by
    rw [runPure_ext hx7_re]
    unfold gRead
    simp only [hv]
    rw [if_pos hb]
    unfold readV
    rw [h]
  exact callStep_gen hd hg (closed_read _ _ _ _ _)
theorem k_read_no {st : St} {key : Nat} {w v : PV} {b : List UInt8} {at0 : Int} (hd : deepL st [w, .i .i64 at0] = some [v, .i .i64 at0]) (hv : inL v = some b) (hb : b.length ≤ 140737488355328) {e : Int} (h : readL b at0 = .inr e) :
    callStep (runPure cfgK7 callE 15) false st key [w, .i .i64 at0] = some (.tup [.nsl, .i .i64 0, .i .i64 e], st) := by
  have hg : runPure cfgK7 callE 15 [v, .i .i64 at0] = some (.tup [.nsl, .i .i64 0, .i .i64 e]) := by
    rw [runPure_ext hx7_re]
    unfold gRead
    simp only [hv]
    rw [if_pos hb]
    unfold readV
    rw [h]
  exact callStep_gen hd hg rfl
theorem k_pick {st : St} {key : Nat} {x n : Int} (hx : in64 x) (hn : 0 ≤ n ∧ n ≤ 4611686018427387904) : callStep (runPure cfgK7 callE 24) false st key [.i .i64 x, .i .i64 n] = some (.i .i64 (pickI x n), st) := by
  refine callStep_flat rfl ?_ rfl
  rw [runPure_ext hx7_pi]
  unfold in64 at hx
  unfold gPick
  simp only []
  rw [if_pos ⟨hx.1, by omega, hn.1, hn.2⟩]
theorem k_samee {st : St} {key : Nat} {w1 w2 v1 v2 : PV} {a b : List Ev} (hd : deepL st [w1, w2] = some [v1, v2]) (h1 : inEl v1 = some a) (h2 : inEl v2 = some b) (hl : a.length ≤ 140737488355328) : callStep (runPure cfgK7 callE 23) false st key [w1, w2] = some (.b (decide (a = b)), st) := by
  refine call_deepb hd ?_ rfl rfl
  rw [runPure_ext hx7_se]
  unfold gSameE
  simp only [h1, h2]
  rw [if_pos hl]
theorem k_sameb {st : St} {key : Nat} {w1 w2 v1 v2 : PV} {a b : List UInt8} (hd : deepL st [w1, w2] = some [v1, v2]) (h1 : inL v1 = some a) (h2 : inL v2 = some b) : callStep (runPure cfgK7 callE 12) false st key [w1, w2] = some (.b (a == b), st) := by
  refine call_deepb hd ?_ rfl rfl
  rw [runPure_ext hx7_sb]
  unfold gSame
  simp only [h1, h2]
theorem k_copyb {st : St} {key : Nat} {w v : PV} {b : List UInt8} (hd : deepL st [w] = some [v]) (hv : inL v = some b) (hb : b.length ≤ maxBytes) : callStep (runPure cfgK7 callE 18) false st key [w] = some (.rsl key 1 0 b.length, st.put key (some (.cells (ofBytes b) false))) := by
  refine callStep_gen hd (r := .osl 1 b.length (ofBytes b)) ?_ (closed_osl _ _)
  rw [runPure_ext hx7_cb]
  unfold gCopyB
  simp only [hv]
  rw [if_pos hb]
theorem k_frame_nil {st : St} {key : Nat} {w : PV} (hd : deepL st [w] = some [.fsl 0 []]) : callStep (runPure cfgK7 callE 14) false st key [w] = some (.tup [.nsl, .i .i64 2], st) := by
  have hg : runPure cfgK7 callE 14 [.fsl 0 []] = some (.tup [.nsl, .i .i64 2]) := by
    rw [runPure_ext hx7_fr]
    rfl
  exact callStep_gen hd hg rfl
theorem put_g (v : PV) {L : List UInt8} (hv : outL v = some L) (X E : Ev) (h : L.length + 60 ≤ maxBytes) : runPure cfgK7 callE 10 [v, .agg (evC X), .agg (evC E)] = some (.osl 1 (putE L X E).length (ofBytes (putE L X E))) := by
  rw [runPure_ext hx7_pu]
  have h1 := E.O.toNat_lt
  have h2 : ((E.O.toNat : Int).toNat).toUInt8 = E.O := by
    rw [Int.toNat_natCast, Nat.toUInt8]
    exact UInt8.toNat_inj.1 (by rw [UInt8.toNat_ofNat']; omega)
  unfold gPut evC
  simp only [hv]
  rw [if_pos ⟨by omega, by omega, h⟩, h2]
  rfl
/-- an event laid out behind bytes of one's own -/
theorem k_put {st : St} {key k : Nat} {L : List UInt8} {X E : Ev} (hk : st.get k = some (.cells (ofBytes L) false)) (h : L.length + 60 ≤ maxBytes) :
    callStep (runPure cfgK7 callE 10) true st key [.rsl k 1 0 L.length, .agg (evC X), .agg (evC E)] = some (.rsl key 1 0 (putE L X E).length, (st.put k none).put key (some (.cells (ofBytes (putE L X E)) false))) := by
  refine call_own2 hk rfl rfl (put_g _ ?_ X E h)
  unfold outL
  simp only [bytesOf_of, if_true]
theorem k_get {st : St} {key : Nat} {w v : PV} {b : List UInt8} {a : Int} {X : Ev} (hd : deepL st [w, .i .i64 a, .agg (evC X)] = some [v, .i .i64 a, .agg (evC X)]) (hv : inL v = some b) (hb : b.length ≤ 140737488355328) :
    callStep (runPure cfgK7 callE 11) false st key [w, .i .i64 a, .agg (evC X)] = some (.tup [.agg (evC (getE b a X).1), .i .i64 (getE b a X).2.1, .i .i64 (getE b a X).2.2], st) := by
  refine call_deepb hd ?_ rfl rfl
  rw [runPure_ext hx7_ge]
  unfold gGetE evC
  simp only [hv]
  rw [if_pos hb, getV_eq]
  rfl
/-! ### What objects read as -/
theorem deep_b {st : St} {k : Nat} {fz : Bool} {m : List UInt8} (hk : st.get k = some (.cells (ofBytes m) fz)) : deep st 12 (.rsl k 1 0 m.length) = some (.fsl m.length (ofBytes m)) := deep_bytes0 hk
theorem deepO_evs (st : St) (f : Nat) (l : List Ev) : mapO (deep st (f + 1)) (evsC l) = some (evsC l) := by
  induction l with
  | nil => rfl
  | cons e r ih =>
    have h : evsC (e :: r) = evC e ++ evsC r := rfl
    have d : ∀ (k : IntKind) (n : Int), deep st (f + 1) (.i k n) = some (.i k n) := fun k n => by unfold deep; rfl
    rw [h]
    unfold evC
    simp only [List.cons_append, List.nil_append, mapO, d, ih]
theorem deep_e {st : St} {k : Nat} {fz : Bool} {m : List Ev} (hk : st.get k = some (.cells (evsC m) fz)) : deep st 12 (.rsl k 5 0 m.length) = some (.fsl m.length (evsC m)) := by
  show deep st (11 + 1) _ = _
  unfold deep
  simp only [hk, cut?, evsC_len]
  rw [if_pos (by omega)]
  simp only [List.drop_zero]
  rw [show m.length * 5 = (evsC m).length from (evsC_len m).symm, List.take_length, deepO_evs]
  rfl
theorem deep_1 {st : St} {w v : PV} (h : deep st 12 w = some v) : deepL st [w] = some [v] := by
  show mapO (deep st 12) _ = _
  simp only [mapO, h]
theorem deep_2 {st : St} {w v w' v' : PV} (h : deep st 12 w = some v) (h' : deep st 12 w' = some v') : deepL st [w, w'] = some [v, v'] := by
  show mapO (deep st 12) _ = _
  simp only [mapO, h, h']
theorem deep_3 {st : St} {w v w' v' w2 v2 : PV} (h : deep st 12 w = some v) (h' : deep st 12 w' = some v') (h2 : deep st 12 w2 = some v2) : deepL st [w, w', w2] = some [v, v', v2] := by
  show mapO (deep st 12) _ = _
  simp only [mapO, h, h', h2]
theorem deep_i (st : St) (k : IntKind) (n : Int) : deep st 12 (.i k n) = some (.i k n) := rfl
theorem deep_fsl (st : St) (n : Nat) (cs : List PV) : deep st 12 (.fsl n cs) = some (.fsl n cs) := rfl
theorem deep_nsl (st : St) : deep st 12 .nsl = some .nsl := rfl
theorem deep_evc (st : St) (x : Ev) : deep st 12 (.agg (evC x)) = some (.agg (evC x)) := rfl
end
end Go.Pe
