/-
  Segments: the calls of the laws, as steps. No condition.
-/
import Derived.Test.YtogdkhejfkbnmaaSegG
import Derived.Test.YtogdkhejfkbnmaaSegI
set_option linter.unusedVariables false
set_option linter.unusedSimpArgs false
namespace Go.Pe
open Go Go.Am Go.RowKit

section
variable {callE : CallE} {cfg : Cfg}
theorem s_awake (hcfg : cfg.ext = extS4) (st : St) (key : Nat) : callStep (runPure cfg callE 22) false st key [] = some (.b true, st) :=
  callStep_flat rfl (by rw [runPure_ext ((congrFun hcfg _).trans hxS4_gAwakeS)]; rfl) rfl
theorem s_head_no (hcfg : cfg.ext = extS4) {n : Int} (h : n < 0 ∨ 4611686018427387904 < n) (st : St) (key : Nat) : callStep (runPure cfg callE 11) false st key [.i .i64 n] = some (.tup [.nsl, .i .i64 2], st) := by
  refine callStep_gen (r := .tup [.nsl, .i .i64 2]) (deepL_flat rfl) ?_ rfl
  rw [runPure_ext ((congrFun hcfg _).trans hxS4_gHeadM)]
  show some (headV n) = _
  unfold headV
  rw [if_pos h]
theorem s_head (hcfg : cfg.ext = extS4) {n : Nat} (h : n ≤ 4611686018427387904) : runPure cfg callE 11 [.i .i64 (n : Int)] = some (.tup ([] ++ PV.osl 1 (headB n).length (ofBytes (headB n)) :: [.i .i64 0])) := by
  rw [runPure_ext ((congrFun hcfg _).trans hxS4_gHeadM)]
  show some (headV n) = _
  unfold headV
  rw [if_neg (by omega), Int.toNat_natCast]; rfl
theorem s_packV (hcfg : cfg.ext = extS4) {n : Int} {v : PV} {l : List Ev} (hv : inEl v = some l) (hl : l.length ≤ 140737488355327) (hn : in64 n) : runPure cfg callE 19 [.i .i64 n, v] = some (packV n l) := by
  rw [runPure_ext ((congrFun hcfg _).trans hxS4_gPackS)]
  unfold in64 at hn
  unfold gPackS
  simp only [hv]
  rw [if_pos ⟨hl, by omega, by omega⟩]
theorem s_pack_no (hcfg : cfg.ext = extS4) {n : Int} {v w : PV} {l : List Ev} (hn : in64 n) {st : St} (key : Nat) (hd : deepL st [.i .i64 n, w] = some [.i .i64 n, v]) (hv : inEl v = some l) (hl : l.length ≤ 140737488355327) (h : n < 0 ∨ 4611686018427387904 < n ∨ l = []) : callStep (runPure cfg callE 19) false st key [.i .i64 n, w] = some (.tup [.nsl, .i .i64 2], st) := by
  refine callStep_gen (r := .tup [.nsl, .i .i64 2]) hd ?_ rfl
  rw [s_packV hcfg hv hl hn]
  unfold packV
  rw [if_pos h]
theorem s_pack (hcfg : cfg.ext = extS4) {n : Nat} {v : PV} {l : List Ev} (hv : inEl v = some l) (hl0 : l ≠ []) (hl : l.length ≤ 1048576) (h : n ≤ 4611686018427387904) : runPure cfg callE 19 [.i .i64 (n : Int), v] = some (.tup ([] ++ PV.osl 1 (packB n l).length (ofBytes (packB n l)) :: [.i .i64 0])) := by
  rw [s_packV hcfg hv (by omega) ⟨by omega, by omega⟩]
  unfold packV
  rw [if_neg (by rintro (h | h | h) <;> first | omega | exact hl0 h), if_neg (by omega), Int.toNat_natCast]; rfl
theorem s_unpackV (hcfg : cfg.ext = extS4) {v : PV} {b : List UInt8} (hv : inL v = some b) (hb : b.length ≤ 140737488355000) : runPure cfg callE 20 [v] = some (unpackV b) := by
  rw [runPure_ext ((congrFun hcfg _).trans hxS4_gUnpackS)]
  unfold gUnpackS
  simp only [hv]
  rw [if_pos hb]
theorem s_unpack_ok (hcfg : cfg.ext = extS4) {v : PV} {b : List UInt8} (hv : inL v = some b) (hb : b.length ≤ 140737488355000) {n : Nat} {L : List Ev} (h : unpackR b = .inl (n, L)) : runPure cfg callE 20 [v] = some (.tup ([.i .i64 (n : Int)] ++ PV.osl 5 L.length (evsC L) :: [.i .i64 0])) := by
  rw [s_unpackV hcfg hv hb]
  unfold unpackV
  rw [h]; rfl
theorem s_unpack_no (hcfg : cfg.ext = extS4) {v w : PV} {b : List UInt8} {st : St} (key : Nat) (hd : deepL st [w] = some [v]) (hv : inL v = some b) (hb : b.length ≤ 140737488355000) {e : Int} (h : unpackR b = .inr e) : callStep (runPure cfg callE 20) false st key [w] = some (.tup [.i .i64 0, .nsl, .i .i64 e], st) := by
  refine callStep_gen (r := .tup [.i .i64 0, .nsl, .i .i64 e]) hd ?_ rfl
  rw [s_unpackV hcfg hv hb]
  unfold unpackV
  rw [h]
theorem s_scanV (hcfg : cfg.ext = extS4) {v : PV} {b : List UInt8} (hv : inL v = some b) (hb : b.length ≤ 1000000000000) : runPure cfg callE 15 [v] = some (scanV b) := by
  rw [runPure_ext ((congrFun hcfg _).trans hxS4_gScanS)]
  unfold gScanS
  simp only [hv]
  rw [if_pos hb]
theorem s_scan_ok (hcfg : cfg.ext = extS4) {v : PV} {b : List UInt8} (hv : inL v = some b) (hb : b.length ≤ 1000000000000) {n : Nat} {L : List Ev} {a : Int} (h : scanR b = .inl (n, L, a)) : runPure cfg callE 15 [v] = some (.tup ([.i .i64 (n : Int)] ++ evsO L :: [.i .i64 a, .i .i64 0])) := by
  rw [s_scanV hcfg hv hb]
  unfold scanV
  rw [h]; rfl
theorem OutV.evsO (L : List Ev) : OutV (evsO L) 5 L.length (evsC L) := by
  unfold Go.Pe.evsO
  split
  · rename_i h; subst h; exact OutV.nil _
  · exact OutV.osl _ _ _
theorem s_samee (hcfg : cfg.ext = extS4) {v w : PV} {a b : List Ev} (hv : inEl v = some a) (hw : inEl w = some b) (hl : a.length ≤ 140737488355328) : runPure cfg callE 29 [v, w] = some (.b (decide (a = b))) := by
  rw [runPure_ext ((congrFun hcfg _).trans hxS4_gSameE)]
  unfold gSameE
  simp only [hv, hw]
  rw [if_pos hl]
theorem k4_samee (hcfg : cfg.ext = extS4) {st : St} {key : Nat} {w1 w2 v1 v2 : PV} {a b : List Ev} (hd : deepL st [w1, w2] = some [v1, v2]) (h1 : inEl v1 = some a) (h2 : inEl v2 = some b) (hl : a.length ≤ 140737488355328) : callStep (runPure cfg callE 29) false st key [w1, w2] = some (.b (decide (a = b)), st) :=
  call_deepb hd (s_samee hcfg h1 h2 hl) rfl rfl
theorem k4_sameb (hcfg : cfg.ext = extS4) {st : St} {key : Nat} {w1 w2 v1 v2 : PV} {a b : List UInt8} (hd : deepL st [w1, w2] = some [v1, v2]) (h1 : inL v1 = some a) (h2 : inL v2 = some b) : callStep (runPure cfg callE 28) false st key [w1, w2] = some (.b (a == b), st) := by
  refine call_deepb hd ?_ rfl rfl
  rw [runPure_ext ((congrFun hcfg _).trans hxS4_gSame)]
  unfold gSame
  simp only [h1, h2]
theorem k4_pick (hcfg : cfg.ext = extS4) {st : St} {key : Nat} {x n : Int} (hx : in64 x) (hn : 0 ≤ n ∧ n ≤ 4611686018427387904) : callStep (runPure cfg callE 30) false st key [.i .i64 x, .i .i64 n] = some (.i .i64 (pickI x n), st) := by
  refine callStep_flat rfl ?_ rfl
  rw [runPure_ext ((congrFun hcfg _).trans hxS4_gPick)]
  unfold in64 at hx
  unfold gPick
  simp only []
  rw [if_pos ⟨hx.1, by omega, hn.1, hn.2⟩]
theorem s_copyb (hcfg : cfg.ext = extS4) {v : PV} {b : List UInt8} (hv : inL v = some b) (hb : b.length ≤ maxBytes) : runPure cfg callE 13 [v] = some (.osl 1 b.length (ofBytes b)) := by
  rw [runPure_ext ((congrFun hcfg _).trans hxS4_gCopyB)]
  unfold gCopyB
  simp only [hv]
  rw [if_pos hb]
theorem s_seal (hcfg : cfg.ext = extS4) {v : PV} {b : List UInt8} (hv : inL v = some b) (hb : b.length + 4 ≤ 140737488355328) : runPure cfg callE 31 [v] = some (.osl 1 (sealB b).length (ofBytes (sealB b))) := by
  rw [runPure_ext ((congrFun hcfg _).trans hxS4_gSeal)]
  unfold gSeal
  simp only [hv]
  rw [if_pos hb]
theorem s_frame (hcfg : cfg.ext = extS4) {l : List Ev} (h0 : l ≠ []) (h1 : l.length ≤ 4096) : runPure cfg callE 32 [.fsl l.length (evsC l)] = some (.tup ([] ++ PV.osl 1 (frameL l).length (ofBytes (frameL l)) :: [.i .i64 0])) := by
  rw [runPure_ext ((congrFun hcfg _).trans hxS4_gFrame)]
  unfold gFrame
  simp only [evsOf_evsC]
  rw [if_pos ⟨trivial, by omega⟩]
  unfold frameV
  rw [if_neg h0, if_neg (by omega)]
  rfl
end
def valE (v : PV) (L : List Ev) : PV := valO v L.length (evsC L)
theorem Own.deepE {st : St} {n : Nat} {v : PV} {L : List Ev} (h : Own st 5 v n (evsC L)) (hn : n = L.length) : Go.Pe.deep st 12 v = some (valE v L) ∧ inEl (valE v L) = some L := by
  subst hn
  refine ⟨h.deepO (ev_flatC L), ?_⟩
  rcases h with ⟨rfl, h1, h2⟩ | ⟨k, rfl, _⟩
  · have : L = [] := List.length_eq_zero_iff.1 h1
    subst this; rfl
  · exact inEl_fsl L
theorem deep_ev0 {st : St} {v : PV} {l : List Ev} (h : inEl v = some l) : Go.Pe.deep st 12 v = some v := by
  cases v <;> first | rfl | simp [inEl] at h
theorem deep_by0 {st : St} {v : PV} {l : List UInt8} (h : inL v = some l) : Go.Pe.deep st 12 v = some v := by
  cases v <;> first | rfl | simp [inL] at h
theorem packB_len {n : Nat} {l : List Ev} : (packB n l).length ≤ 28 + 100 * l.length := by
  unfold packB
  rw [sealB_len, denseB_split]
  have h1 := varint_le n
  have h2 := varint_le l.length
  have h3 := colsF_len l 0
  simp only [List.length_append, amd1_len]
  omega
theorem headB_len {n : Nat} : (headB n).length ≤ 18 := by
  unfold headB
  rw [sealB_len, List.length_append]
  have := varint_le n
  show 4 + _ + 4 ≤ 18
  omega
theorem scan_head {n : Nat} (h : n ≤ 4611686018427387904) : scanR (headB n) = .inl (n, [], (headB n).length) := by
  have hh := headR_B h []
  rw [List.append_nil] at hh
  unfold scanR
  rw [hh]
  simp only []
  rw [if_neg (by simp)]
  unfold framesL
  have hr : readL (headB n) ((headB n).length : Nat) = .inr 11 := by
    have hg : getU (headB n) ((headB n).length : Nat) = (0, 0, 11) := by
      unfold getU
      rw [if_neg (by omega)]
      simp only [Int.toNat_natCast, List.drop_length]
      rfl
    unfold readL
    simp only [hg]
    rfl
  rw [hr]
end Go.Pe
