/-
  Pages: turns by the interpreter of plain data. No condition.
-/
import Derived.Test.YtmjoneiagfegdaaBytH
set_option linter.unusedVariables false
set_option linter.unusedSimpArgs false
namespace Go.Pe
open Go Go.Am Go.RowKit

def gLike : List PV → Option PV
  | [.agg [.i .u8 k, .i .u64 n, vx], .agg [.i .u8 k', .i .u64 n', vy]] => match inL vx, inL vy with
    | some a, some b => if 0 ≤ k ∧ k < 256 ∧ k = k' ∧ 0 ≤ n ∧ 0 ≤ n' then some (.b (likeE ⟨UInt8.ofNat k.toNat, n.toNat, a⟩ ⟨UInt8.ofNat k.toNat, n'.toNat, b⟩)) else none
    | _, _ => none
  | _ => none
theorem open_like {k n k' n' : Int} {vx vy : PV} {a b : List UInt8} (hx : inL vx = some a) (hy : inL vy = some b) : openArgs [.agg [.i .u8 k, .i .u64 n, vx], .agg [.i .u8 k', .i .u64 n', vy]] = ([.agg [.i .u8 k, .i .u64 n, vx], .agg [.i .u8 k', .i .u64 n', vy]], { sto := .leaf, cnt := 1 }) := by
  cases vx <;> first | (simp [inL] at hx; done) | (cases vy <;> first | rfl | simp [inL] at hy)
theorem like_any (args : List PV) (r : PV) (h : gLike args = some r) : ∃ fuel, evP cfgE0 fuel 33 args = some r := by
  unfold gLike at h
  split at h
  · rename_i k n vx k' n' vy
    split at h
    · rename_i a b ha hb
      split at h
      · rename_i hc
        obtain ⟨c1, c2, rfl, c4, c5⟩ := hc
        cases h
        refine ⟨0 + 1, ev_flat rfl (open_like ha hb) (fun _ => rfl) ?_⟩
        have h := likeE_ev (cfg := cfgE0) (by kernel_rfl) (fuel := 0) (st := { sto := .leaf, cnt := 1 }) (x := ⟨UInt8.ofNat k.toNat, n.toNat, a⟩) (y := ⟨UInt8.ofNat k.toNat, n'.toNat, b⟩) rfl ha hb
        have e1 : (((UInt8.ofNat k.toNat).toNat : Nat) : Int) = k := by rw [UInt8.toNat_ofNat']; omega
        have e2 : ((n.toNat : Nat) : Int) = n := by omega
        have e3 : ((n'.toNat : Nat) : Int) = n' := by omega
        simp only [e1, e2, e3] at h
        exact h
      · cases h
    · cases h
  · cases h
theorem ofNat_toNat8 (c : UInt8) : UInt8.ofNat c.toNat = c := UInt8.toNat_inj.1 (by rw [UInt8.toNat_ofNat']; have := c.toNat_lt; omega)
theorem like_g {cfg : Cfg} {callE : CallE} (hx : cfg.ext 33 = some gLike) {x y : En} {vx vy : PV} (hk : x.K = y.K) (h1 : inL vx = some x.B) (h2 : inL vy = some y.B) : runPure cfg callE 33 [.agg [.i .u8 (x.K.toNat : Int), .i .u64 (x.N : Int), vx], .agg [.i .u8 (x.K.toNat : Int), .i .u64 (y.N : Int), vy]] = some (.b (likeE x y)) := by
  rw [runPure_ext hx]
  unfold gLike
  simp only [h1, h2]
  have hu := x.K.toNat_lt
  rw [if_pos ⟨by omega, by omega, trivial, by omega, by omega⟩]
  simp only [Int.toNat_natCast, ofNat_toNat8]
  simp only [hk]
  rw [show (⟨y.K, x.N, x.B⟩ : En) = x by rw [← hk]]
theorem page_at {l : List En} {i : Nat} (hi : i < l.length) : (pageL l).drop (pageL (l.take i)).length = item (l.getD i .none) ++ pageL (l.drop (i + 1)) := by
  have h1 : pageL l = pageL (l.take i) ++ pageL (l.drop i) := by
    unfold pageL
    rw [← List.flatMap_append, List.take_append_drop]
  rw [h1, List.drop_left, List.drop_eq_getElem_cons hi, getD_lt hi]
  rfl
theorem page_take_le (l : List En) (i : Nat) : (pageL (l.take i)).length ≤ (pageL l).length := by
  have h1 : pageL l = pageL (l.take i) ++ pageL (l.drop i) := by
    unfold pageL
    rw [← List.flatMap_append, List.take_append_drop]
  rw [h1, List.length_append]; omega
theorem page_snoc {l : List En} {i : Nat} (hi : i < l.length) : pageL (l.take (i + 1)) = pageL (l.take i) ++ item (l.getD i .none) := by
  rw [List.take_succ_eq_append_getElem hi, getD_lt hi]
  unfold pageL
  rw [List.flatMap_append]
  simp
theorem getI_put {xs rest : List UInt8} {a : Nat} {n : Int} (h : xs.drop a = varint (foldN n) ++ rest) (ha : a ≤ xs.length) (hn : in64 n) : getI xs a = (n, (a : Int) + (varint (foldN n)).length, 0) := by
  unfold getI
  rw [getU_varint h ha (foldN_lt hn)]
  simp only [if_true, openI_foldN]
theorem blobR_put {xs B rest : List UInt8} {a : Nat} (h : xs.drop a = varint B.length ++ (B ++ rest)) (ha : a ≤ xs.length) (hB : B.length ≤ 1000) : blobR xs a 1024 = .inl (B, (a : Int) + (varint B.length).length + B.length) := by
  have hl := congrArg List.length h
  simp only [List.length_drop, List.length_append] at hl
  unfold blobR
  rw [getU_varint h ha (by omega)]
  simp only []
  rw [if_neg (by simp), if_neg (by omega), if_neg (by omega)]
  have h2 : xs.drop (a + (varint B.length).length) = B ++ rest := by
    rw [← List.drop_drop, h, List.drop_left]
  rw [show ((a : Int) + (varint B.length).length).toNat = a + (varint B.length).length by omega, h2, List.take_left]
theorem pageL_25 {l : List En} (hE : ∀ e ∈ l, EnIn e) (hl : l.length ≤ 25) : (pageL l).length ≤ 25250 := by
  have := pageL_len hE
  omega
theorem WC_gen {cfg : Cfg} {callE : CallE} {n : Nat} {m : MCode} {x : Now} {Q : MExit → Now → Prop} (R : Now → Prop) (h : R x) (k : ∀ x, R x → WC cfg callE n m x Q) : WC cfg callE n m x Q := k x h
theorem wrap_iu {n : Nat} (h : n < 18446744073709551616) : IntKind.u64.wrap (IntKind.i64.wrap (n : Int)) = (n : Int) := by
  simp only [IntKind.wrap_i64, IntKind.wrap_u64]
  omega
theorem deep_agg3 {st : St} {k : Nat} {fz : Bool} {b : List UInt8} {k1 k2 : IntKind} {m n : Int} (hk : st.get k = some (.cells (ofBytes b) fz)) : Go.Pe.deep st 12 (.agg [.i k1 m, .i k2 n, .rsl k 1 0 b.length]) = some (.agg [.i k1 m, .i k2 n, .fsl b.length (ofBytes b)]) := by
  show (mapO (Go.Pe.deep st 11) [.i k1 m, .i k2 n, .rsl k 1 0 b.length]).map PV.agg = _
  simp only [mapO, deep_bytesF 9 hk]
  rfl
def gTurns : List PV → Option PV
  | [v] => match inEn v with
    | some l => if l.length ≤ 25 then some (.b true) else none
    | none => none
  | _ => none
def extP2 : FuncId → Option (List PV → Option PV) := fun f => if f = 35 then some gPage else if f = 33 then some gLike else if f = 12 then some gGetU else if f = 13 then some gGetI else if f = 22 then some gGetBlob else if f = 18 then some gUnseal else if f = 17 then some gSeal else none
noncomputable def cfgP2 : Cfg := { fn := fun f => lookT f tblL, ext := extP2 }
theorem extP2_ok {Gl : Gmap} : ∀ f g, extP2 f = some g → PureOK Go.Proofs.Try.prog Gl f g := by
  intro f g h
  unfold extP2 at h
  by_cases e : f = 35
  · subst e; rw [if_pos rfl] at h; cases h
    exact pure_of cfgP1_ok page_any
  rw [if_neg e] at h; clear e
  by_cases e : f = 33
  · subst e; rw [if_pos rfl] at h; cases h
    exact pure_of cfgE0_ok' like_any
  rw [if_neg e] at h; clear e
  by_cases e : f = 12
  · subst e; rw [if_pos rfl] at h; cases h
    exact pure_of cfgK1_ok getu_any
  rw [if_neg e] at h; clear e
  by_cases e : f = 13
  · subst e; rw [if_pos rfl] at h; cases h
    exact pure_of cfgK2_ok geti_any
  rw [if_neg e] at h; clear e
  by_cases e : f = 22
  · subst e; rw [if_pos rfl] at h; cases h
    exact pure_of cfgB2_ok getblob_any
  rw [if_neg e] at h; clear e
  by_cases e : f = 18
  · subst e; rw [if_pos rfl] at h; cases h
    exact pure_of cfgK3_ok unseal_any
  rw [if_neg e] at h; clear e
  by_cases e : f = 17
  · subst e; rw [if_pos rfl] at h; cases h
    exact pure_of cfgK2_ok seal_any
  rw [if_neg e] at h; clear e
  cases h
theorem cfgP2_ok {Gl : Gmap} : CfgOK Go.Proofs.Try.prog Gl cfgP2 := cfg_okt tbl_all extP2_ok
theorem hxP2_gPage : extP2 35 = some gPage := by kernel_rfl
theorem hxP2_gLike : extP2 33 = some gLike := by kernel_rfl
theorem hxP2_gGetU : extP2 12 = some gGetU := by kernel_rfl
theorem hxP2_gGetI : extP2 13 = some gGetI := by kernel_rfl
theorem hxP2_gGetBlob : extP2 22 = some gGetBlob := by kernel_rfl
theorem hxP2_gUnseal : extP2 18 = some gUnseal := by kernel_rfl
theorem hxP2_gSeal : extP2 17 = some gSeal := by kernel_rfl

set_option maxRecDepth 100000 in
theorem turns0 : fvP cfgP2 60 34 [.nsl] = some (.b true) := by kernel_rfl
set_option maxRecDepth 100000 in
theorem turns1 : fvP cfgP2 60 34 [.fsl 0 []] = some (.b true) := by kernel_rfl
set_option maxHeartbeats 4000000 in
theorem turns_ev {l : List En} (hE : ∀ e ∈ l, EnIn e) (hl : l.length ≤ 25) (hn : l ≠ []) : ∃ fuel, evP cfgP2 fuel 34 [.fsl l.length (ensC l)] = some (.b true) := by
  refine ⟨60 + 1, ev_flat rfl rfl (fun _ => rfl) (evFn_W (by kernel_rfl : cfgP2.fn 34 = some m34) ?_)⟩
  unfold m34
  obtain ⟨p, hp⟩ : ∃ p, pageL l = p := ⟨_, rfl⟩
  have hp0 : p ≠ [] := fun e => hn (pageL_nil.1 (hp.trans e))
  have hpl : p.length ≤ 25250 := hp ▸ pageL_25 hE hl
  have gP : runPure cfgP2 (evFn cfgP2 60) 35 [.fsl l.length (ensC l)] = some (.osl 1 p.length (ofBytes p)) := by
    rw [runPure_ext (show cfgP2.ext 35 = some gPage from hxP2_gPage)]
    unfold gPage
    simp only [inEn_fsl hE]
    rw [if_pos hl]
    unfold pageV
    rw [if_neg hn, hp]
  have gS : ∀ {v : PV} {b : List UInt8}, inL v = some b → b.length + 4 ≤ 140737488355328 → runPure cfgP2 (evFn cfgP2 60) 17 [v] = some (.osl 1 (sealB b).length (ofBytes (sealB b))) := fun {v b} hv hb => by
    rw [runPure_ext (show cfgP2.ext 17 = some gSeal from hxP2_gSeal)]
    unfold gSeal
    simp only [hv]
    rw [if_pos hb]
  have lS : (sealB p).length = p.length + 4 := by unfold sealB be4; simp
  have gU : ∀ {v : PV}, inL v = some (sealB p) → runPure cfgP2 (evFn cfgP2 60) 18 [v] = some (.tup ([] ++ PV.osl 1 p.length (ofBytes p) :: [.i .i64 0])) := fun {v} hv => by
    rw [runPure_ext (show cfgP2.ext 18 = some gUnseal from hxP2_gUnseal)]
    unfold gUnseal
    simp only [hv]
    rw [if_pos (by omega)]
    unfold unsealV
    have : (sealB p).take ((sealB p).length - 4) = p := by
      rw [lS, show p.length + 4 - 4 = p.length by omega]
      unfold sealB
      exact List.take_left
    rw [if_neg (by omega), this, if_pos (show sealB p = sealB p from rfl)]
    unfold outV
    rw [if_neg hp0]; rfl
  have hlen : lenP (.fsl l.length (ensC l)) = some (.i .i64 (l.length : Nat)) := rfl
  (repeat (first | rw [Z0] | simp (maxSteps := 2000000) (disch := first | omega | rfl | assumption) only [↓Xp, ↓Xt, Xq, Xc, binP, ofCells, Nat.reduceAdd, Nat.reduceMul, Nat.reduceLT, Nat.reduceEqDiff, reduceIte, Xa, Xn, unP, len_f, len_n, len_r, Xm, Nat.reduceLeDiff, List.nil_append, List.cons_append, putArgs]))
  refine WV_callB (deepL_one (deep_some 11 rfl)) gP (by first | omega | (simp only [Z0L_, Z0M_, Nat.add_assoc, Nat.reduceAdd]; omega) | (simp only; omega)) ?_
  intro st1 o1 _ c1 f1
  (try simp only [Z0M_] at c1)
  (try rw [Z0])
  (try simp (maxSteps := 2000000) (disch := first | omega | rfl | assumption) only [↓Xp, ↓Xt, Xq, Xc, binP, ofCells, Nat.reduceAdd, Nat.reduceMul, Nat.reduceLT, Nat.reduceEqDiff, reduceIte, Xa, Xn, unP, len_f, len_n, len_r, Xm, Nat.reduceLeDiff, List.nil_append, List.cons_append])
  refine WV_callB (deepL_one o1.deepV) (gS o1.inV (by omega)) (by first | omega | (simp only [Z0L_, Z0M_, Nat.add_assoc, Nat.reduceAdd]; omega) | (simp only; omega)) ?_
  intro st2 o2 _ c2 f2
  (try rw [Z0])
  (try simp (maxSteps := 2000000) (disch := first | omega | rfl | assumption) only [↓Xp, ↓Xt, Xq, Xc, binP, ofCells, Nat.reduceAdd, Nat.reduceMul, Nat.reduceLT, Nat.reduceEqDiff, reduceIte, Xa, Xn, unP, len_f, len_n, len_r, Xm, Nat.reduceLeDiff, List.nil_append, List.cons_append])
  refine WV_callT (deepL_one o2.deepV) (gU o2.inV) (OutV.osl _ _ _) rfl rfl (clO_bytes _) (by rw [len_ofBytes, Nat.mul_one]) (by first | omega | (simp only [Z0L_, Z0M_, Nat.add_assoc, Nat.reduceAdd]; omega) | (simp only; omega)) ?_
  intro w3 st3 o3 q3 c3 f3
  (try rw [Z0])
  (try simp (maxSteps := 2000000) (disch := first | omega | rfl | assumption) only [↓Xp, ↓Xt, Xq, Xc, binP, ofCells, Nat.reduceAdd, Nat.reduceMul, Nat.reduceLT, Nat.reduceEqDiff, reduceIte, Xa, Xn, unP, len_f, len_n, len_r, Xm, Nat.reduceLeDiff, List.nil_append, List.cons_append])
  (try rw [Z0])
  (try simp (maxSteps := 2000000) (disch := first | omega | rfl | assumption) only [↓Xp, ↓Xt, Xq, Xc, binP, ofCells, Nat.reduceAdd, Nat.reduceMul, Nat.reduceLT, Nat.reduceEqDiff, reduceIte, Xa, Xn, unP, len_f, len_n, len_r, Xm, Nat.reduceLeDiff, List.nil_append, List.cons_append])
  refine Za (fun x => x.env.get 3 = w3 ∧ x.env.get 4 = .i .i64 0 ∧ x.env.get 5 = .i .i64 (p.length : Int) ∧ Own x.st 1 w3 p.length (ofBytes p)) ?_ ?_
  · rw [Z0]
    simp (disch := first | omega | rfl | assumption) only [↓Xp, ↓Xt, Xq, Xc, binP, ofCells, Nat.reduceAdd, Nat.reduceMul, Nat.reduceLT, Nat.reduceEqDiff, reduceIte, Xa, Xn, unP, len_f, len_n, len_r, Xm, Nat.reduceLeDiff]
    refine Z9 (k := l.length - 0) (fun d x => ∃ (i : Nat), d = l.length - i ∧ i ≤ l.length ∧ x.env.get 3 = w3 ∧ x.env.get 4 = .i .i64 0 ∧ x.env.get 5 = .i .i64 ((pageL (l.take i)).length : Int) ∧ x.env.get 18 = .fsl l.length (ensC l) ∧ x.env.get 19 = .i .i64 (l.length : Int) ∧ x.env.get 20 = .i .i64 (i : Int) ∧ Own x.st 1 w3 p.length (ofBytes p)) ?_ ?_ (by omega)
    · rintro d ⟨env, ⟨sto, c⟩⟩ ⟨i, rfl, hi, g3, g4, g5, g18, g19, g20, oo⟩
      simp only at g3 g4 g5 g18 g19 g20
      by_cases hlt : i < l.length
      · obtain ⟨e, he⟩ : ∃ e, l.getD i .none = e := ⟨_, rfl⟩
        have hld : ∀ st, loadP st 3 (.fptr ((ensC l).drop (i * 3))) = some [.i .u8 (e.K.toNat : Int), .i .u64 (e.N : Int), .fsl e.B.length (ofBytes e.B)] := fun st => by rw [load_en hlt, he]; rfl
        have hel : e ∈ l := by
          rw [← he, getD_lt hlt]; exact List.getElem_mem _
        have hee := hE e hel
        have hsz := ensC_len l
        have hu := e.K.toNat_lt
        have hat := page_at hlt
        rw [he, hp] at hat
        have hle := page_take_le l i
        rw [hp] at hle
        have hsn := page_snoc hlt
        rw [he] at hsn
        obtain ⟨a, ha⟩ : ∃ a, (pageL (l.take i)).length = a := ⟨_, rfl⟩
        rw [ha] at hat hle g5
        have hsl : (pageL (l.take (i + 1))).length = a + (item e).length := by rw [hsn, List.length_append, ha]
        (try rw [Z0])
        (try simp (maxSteps := 2000000) (disch := first | omega | rfl | assumption) only [↓Xp, ↓Xt, Xq, Xc, binP, ofCells, Nat.reduceAdd, Nat.reduceMul, Nat.reduceLT, Nat.reduceEqDiff, reduceIte, Xa, Xn, unP, len_f, len_n, len_r, Xm, Nat.reduceLeDiff, List.nil_append, List.cons_append, g3, g4, g5, g18, g19, g20, hld, hsz, h30])
        (try rw [Z0])
        (try simp (maxSteps := 2000000) (disch := first | omega | rfl | assumption) only [↓Xp, ↓Xt, Xq, Xc, binP, ofCells, Nat.reduceAdd, Nat.reduceMul, Nat.reduceLT, Nat.reduceEqDiff, reduceIte, Xa, Xn, unP, len_f, len_n, len_r, Xm, Nat.reduceLeDiff, List.nil_append, List.cons_append, g3, g4, g5, g18, g19, g20, hld, hsz, h30])
        (try rw [Z0])
        (try simp (maxSteps := 2000000) (disch := first | omega | rfl | assumption) only [↓Xp, ↓Xt, Xq, Xc, binP, ofCells, Nat.reduceAdd, Nat.reduceMul, Nat.reduceLT, Nat.reduceEqDiff, reduceIte, Xa, Xn, unP, len_f, len_n, len_r, Xm, Nat.reduceLeDiff, List.nil_append, List.cons_append, g3, g4, g5, g18, g19, g20, hld, hsz, h30])
        (try rw [Z0])
        (try simp (maxSteps := 2000000) (disch := first | omega | rfl | assumption) only [↓Xp, ↓Xt, Xq, Xc, binP, ofCells, Nat.reduceAdd, Nat.reduceMul, Nat.reduceLT, Nat.reduceEqDiff, reduceIte, Xa, Xn, unP, len_f, len_n, len_r, Xm, Nat.reduceLeDiff, List.nil_append, List.cons_append, g3, g4, g5, g18, g19, g20, hld, hsz, h30])
        (try rw [Z0])
        (try simp (maxSteps := 2000000) (disch := first | omega | rfl | assumption) only [↓Xp, ↓Xt, Xq, Xc, binP, ofCells, Nat.reduceAdd, Nat.reduceMul, Nat.reduceLT, Nat.reduceEqDiff, reduceIte, Xa, Xn, unP, len_f, len_n, len_r, Xm, Nat.reduceLeDiff, List.nil_append, List.cons_append, g3, g4, g5, g18, g19, g20, hld, hsz, h30])
        (try rw [Z0])
        (try simp (maxSteps := 2000000) (disch := first | omega | rfl | assumption) only [↓Xp, ↓Xt, Xq, Xc, binP, ofCells, Nat.reduceAdd, Nat.reduceMul, Nat.reduceLT, Nat.reduceEqDiff, reduceIte, Xa, Xn, unP, len_f, len_n, len_r, Xm, Nat.reduceLeDiff, List.nil_append, List.cons_append, g3, g4, g5, g18, g19, g20, hld, hsz, h30])
        (try rw [Z0])
        (try simp (maxSteps := 2000000) (disch := first | omega | rfl | assumption) only [↓Xp, ↓Xt, Xq, Xc, binP, ofCells, Nat.reduceAdd, Nat.reduceMul, Nat.reduceLT, Nat.reduceEqDiff, reduceIte, Xa, Xn, unP, len_f, len_n, len_r, Xm, Nat.reduceLeDiff, List.nil_append, List.cons_append, g3, g4, g5, g18, g19, g20, hld, hsz, h30])
        refine WC_gen (fun x => x.env.get 3 = w3 ∧ x.env.get 4 = .i .i64 0 ∧ x.env.get 5 = .i .i64 (a : Int) ∧ x.env.get 7 = .ptr (c + 24) 0 ∧ x.env.get 8 = .ptr (c + 64) 0 ∧ x.env.get 18 = .fsl l.length (ensC l) ∧ x.env.get 19 = .i .i64 (l.length : Int) ∧ x.env.get 20 = .i .i64 (i : Int) ∧ x.st.get (c + 24) = some (.cells [.i .u8 (e.K.toNat : Int), .i .u64 (e.N : Int), .fsl e.B.length (ofBytes e.B)] false) ∧ x.st.get (c + 64) = some (.cells [.i .u8 (e.K.toNat : Int), .i .u64 ((0 : Nat) : Int), .nsl] false) ∧ Own x.st 1 w3 p.length (ofBytes p) ∧ (∀ j, j ∈ keyOf w3 → j < c) ∧ c + 72 ≤ x.st.cnt) ?_ ?_
        · simp (disch := first | omega | rfl | assumption) only [Env.get_put, Nat.reduceEqDiff, reduceIte, g3, g4, g5, g18, g19, g20, Z0J_, Z0H_, Z0I_, true_and]
          refine ⟨oo.move (by show c ≤ c + 96; omega) (fun j hj hlt => ?_), fun j hj => oo.lt j hj, by omega⟩
          have hlt : j < c := hlt
          simp (disch := first | omega | rfl | assumption) only [Z0J_, Z0I_]
          rfl
        rintro ⟨env, ⟨sto, c'⟩⟩ ⟨g3, g4, g5, g7, g8, g18, g19, g20, kx, ky, oo, ok, hc⟩
        simp only at g3 g4 g5 g7 g8 g18 g19 g20 hc
        replace kx : ∀ n, St.get ⟨sto, n⟩ (c + 24) = _ := fun _ => kx
        replace ky : ∀ n, St.get ⟨sto, n⟩ (c + 64) = _ := fun _ => ky
        have hxl : cfgP2.ext 33 = some gLike := hxP2_gLike
        have ooP : ∀ (n : Nat) (o : Option PObj), c' ≤ n → Own ((⟨sto, n⟩ : St).put (c + 64) o) 1 w3 p.length (ofBytes p) := fun n o hn => (oo.cnt hn).put (fun h => by have := ok _ h; omega)
        by_cases k0 : e.K.toNat % 3 = 0
        · have hi0 : item e = varint e.N := by unfold item; rw [if_pos k0]
          rw [hi0] at hat hsl
          have lk := like_g (cfg := cfgP2) (callE := evFn cfgP2 60) hxl (x := e) (y := ⟨e.K, e.N, []⟩) rfl (in_fsl e.B) (show inL .nsl = some [] from rfl)
          have lt : likeE e ⟨e.K, e.N, []⟩ = true := by unfold likeE; rw [if_neg (by omega)]; simp
          rw [lt] at lk
          have gG : ∀ {v : PV}, inL v = some p → runPure cfgP2 (evFn cfgP2 60) 12 [v, .i .i64 (a : Int)] = some (.tup [.i .u64 (e.N : Int), .i .i64 ((a : Int) + ((varint e.N).length : Int)), .i .i64 0]) := fun {v} hv => by
            rw [runPure_ext (show cfgP2.ext 12 = some gGetU from hxP2_gGetU)]
            unfold gGetU
            simp only [hv]
            rw [if_pos (by omega), getU_varint hat hle hee.1]; rfl
          (try rw [Z0])
          (try simp (maxSteps := 2000000) (disch := first | omega | rfl | assumption) only [↓Xp, ↓Xt, Xq, Xc, binP, ofCells, Nat.reduceAdd, Nat.reduceMul, Nat.reduceLT, Nat.reduceEqDiff, reduceIte, Xa, Xn, unP, len_f, len_n, len_r, Xm, Nat.reduceLeDiff, List.nil_append, List.cons_append, g3, g4, g5, g7, g8, g18, g19, g20, kx, ky, h30])
          (try rw [Z0])
          (try simp (maxSteps := 2000000) (disch := first | omega | rfl | assumption) only [↓Xp, ↓Xt, Xq, Xc, binP, ofCells, Nat.reduceAdd, Nat.reduceMul, Nat.reduceLT, Nat.reduceEqDiff, reduceIte, Xa, Xn, unP, len_f, len_n, len_r, Xm, Nat.reduceLeDiff, List.nil_append, List.cons_append, g3, g4, g5, g7, g8, g18, g19, g20, kx, ky, h30])
          (try rw [Z0])
          (try simp (maxSteps := 2000000) (disch := first | omega | rfl | assumption) only [↓Xp, ↓Xt, Xq, Xc, binP, ofCells, Nat.reduceAdd, Nat.reduceMul, Nat.reduceLT, Nat.reduceEqDiff, reduceIte, Xa, Xn, unP, len_f, len_n, len_r, Xm, Nat.reduceLeDiff, List.nil_append, List.cons_append, g3, g4, g5, g7, g8, g18, g19, g20, kx, ky, h30])
          (try rw [Z0])
          (try simp (maxSteps := 2000000) (disch := first | omega | rfl | assumption) only [↓Xp, ↓Xt, Xq, Xc, binP, ofCells, Nat.reduceAdd, Nat.reduceMul, Nat.reduceLT, Nat.reduceEqDiff, reduceIte, Xa, Xn, unP, len_f, len_n, len_r, Xm, Nat.reduceLeDiff, List.nil_append, List.cons_append, g3, g4, g5, g7, g8, g18, g19, g20, kx, ky, h30])
          (try rw [Z0])
          (try simp (maxSteps := 2000000) (disch := first | omega | rfl | assumption) only [↓Xp, ↓Xt, Xq, Xc, binP, ofCells, Nat.reduceAdd, Nat.reduceMul, Nat.reduceLT, Nat.reduceEqDiff, reduceIte, Xa, Xn, unP, len_f, len_n, len_r, Xm, Nat.reduceLeDiff, List.nil_append, List.cons_append, g3, g4, g5, g7, g8, g18, g19, g20, kx, ky, h30])
          refine WV_callF (deepL_two (oo.cnt (by omega)).deepV rfl) (gG oo.inV) rfl rfl ?_
          (try rw [Z0])
          (try simp (maxSteps := 2000000) (disch := first | omega | rfl | assumption) only [↓Xp, ↓Xt, Xq, Xc, binP, ofCells, Nat.reduceAdd, Nat.reduceMul, Nat.reduceLT, Nat.reduceEqDiff, reduceIte, Xa, Xn, unP, len_f, len_n, len_r, Xm, Nat.reduceLeDiff, List.nil_append, List.cons_append, g3, g4, g5, g7, g8, g18, g19, g20, kx, ky, h30])
          (try rw [Z0])
          (try simp (maxSteps := 2000000) (disch := first | omega | rfl | assumption) only [↓Xp, ↓Xt, Xq, Xc, binP, ofCells, Nat.reduceAdd, Nat.reduceMul, Nat.reduceLT, Nat.reduceEqDiff, reduceIte, Xa, Xn, unP, len_f, len_n, len_r, Xm, Nat.reduceLeDiff, List.nil_append, List.cons_append, g3, g4, g5, g7, g8, g18, g19, g20, kx, ky, h30])
          refine WV_callF (deepL_two rfl rfl) lk rfl rfl ?_
          (try rw [Z0])
          (try simp (maxSteps := 2000000) (disch := first | omega | rfl | assumption) only [↓Xp, ↓Xt, Xq, Xc, binP, ofCells, Nat.reduceAdd, Nat.reduceMul, Nat.reduceLT, Nat.reduceEqDiff, reduceIte, Xa, Xn, unP, len_f, len_n, len_r, Xm, Nat.reduceLeDiff, List.nil_append, List.cons_append, g3, g4, g5, g7, g8, g18, g19, g20, Bool.not_true])
          (try rw [Z0])
          (try simp (maxSteps := 2000000) (disch := first | omega | rfl | assumption) only [↓Xp, ↓Xt, Xq, Xc, binP, ofCells, Nat.reduceAdd, Nat.reduceMul, Nat.reduceLT, Nat.reduceEqDiff, reduceIte, Xa, Xn, unP, len_f, len_n, len_r, Xm, Nat.reduceLeDiff, List.nil_append, List.cons_append, g3, g4, g5, g7, g8, g18, g19, g20, Bool.not_true])
          (try rw [Z0])
          (try simp (maxSteps := 2000000) (disch := first | omega | rfl | assumption) only [↓Xp, ↓Xt, Xq, Xc, binP, ofCells, Nat.reduceAdd, Nat.reduceMul, Nat.reduceLT, Nat.reduceEqDiff, reduceIte, Xa, Xn, unP, len_f, len_n, len_r, Xm, Nat.reduceLeDiff, List.nil_append, List.cons_append, g3, g4, g5, g7, g8, g18, g19, g20, Bool.not_true])
          refine ⟨l.length - (i + 1), by omega, i + 1, rfl, by omega, by rw [hsl], rfl, ?_⟩
          exact (ooP _ _ (by omega)).cnt (by simp only [Z0L_]; omega)
        by_cases k1 : e.K.toNat % 3 = 1
        · obtain ⟨q, hq⟩ : ∃ q, IntKind.i64.wrap (e.N : Int) = q := ⟨_, rfl⟩
          have hi0 : item e = varint (foldN q) := by unfold item; rw [if_neg k0, if_pos k1, hq]
          have hqi : in64 q := hq ▸ wrapN_in e.N
          have hwq : IntKind.u64.wrap q = (e.N : Int) := hq ▸ wrap_iu hee.1
          rw [hi0] at hat hsl
          have lk := like_g (cfg := cfgP2) (callE := evFn cfgP2 60) hxl (x := e) (y := ⟨e.K, e.N, []⟩) rfl (in_fsl e.B) (show inL .nsl = some [] from rfl)
          have lt : likeE e ⟨e.K, e.N, []⟩ = true := by unfold likeE; rw [if_neg (by omega)]; simp
          rw [lt] at lk
          have gG : ∀ {v : PV}, inL v = some p → runPure cfgP2 (evFn cfgP2 60) 13 [v, .i .i64 (a : Int)] = some (.tup [.i .i64 q, .i .i64 ((a : Int) + ((varint (foldN q)).length : Int)), .i .i64 0]) := fun {v} hv => by
            rw [runPure_ext (show cfgP2.ext 13 = some gGetI from hxP2_gGetI)]
            unfold gGetI
            simp only [hv]
            rw [if_pos (by omega), getI_put hat hle hqi]; rfl
          (try rw [Z0])
          (try simp (maxSteps := 2000000) (disch := first | omega | rfl | assumption) only [↓Xp, ↓Xt, Xq, Xc, binP, ofCells, Nat.reduceAdd, Nat.reduceMul, Nat.reduceLT, Nat.reduceEqDiff, reduceIte, Xa, Xn, unP, len_f, len_n, len_r, Xm, Nat.reduceLeDiff, List.nil_append, List.cons_append, g3, g4, g5, g7, g8, g18, g19, g20, kx, ky, h30])
          (try rw [Z0])
          (try simp (maxSteps := 2000000) (disch := first | omega | rfl | assumption) only [↓Xp, ↓Xt, Xq, Xc, binP, ofCells, Nat.reduceAdd, Nat.reduceMul, Nat.reduceLT, Nat.reduceEqDiff, reduceIte, Xa, Xn, unP, len_f, len_n, len_r, Xm, Nat.reduceLeDiff, List.nil_append, List.cons_append, g3, g4, g5, g7, g8, g18, g19, g20, kx, ky, h30])
          (try rw [Z0])
          (try simp (maxSteps := 2000000) (disch := first | omega | rfl | assumption) only [↓Xp, ↓Xt, Xq, Xc, binP, ofCells, Nat.reduceAdd, Nat.reduceMul, Nat.reduceLT, Nat.reduceEqDiff, reduceIte, Xa, Xn, unP, len_f, len_n, len_r, Xm, Nat.reduceLeDiff, List.nil_append, List.cons_append, g3, g4, g5, g7, g8, g18, g19, g20, kx, ky, h30])
          (try rw [Z0])
          (try simp (maxSteps := 2000000) (disch := first | omega | rfl | assumption) only [↓Xp, ↓Xt, Xq, Xc, binP, ofCells, Nat.reduceAdd, Nat.reduceMul, Nat.reduceLT, Nat.reduceEqDiff, reduceIte, Xa, Xn, unP, len_f, len_n, len_r, Xm, Nat.reduceLeDiff, List.nil_append, List.cons_append, g3, g4, g5, g7, g8, g18, g19, g20, kx, ky, h30])
          (try rw [Z0])
          (try simp (maxSteps := 2000000) (disch := first | omega | rfl | assumption) only [↓Xp, ↓Xt, Xq, Xc, binP, ofCells, Nat.reduceAdd, Nat.reduceMul, Nat.reduceLT, Nat.reduceEqDiff, reduceIte, Xa, Xn, unP, len_f, len_n, len_r, Xm, Nat.reduceLeDiff, List.nil_append, List.cons_append, g3, g4, g5, g7, g8, g18, g19, g20, kx, ky, h30])
          (try rw [Z0])
          (try simp (maxSteps := 2000000) (disch := first | omega | rfl | assumption) only [↓Xp, ↓Xt, Xq, Xc, binP, ofCells, Nat.reduceAdd, Nat.reduceMul, Nat.reduceLT, Nat.reduceEqDiff, reduceIte, Xa, Xn, unP, len_f, len_n, len_r, Xm, Nat.reduceLeDiff, List.nil_append, List.cons_append, g3, g4, g5, g7, g8, g18, g19, g20, kx, ky, h30])
          (try rw [Z0])
          (try simp (maxSteps := 2000000) (disch := first | omega | rfl | assumption) only [↓Xp, ↓Xt, Xq, Xc, binP, ofCells, Nat.reduceAdd, Nat.reduceMul, Nat.reduceLT, Nat.reduceEqDiff, reduceIte, Xa, Xn, unP, len_f, len_n, len_r, Xm, Nat.reduceLeDiff, List.nil_append, List.cons_append, g3, g4, g5, g7, g8, g18, g19, g20, kx, ky, h30])
          refine WV_callF (deepL_two (oo.cnt (by omega)).deepV rfl) (gG oo.inV) rfl rfl ?_
          (try rw [Z0])
          (try simp (maxSteps := 2000000) (disch := first | omega | rfl | assumption) only [↓Xp, ↓Xt, Xq, Xc, binP, ofCells, Nat.reduceAdd, Nat.reduceMul, Nat.reduceLT, Nat.reduceEqDiff, reduceIte, Xa, Xn, unP, len_f, len_n, len_r, Xm, Nat.reduceLeDiff, List.nil_append, List.cons_append, g3, g4, g5, g7, g8, g18, g19, g20, kx, ky, h30, hwq])
          (try rw [Z0])
          (try simp (maxSteps := 2000000) (disch := first | omega | rfl | assumption) only [↓Xp, ↓Xt, Xq, Xc, binP, ofCells, Nat.reduceAdd, Nat.reduceMul, Nat.reduceLT, Nat.reduceEqDiff, reduceIte, Xa, Xn, unP, len_f, len_n, len_r, Xm, Nat.reduceLeDiff, List.nil_append, List.cons_append, g3, g4, g5, g7, g8, g18, g19, g20, kx, ky, h30, hwq])
          (try rw [Z0])
          (try simp (maxSteps := 2000000) (disch := first | omega | rfl | assumption) only [↓Xp, ↓Xt, Xq, Xc, binP, ofCells, Nat.reduceAdd, Nat.reduceMul, Nat.reduceLT, Nat.reduceEqDiff, reduceIte, Xa, Xn, unP, len_f, len_n, len_r, Xm, Nat.reduceLeDiff, List.nil_append, List.cons_append, g3, g4, g5, g7, g8, g18, g19, g20, kx, ky, h30, hwq])
          refine WV_callF (deepL_two rfl rfl) lk rfl rfl ?_
          (try rw [Z0])
          (try simp (maxSteps := 2000000) (disch := first | omega | rfl | assumption) only [↓Xp, ↓Xt, Xq, Xc, binP, ofCells, Nat.reduceAdd, Nat.reduceMul, Nat.reduceLT, Nat.reduceEqDiff, reduceIte, Xa, Xn, unP, len_f, len_n, len_r, Xm, Nat.reduceLeDiff, List.nil_append, List.cons_append, g3, g4, g5, g7, g8, g18, g19, g20, Bool.not_true])
          (try rw [Z0])
          (try simp (maxSteps := 2000000) (disch := first | omega | rfl | assumption) only [↓Xp, ↓Xt, Xq, Xc, binP, ofCells, Nat.reduceAdd, Nat.reduceMul, Nat.reduceLT, Nat.reduceEqDiff, reduceIte, Xa, Xn, unP, len_f, len_n, len_r, Xm, Nat.reduceLeDiff, List.nil_append, List.cons_append, g3, g4, g5, g7, g8, g18, g19, g20, Bool.not_true])
          (try rw [Z0])
          (try simp (maxSteps := 2000000) (disch := first | omega | rfl | assumption) only [↓Xp, ↓Xt, Xq, Xc, binP, ofCells, Nat.reduceAdd, Nat.reduceMul, Nat.reduceLT, Nat.reduceEqDiff, reduceIte, Xa, Xn, unP, len_f, len_n, len_r, Xm, Nat.reduceLeDiff, List.nil_append, List.cons_append, g3, g4, g5, g7, g8, g18, g19, g20, Bool.not_true])
          refine ⟨l.length - (i + 1), by omega, i + 1, rfl, by omega, by rw [hsl], rfl, ?_⟩
          exact (ooP _ _ (by omega)).cnt (by simp only [Z0L_]; omega)
        · have hi0 : item e = varint e.B.length ++ e.B := by unfold item; rw [if_neg k0, if_neg k1]
          rw [hi0] at hat hsl
          rw [List.append_assoc] at hat
          rw [List.length_append] at hsl
          have hbl := blobR_put hat hle hee.2
          by_cases hB : e.B = []
          · have lk := like_g (cfg := cfgP2) (callE := evFn cfgP2 60) hxl (x := e) (y := ⟨e.K, 0, e.B⟩) rfl (in_fsl e.B) (show inL (.fsl 0 []) = some e.B by rw [hB]; rfl)
            have lt : likeE e ⟨e.K, 0, e.B⟩ = true := by unfold likeE; rw [if_pos (by omega)]; simp
            rw [lt] at lk
            have gG : ∀ {v : PV}, inL v = some p → runPure cfgP2 (evFn cfgP2 60) 22 [v, .i .i64 (a : Int), .i .i64 1024] = some (.tup [.fsl 0 [], .i .i64 ((a : Int) + ((varint e.B.length).length : Int) + (e.B.length : Int)), .i .i64 0]) := fun {v} hv => by
              rw [runPure_ext (show cfgP2.ext 22 = some gGetBlob from hxP2_gGetBlob)]
              unfold gGetBlob
              simp only [hv]
              rw [if_pos ⟨by omega, by omega, by omega⟩]
              unfold blobV
              rw [hbl]
              simp only [outV, if_pos hB]
            (try rw [Z0])
            (try simp (maxSteps := 2000000) (disch := first | omega | rfl | assumption) only [↓Xp, ↓Xt, Xq, Xc, binP, ofCells, Nat.reduceAdd, Nat.reduceMul, Nat.reduceLT, Nat.reduceEqDiff, reduceIte, Xa, Xn, unP, len_f, len_n, len_r, Xm, Nat.reduceLeDiff, List.nil_append, List.cons_append, g3, g4, g5, g7, g8, g18, g19, g20, kx, ky, h30])
            (try rw [Z0])
            (try simp (maxSteps := 2000000) (disch := first | omega | rfl | assumption) only [↓Xp, ↓Xt, Xq, Xc, binP, ofCells, Nat.reduceAdd, Nat.reduceMul, Nat.reduceLT, Nat.reduceEqDiff, reduceIte, Xa, Xn, unP, len_f, len_n, len_r, Xm, Nat.reduceLeDiff, List.nil_append, List.cons_append, g3, g4, g5, g7, g8, g18, g19, g20, kx, ky, h30])
            (try rw [Z0])
            (try simp (maxSteps := 2000000) (disch := first | omega | rfl | assumption) only [↓Xp, ↓Xt, Xq, Xc, binP, ofCells, Nat.reduceAdd, Nat.reduceMul, Nat.reduceLT, Nat.reduceEqDiff, reduceIte, Xa, Xn, unP, len_f, len_n, len_r, Xm, Nat.reduceLeDiff, List.nil_append, List.cons_append, g3, g4, g5, g7, g8, g18, g19, g20, kx, ky, h30])
            (try rw [Z0])
            (try simp (maxSteps := 2000000) (disch := first | omega | rfl | assumption) only [↓Xp, ↓Xt, Xq, Xc, binP, ofCells, Nat.reduceAdd, Nat.reduceMul, Nat.reduceLT, Nat.reduceEqDiff, reduceIte, Xa, Xn, unP, len_f, len_n, len_r, Xm, Nat.reduceLeDiff, List.nil_append, List.cons_append, g3, g4, g5, g7, g8, g18, g19, g20, kx, ky, h30])
            (try rw [Z0])
            (try simp (maxSteps := 2000000) (disch := first | omega | rfl | assumption) only [↓Xp, ↓Xt, Xq, Xc, binP, ofCells, Nat.reduceAdd, Nat.reduceMul, Nat.reduceLT, Nat.reduceEqDiff, reduceIte, Xa, Xn, unP, len_f, len_n, len_r, Xm, Nat.reduceLeDiff, List.nil_append, List.cons_append, g3, g4, g5, g7, g8, g18, g19, g20, kx, ky, h30])
            (try rw [Z0])
            (try simp (maxSteps := 2000000) (disch := first | omega | rfl | assumption) only [↓Xp, ↓Xt, Xq, Xc, binP, ofCells, Nat.reduceAdd, Nat.reduceMul, Nat.reduceLT, Nat.reduceEqDiff, reduceIte, Xa, Xn, unP, len_f, len_n, len_r, Xm, Nat.reduceLeDiff, List.nil_append, List.cons_append, g3, g4, g5, g7, g8, g18, g19, g20, kx, ky, h30])
            (try rw [Z0])
            (try simp (maxSteps := 2000000) (disch := first | omega | rfl | assumption) only [↓Xp, ↓Xt, Xq, Xc, binP, ofCells, Nat.reduceAdd, Nat.reduceMul, Nat.reduceLT, Nat.reduceEqDiff, reduceIte, Xa, Xn, unP, len_f, len_n, len_r, Xm, Nat.reduceLeDiff, List.nil_append, List.cons_append, g3, g4, g5, g7, g8, g18, g19, g20, kx, ky, h30])
            refine WV_callF (deep_3 (oo.cnt (by omega)).deepV rfl rfl) (gG oo.inV) rfl rfl ?_
            (try rw [Z0])
            (try simp (maxSteps := 2000000) (disch := first | omega | rfl | assumption) only [↓Xp, ↓Xt, Xq, Xc, binP, ofCells, Nat.reduceAdd, Nat.reduceMul, Nat.reduceLT, Nat.reduceEqDiff, reduceIte, Xa, Xn, unP, len_f, len_n, len_r, Xm, Nat.reduceLeDiff, List.nil_append, List.cons_append, g3, g4, g5, g7, g8, g18, g19, g20, kx, ky, h30])
            (try rw [Z0])
            (try simp (maxSteps := 2000000) (disch := first | omega | rfl | assumption) only [↓Xp, ↓Xt, Xq, Xc, binP, ofCells, Nat.reduceAdd, Nat.reduceMul, Nat.reduceLT, Nat.reduceEqDiff, reduceIte, Xa, Xn, unP, len_f, len_n, len_r, Xm, Nat.reduceLeDiff, List.nil_append, List.cons_append, g3, g4, g5, g7, g8, g18, g19, g20, kx, ky, h30])
            refine WV_callF (deepL_two rfl rfl) lk rfl rfl ?_
            (try rw [Z0])
            (try simp (maxSteps := 2000000) (disch := first | omega | rfl | assumption) only [↓Xp, ↓Xt, Xq, Xc, binP, ofCells, Nat.reduceAdd, Nat.reduceMul, Nat.reduceLT, Nat.reduceEqDiff, reduceIte, Xa, Xn, unP, len_f, len_n, len_r, Xm, Nat.reduceLeDiff, List.nil_append, List.cons_append, g3, g4, g5, g7, g8, g18, g19, g20, Bool.not_true])
            (try rw [Z0])
            (try simp (maxSteps := 2000000) (disch := first | omega | rfl | assumption) only [↓Xp, ↓Xt, Xq, Xc, binP, ofCells, Nat.reduceAdd, Nat.reduceMul, Nat.reduceLT, Nat.reduceEqDiff, reduceIte, Xa, Xn, unP, len_f, len_n, len_r, Xm, Nat.reduceLeDiff, List.nil_append, List.cons_append, g3, g4, g5, g7, g8, g18, g19, g20, Bool.not_true])
            (try rw [Z0])
            (try simp (maxSteps := 2000000) (disch := first | omega | rfl | assumption) only [↓Xp, ↓Xt, Xq, Xc, binP, ofCells, Nat.reduceAdd, Nat.reduceMul, Nat.reduceLT, Nat.reduceEqDiff, reduceIte, Xa, Xn, unP, len_f, len_n, len_r, Xm, Nat.reduceLeDiff, List.nil_append, List.cons_append, g3, g4, g5, g7, g8, g18, g19, g20, Bool.not_true])
            refine ⟨l.length - (i + 1), by omega, i + 1, rfl, by omega, by rw [hsl], rfl, ?_⟩
            exact (ooP _ _ (by omega)).cnt (by simp only [Z0L_]; omega)
          · have lk := like_g (cfg := cfgP2) (callE := evFn cfgP2 60) hxl (x := e) (y := ⟨e.K, 0, e.B⟩) rfl (in_fsl e.B) (in_fsl e.B)
            have lt : likeE e ⟨e.K, 0, e.B⟩ = true := by unfold likeE; rw [if_pos (by omega)]; simp
            rw [lt] at lk
            have gG : ∀ {v : PV}, inL v = some p → runPure cfgP2 (evFn cfgP2 60) 22 [v, .i .i64 (a : Int), .i .i64 1024] = some (.tup ([] ++ PV.osl 1 e.B.length (ofBytes e.B) :: [.i .i64 ((a : Int) + ((varint e.B.length).length : Int) + (e.B.length : Int)), .i .i64 0])) := fun {v} hv => by
              rw [runPure_ext (show cfgP2.ext 22 = some gGetBlob from hxP2_gGetBlob)]
              unfold gGetBlob
              simp only [hv]
              rw [if_pos ⟨by omega, by omega, by omega⟩]
              unfold blobV
              rw [hbl]
              simp only [outV, if_neg hB]; rfl
            (try rw [Z0])
            (try simp (maxSteps := 2000000) (disch := first | omega | rfl | assumption) only [↓Xp, ↓Xt, Xq, Xc, binP, ofCells, Nat.reduceAdd, Nat.reduceMul, Nat.reduceLT, Nat.reduceEqDiff, reduceIte, Xa, Xn, unP, len_f, len_n, len_r, Xm, Nat.reduceLeDiff, List.nil_append, List.cons_append, g3, g4, g5, g7, g8, g18, g19, g20, kx, ky, h30])
            (try rw [Z0])
            (try simp (maxSteps := 2000000) (disch := first | omega | rfl | assumption) only [↓Xp, ↓Xt, Xq, Xc, binP, ofCells, Nat.reduceAdd, Nat.reduceMul, Nat.reduceLT, Nat.reduceEqDiff, reduceIte, Xa, Xn, unP, len_f, len_n, len_r, Xm, Nat.reduceLeDiff, List.nil_append, List.cons_append, g3, g4, g5, g7, g8, g18, g19, g20, kx, ky, h30])
            (try rw [Z0])
            (try simp (maxSteps := 2000000) (disch := first | omega | rfl | assumption) only [↓Xp, ↓Xt, Xq, Xc, binP, ofCells, Nat.reduceAdd, Nat.reduceMul, Nat.reduceLT, Nat.reduceEqDiff, reduceIte, Xa, Xn, unP, len_f, len_n, len_r, Xm, Nat.reduceLeDiff, List.nil_append, List.cons_append, g3, g4, g5, g7, g8, g18, g19, g20, kx, ky, h30])
            (try rw [Z0])
            (try simp (maxSteps := 2000000) (disch := first | omega | rfl | assumption) only [↓Xp, ↓Xt, Xq, Xc, binP, ofCells, Nat.reduceAdd, Nat.reduceMul, Nat.reduceLT, Nat.reduceEqDiff, reduceIte, Xa, Xn, unP, len_f, len_n, len_r, Xm, Nat.reduceLeDiff, List.nil_append, List.cons_append, g3, g4, g5, g7, g8, g18, g19, g20, kx, ky, h30])
            (try rw [Z0])
            (try simp (maxSteps := 2000000) (disch := first | omega | rfl | assumption) only [↓Xp, ↓Xt, Xq, Xc, binP, ofCells, Nat.reduceAdd, Nat.reduceMul, Nat.reduceLT, Nat.reduceEqDiff, reduceIte, Xa, Xn, unP, len_f, len_n, len_r, Xm, Nat.reduceLeDiff, List.nil_append, List.cons_append, g3, g4, g5, g7, g8, g18, g19, g20, kx, ky, h30])
            (try rw [Z0])
            (try simp (maxSteps := 2000000) (disch := first | omega | rfl | assumption) only [↓Xp, ↓Xt, Xq, Xc, binP, ofCells, Nat.reduceAdd, Nat.reduceMul, Nat.reduceLT, Nat.reduceEqDiff, reduceIte, Xa, Xn, unP, len_f, len_n, len_r, Xm, Nat.reduceLeDiff, List.nil_append, List.cons_append, g3, g4, g5, g7, g8, g18, g19, g20, kx, ky, h30])
            (try rw [Z0])
            (try simp (maxSteps := 2000000) (disch := first | omega | rfl | assumption) only [↓Xp, ↓Xt, Xq, Xc, binP, ofCells, Nat.reduceAdd, Nat.reduceMul, Nat.reduceLT, Nat.reduceEqDiff, reduceIte, Xa, Xn, unP, len_f, len_n, len_r, Xm, Nat.reduceLeDiff, List.nil_append, List.cons_append, g3, g4, g5, g7, g8, g18, g19, g20, kx, ky, h30])
            refine WV_callT (deep_3 (oo.cnt (by omega)).deepV rfl rfl) (gG oo.inV) (OutV.osl _ _ _) rfl rfl (clO_bytes _) (by rw [len_ofBytes, Nat.mul_one]) (by first | omega | (simp only [Z0L_, Z0M_, Nat.add_assoc, Nat.reduceAdd]; omega) | (simp only; omega)) ?_
            intro w4 st4 o4 q4 c4 f4
            (try simp only [Z0M_] at c4)
            replace oo := oo.over f4 rfl (by simp only; omega) (by simp only; omega)
            replace kx := fun n => (Z0J_ st4 n (c + 24)).trans ((f4 (c + 24) (by omega)).trans (kx _))
            replace ky := fun n => (Z0J_ st4 n (c + 64)).trans ((f4 (c + 64) (by omega)).trans (ky _))
            obtain ⟨k4, rfl, hk4, _, _⟩ := o4.obj (fun h => hB (List.length_eq_zero_iff.1 h))
            have hk4e := q4 k4 (by simp [keyOf])
            have one4 : PV.one (.rsl k4 1 0 e.B.length) = true := rfl
            have cel4 : PV.cells (.rsl k4 1 0 e.B.length) = [.rsl k4 1 0 e.B.length] := rfl
            (try rw [Z0])
            (try simp (maxSteps := 2000000) (disch := first | omega | rfl | assumption) only [↓Xp, ↓Xt, Xq, Xc, binP, ofCells, Nat.reduceAdd, Nat.reduceMul, Nat.reduceLT, Nat.reduceEqDiff, reduceIte, Xa, Xn, unP, len_f, len_n, len_r, Xm, Nat.reduceLeDiff, List.nil_append, List.cons_append, g3, g4, g5, g7, g8, g18, g19, g20, kx, ky, h30, one4, cel4])
            (try rw [Z0])
            (try simp (maxSteps := 2000000) (disch := first | omega | rfl | assumption) only [↓Xp, ↓Xt, Xq, Xc, binP, ofCells, Nat.reduceAdd, Nat.reduceMul, Nat.reduceLT, Nat.reduceEqDiff, reduceIte, Xa, Xn, unP, len_f, len_n, len_r, Xm, Nat.reduceLeDiff, List.nil_append, List.cons_append, g3, g4, g5, g7, g8, g18, g19, g20, kx, ky, h30, one4, cel4])
            refine WV_callF (deepL_two ?_ ?_) lk rfl rfl ?_
            · rfl
            · exact deep_agg3 (by rw [Z0J_, St.get_put_ne (by omega)]; exact hk4)
            (try rw [Z0])
            (try simp (maxSteps := 2000000) (disch := first | omega | rfl | assumption) only [↓Xp, ↓Xt, Xq, Xc, binP, ofCells, Nat.reduceAdd, Nat.reduceMul, Nat.reduceLT, Nat.reduceEqDiff, reduceIte, Xa, Xn, unP, len_f, len_n, len_r, Xm, Nat.reduceLeDiff, List.nil_append, List.cons_append, g3, g4, g5, g7, g8, g18, g19, g20, Bool.not_true])
            (try rw [Z0])
            (try simp (maxSteps := 2000000) (disch := first | omega | rfl | assumption) only [↓Xp, ↓Xt, Xq, Xc, binP, ofCells, Nat.reduceAdd, Nat.reduceMul, Nat.reduceLT, Nat.reduceEqDiff, reduceIte, Xa, Xn, unP, len_f, len_n, len_r, Xm, Nat.reduceLeDiff, List.nil_append, List.cons_append, g3, g4, g5, g7, g8, g18, g19, g20, Bool.not_true])
            (try rw [Z0])
            (try simp (maxSteps := 2000000) (disch := first | omega | rfl | assumption) only [↓Xp, ↓Xt, Xq, Xc, binP, ofCells, Nat.reduceAdd, Nat.reduceMul, Nat.reduceLT, Nat.reduceEqDiff, reduceIte, Xa, Xn, unP, len_f, len_n, len_r, Xm, Nat.reduceLeDiff, List.nil_append, List.cons_append, g3, g4, g5, g7, g8, g18, g19, g20, Bool.not_true])
            refine ⟨l.length - (i + 1), by omega, i + 1, rfl, by omega, by rw [hsl], rfl, ?_⟩
            exact oo.move (by simp only; omega) (fun j hj hlt => by have := ok _ hj; rw [Z0J_, St.get_put_ne (by omega)])
      · simp (disch := first | omega | rfl | assumption) only [↓Z0, ↓Xp, ↓Xt, Xq, Xc, binP, ofCells, Nat.reduceAdd, Nat.reduceMul, Nat.reduceLT, Nat.reduceEqDiff, reduceIte, Xm, Nat.reduceLeDiff, Xa, Xn, unP, len_f, len_n, len_r, g3, g4, g5, g18, g19, g20]
        have : l.take i = l := List.take_of_length_le (by omega)
        rw [this, hp]
        exact ⟨rfl, oo.cnt (by omega)⟩
    · refine ⟨0, rfl, by omega, rfl, rfl, rfl, rfl, rfl, rfl, ?_⟩
      exact o3.cnt (by omega)
  rintro ⟨env, ⟨sto, c⟩⟩ ⟨g3, g4, g5, oo⟩
  simp only at g3 g4 g5
  have lo := oo.len
  simp (disch := first | omega | rfl | assumption) only [↓Z0, ↓Xp, ↓Xt, Xq, Xc, binP, ofCells, Nat.reduceAdd, Nat.reduceMul, Nat.reduceLT, Nat.reduceEqDiff, reduceIte, Xm, Nat.reduceLeDiff, Xa, Xn, unP, len_f, len_n, len_r, g3, g4, g5, lo]
  refine ⟨nofun, _, rfl, ?_⟩
  simp only [tupV, ↓Z0, ↓Xp, ↓Xt, Xq, Xc, binP, ofCells, Nat.reduceAdd, Nat.reduceMul, Nat.reduceLT, Nat.reduceEqDiff, reduceIte]
end Go.Pe
