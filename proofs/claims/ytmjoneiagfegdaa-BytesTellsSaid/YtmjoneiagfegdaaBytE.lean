/-
  BytesTells: behind the compares of what is read. No condition.
-/
import Derived.Test.YtmjoneiagfegdaaBytD
set_option linter.unusedVariables false
set_option linter.unusedSimpArgs false
namespace Go.Pe
open Go Go.Am Go.RowKit

theorem WC_hold {cfg : Cfg} {callE : CallE} {n : Nat} {a b : MCode} {x : Now} {Q : MExit → Now → Prop} (h : ∀ K : Now → Prop, (∀ x', WC cfg callE n b x' Q → K x') → WC cfg callE n a x (thenQ Q K)) : WC cfg callE n (.seq a b) x Q := by
  rw [Z0]
  exact h _ fun _ h => h
theorem wrap_in64' (x : Int) : -9223372036854775808 ≤ IntKind.i64.wrap x ∧ IntKind.i64.wrap x ≤ 9223372036854775807 := by
  rw [IntKind.wrap_i64]; omega
theorem WO_append {cfg : Cfg} {callE : CallE} {a b : List MOper} {key : Nat} {c : Loc} {Q : Loc → Prop} : WO cfg callE (a ++ b) key c Q ↔ WO cfg callE a key c fun c' => WO cfg callE b (key + 8 * a.length) c' Q := by
  unfold WO
  induction a generalizing key c with
  | nil => simp [evOps]
  | cons o a ih =>
    simp only [List.cons_append, evOps, List.length_cons]
    rw [show key + 8 * (a.length + 1) = key + 8 + 8 * a.length by omega]
    cases guardP c o.guard with
    | none => simp
    | some g =>
      cases g with
      | false => exact ih
      | true =>
        cases evOp cfg callE c.rd c.st key o.op with
        | none => simp
        | some p => exact ih
theorem WO_hold {cfg : Cfg} {callE : CallE} {ops : List MOper} {key : Nat} {c : Loc} {Q : Loc → Prop} (k : Nat) (hk : k ≤ ops.length) (h : ∀ K : Loc → Prop, (∀ c', WO cfg callE (ops.drop k) (key + 8 * k) c' Q → K c') → WO cfg callE (ops.take k) key c K) : WO cfg callE ops key c Q := by
  rw [← List.take_append_drop k ops, WO_append, List.length_take, Nat.min_eq_left hk]
  exact h _ fun _ h => h
theorem WV_callqE {g : List PV → Option PV} {st st' : St} {key : Nat} {ps ps' : List PV} {r v : PV} {Q : PV → St → Prop} (hd : deepL st ps = some ps') (hg : g ps' = some r) (hc : r.closedB = true) (hr : recvRes st key r = some (v, st')) (q : Q v st') :
    WV (match deepL st ps with
      | some l => match g l with
        | some r => if r.closedB then recvRes st key r else none
        | none => none
      | none => none) Q := by
  refine ⟨v, st', ?_, q⟩
  simp only [hd, hg, hc, if_true, hr]
def btail : MCode := (.seq (.seq (.region [⟨.l 143, .mv (.t 9), none⟩, ⟨.l 144, .callq 16 [.l 143], none⟩, ⟨.l 145, .mv (.t 1), none⟩, ⟨.l 146, .callq 27 [.l 145], none⟩, ⟨.l 147, .bin .neq (.l 144) (.l 146), none⟩, ⟨.l 148, .mv (.l 147), none⟩, ⟨.l 149, .mv (.t 9), some (.l 148, false)⟩, ⟨.l 150, .callq 17 [.l 149], some (.l 148, false)⟩, ⟨.l 151, .conv .b2s (.l 150), some (.l 148, false)⟩, ⟨.l 152, .mv (.t 1), some (.l 148, false)⟩, ⟨.l 153, .callq 28 [.l 152], some (.l 148, false)⟩, ⟨.l 154, .conv .b2s (.l 153), some (.l 148, false)⟩, ⟨.l 155, .bin .neq (.l 151) (.l 154), some (.l 148, false)⟩, ⟨.l 156, .pick (.l 148) (.c (.b true)) (.l 155), none⟩, ⟨.l 157, .mv (.l 156), none⟩, ⟨.l 158, .mv (.t 0), some (.l 157, false)⟩, ⟨.l 159, .callq 11 [.c .nsl, .l 158], some (.l 157, false)⟩, ⟨.l 160, .conv .b2s (.l 159), some (.l 157, false)⟩, ⟨.l 161, .mv (.t 0), some (.l 157, false)⟩, ⟨.l 162, .callq 29 [.c .nsl, .l 161], some (.l 157, false)⟩, ⟨.l 163, .conv .b2s (.l 162), some (.l 157, false)⟩, ⟨.l 164, .bin .neq (.l 160) (.l 163), some (.l 157, false)⟩, ⟨.l 165, .pick (.l 157) (.c (.b true)) (.l 164), none⟩, ⟨.l 166, .mv (.l 165), none⟩, ⟨.l 167, .mv (.t 0), some (.l 166, false)⟩, ⟨.l 168, .conv (.int .i64) (.l 167), some (.l 166, false)⟩, ⟨.l 169, .callq 14 [.c .nsl, .l 168], some (.l 166, false)⟩, ⟨.l 170, .conv .b2s (.l 169), some (.l 166, false)⟩, ⟨.l 171, .mv (.t 0), some (.l 166, false)⟩, ⟨.l 172, .conv (.int .i64) (.l 171), some (.l 166, false)⟩, ⟨.l 173, .callq 30 [.c .nsl, .l 172], some (.l 166, false)⟩, ⟨.l 174, .conv .b2s (.l 173), some (.l 166, false)⟩, ⟨.l 175, .bin .neq (.l 170) (.l 174), some (.l 166, false)⟩, ⟨.l 176, .pick (.l 166) (.c (.b true)) (.l 175), none⟩, ⟨.l 177, .mv (.l 176), none⟩, ⟨.l 178, .mv (.t 9), some (.l 177, false)⟩, ⟨.l 179, .callq 31 [.c .nsl, .l 178], some (.l 177, false)⟩, ⟨.l 180, .conv .b2s (.l 179), some (.l 177, false)⟩, ⟨.l 181, .mv (.t 1), some (.l 177, false)⟩, ⟨.l 182, .callq 32 [.c .nsl, .l 181], some (.l 177, false)⟩, ⟨.l 183, .conv .b2s (.l 182), some (.l 177, false)⟩, ⟨.l 184, .bin .neq (.l 180) (.l 183), some (.l 177, false)⟩, ⟨.t 185, .pick (.l 177) (.c (.b true)) (.l 184), none⟩]) (.cond (.t 185) (.seq (.region [⟨.t 8, .mv (.c (.b false)), none⟩]) .ret) .skip)) (.seq (.region [⟨.l 186, .bslice 0 1 [] [], none⟩, ⟨.l 187, .mv (.t 1), none⟩, ⟨.l 188, .append 1 1 (.l 186) (.l 187), none⟩, ⟨.t 26, .mv (.l 188), none⟩]) (.seq bchain .ret)))
set_option maxHeartbeats 8000000 in
set_option maxRecDepth 100000 in
theorem btail_ev {env : Env} {st4 : St} {b : List UInt8} {n : Nat} {w : PV} {Q : MExit → Now → Prop} (g0 : env.get 0 = .i .u64 n) (g1 : env.get 1 = .fsl b.length (ofBytes b)) (g9 : env.get 9 = w) (o1 : Own st4 1 w b.length (ofBytes b)) (ht : ∀ j, st4.cnt ≤ j → st4.get j = none) (hb : b.length ≤ 700) (hn : n < 18446744073709551616)
    (hQ : ∀ env' st', env'.get 8 = .b true → Q .ret ⟨env', st'⟩) : WC cfgL8 (evFn cfgL8 401) (401 + 1) btail ⟨env, st4⟩ Q := by
  unfold btail
  have hcb : ∀ st, cellsOf st 1 (.fsl b.length (ofBytes b)) = some (b.length, ofBytes b) := fun st => cells_in (in_fsl b)
  have hob := one_ofBytes b
  have nn : ∀ x : Int, (x != x) = false := fun x => by simp
  have ns : ∀ l : List UInt8, (l == l) = true := fun l => beq_self_eq_true l
  have hdb : ∀ st, Go.Pe.deep st 12 (.fsl b.length (ofBytes b)) = some (.fsl b.length (ofBytes b)) := fun st => deep_in (in_fsl b)
  obtain ⟨z, hz⟩ : ∃ z, IntKind.i64.wrap (n : Int) = z := ⟨_, rfl⟩
  have hz64 : in64 z := by rw [← hz]; unfold in64; exact wrap_in64' _
  have rC1 : ∀ {v : PV}, inL v = some b → runPure cfgL8 (evFn cfgL8 401) 16 [v] = some (.i .u32 ((crc b : Nat) : Int)) := fun hv => by
    rw [runPure_ext (show cfgL8.ext 16 = some gCrc from hxB3_gCrc)]
    unfold gCrc
    simp only [hv]
    rw [if_pos (by omega)]
  have rC2 : runPure cfgL8 (evFn cfgL8 401) 27 [.fsl b.length (ofBytes b)] = some (.i .u32 ((crc b : Nat) : Int)) := by
    rw [runPure_ext (show cfgL8.ext 27 = some gRCrc from hxB3_gRCrc)]
    unfold gRCrc
    simp only [in_fsl]
    rw [if_pos (by omega)]
  have rS1 : ∀ {v : PV}, inL v = some b → runPure cfgL8 (evFn cfgL8 401) 17 [v] = some (.osl 1 (sealB b).length (ofBytes (sealB b))) := fun hv => by
    rw [runPure_ext (show cfgL8.ext 17 = some gSeal from hxB3_gSeal)]
    unfold gSeal
    simp only [hv]
    rw [if_pos (by omega)]
  have rS2 := rseal_g (cfg := cfgL8) (callE := evFn cfgL8 401) hxB3_gRSeal (in_fsl b) (by omega)
  have rU1 : runPure cfgL8 (evFn cfgL8 401) 11 [.nsl, .i .u64 (n : Int)] = some (.osl 1 (varint n).length (ofBytes (varint n))) := by
    rw [runPure_ext (show cfgL8.ext 11 = some gUint from hxB3_gUint)]
    unfold gUint
    simp only [show outL .nsl = some [] from rfl, Int.toNat_natCast, List.nil_append]
    rw [if_pos ⟨by omega, by omega, by unfold maxBytes; simp only [List.length_nil]; omega⟩]
  have rU2 := ruint_g (cfg := cfgL8) (callE := evFn cfgL8 401) hxB3_gRUint (show inL .nsl = some [] from rfl) hn (by simp only [List.length_nil]; omega)
  have rI1 : runPure cfgL8 (evFn cfgL8 401) 14 [.nsl, .i .i64 z] = some (.osl 1 (varint (foldN z)).length (ofBytes (varint (foldN z)))) := by
    rw [runPure_ext (show cfgL8.ext 14 = some gInt from hxB3_gInt)]
    unfold gInt
    simp only [show outL .nsl = some [] from rfl, List.nil_append]
    rw [if_pos ⟨hz64.1, hz64.2, by unfold maxBytes; simp only [List.length_nil]; omega⟩]
  have rI2 := rint_g (cfg := cfgL8) (callE := evFn cfgL8 401) hxB3_gRInt (show inL .nsl = some [] from rfl) hz64 (by simp only [List.length_nil]; omega)
  rw [List.nil_append] at rU2 rI2
  have rB1 : ∀ {v : PV}, inL v = some b → runPure cfgL8 (evFn cfgL8 401) 31 [.nsl, v] = some (.osl 1 (varint b.length ++ b).length (ofBytes (varint b.length ++ b))) := fun hv => by
    rw [runPure_ext (show cfgL8.ext 31 = some gBlob from hxB3_gBlob)]
    unfold gBlob
    simp only [hv, show outL .nsl = some [] from rfl, List.nil_append]
    rw [if_pos (by simp only [List.length_nil]; omega)]
  have rB2 : runPure cfgL8 (evFn cfgL8 401) 32 [.nsl, .fsl b.length (ofBytes b)] = some (.osl 1 (varint b.length ++ b).length (ofBytes (varint b.length ++ b))) := by
    rw [runPure_ext (show cfgL8.ext 32 = some gRBlob from hxB3_gRBlob)]
    unfold gRBlob
    simp only [in_fsl, show inL .nsl = some [] from rfl, List.nil_append]
    rw [if_pos (by simp only [List.length_nil]; omega)]
  have dW := fun M (hM : st4.cnt ≤ M) => deepL_one (o1.cnt hM).deepV
  have rC1' := rC1 o1.inV
  have rS1' := rS1 o1.inV
  have dF : ∀ st, deepL st [.fsl b.length (ofBytes b)] = some [.fsl b.length (ofBytes b)] := fun st => deepL_one (hdb st)
  have dN : ∀ st (k : IntKind) (x : Int), deepL st [.nsl, .i k x] = some [.nsl, .i k x] := fun st k x => rfl
  have dB : ∀ st, deepL st [.nsl, .fsl b.length (ofBytes b)] = some [.nsl, .fsl b.length (ofBytes b)] := fun st => deepL_two rfl (hdb st)
  have by1 := fun L => bytesOf_of L
  refine WC_hold fun K hK => ?_
  refine WC_hold fun K2 hK2 => ?_
  rw [Z1]
  refine WO_hold 6 (by decide) fun K3 hK3 => ?_
  simp only [List.take_succ_cons, List.take_zero, List.drop_succ_cons, List.drop_zero, Nat.reduceMul]
  simp (maxSteps := 2000000) (disch := first | omega | rfl | assumption) only [↓Z0, ↓Xp, ↓Xt, Xq, Xc, binP, ofCells, Nat.reduceAdd, Nat.reduceMul, Nat.reduceLT, Nat.reduceEqDiff, reduceIte, Xa, Xn, unP, len_f, len_n, len_r, Xl, Nat.reduceLeDiff, g0, g1, g9, nn, ns, dW, dF, rC1', rC2, rS1', rS2, rU1, rU2, rI1, rI2, rB2, closed_osl, closed_i, recv_bytes, recv_i, cells_put, by1, hz, Option.map_some, Bool.not_true]
  refine hK3 _ ?_
  clear hK3 K3
  refine WO_hold 9 (by decide) fun K3 hK3 => ?_
  simp only [List.take_succ_cons, List.take_zero, List.drop_succ_cons, List.drop_zero, Nat.reduceMul]
  simp (maxSteps := 2000000) (disch := first | omega | rfl | assumption) only [↓Z0, ↓Xp, ↓Xt, Xq, Xc, binP, ofCells, Nat.reduceAdd, Nat.reduceMul, Nat.reduceLT, Nat.reduceEqDiff, reduceIte, Xa, Xn, unP, len_f, len_n, len_r, Xl, Nat.reduceLeDiff, g0, g1, g9, nn, ns, dW, dF, rC1', rC2, rS1', rS2, rU1, rU2, rI1, rI2, rB2, closed_osl, closed_i, recv_bytes, recv_i, cells_put, by1, hz, Option.map_some, Bool.not_true]
  refine hK3 _ ?_
  clear hK3 K3
  refine WO_hold 2 (by decide) fun K3 hK3 => ?_
  simp only [List.take_succ_cons, List.take_zero, List.drop_succ_cons, List.drop_zero, Nat.reduceMul]
  simp (maxSteps := 2000000) (disch := first | omega | rfl | assumption) only [↓Z0, ↓Xp, ↓Xt, Xq, Xc, binP, ofCells, Nat.reduceAdd, Nat.reduceMul, Nat.reduceLT, Nat.reduceEqDiff, reduceIte, Xa, Xn, unP, len_f, len_n, len_r, Xl, Nat.reduceLeDiff, g0, g1, g9, nn, ns, dW, dF, rC1', rC2, rS1', rS2, rU1, rU2, rI1, rI2, rB2, closed_osl, closed_i, recv_bytes, recv_i, cells_put, by1, hz, Option.map_some, Bool.not_true]
  generalize runPure cfgL8 (evFn cfgL8 401) 11 = RrU1 at rU1 ⊢
  refine WV_callqE (dN _ _ _) rU1 (closed_osl _ _) (recv_bytes _ _ _) ?_
  refine hK3 _ ?_
  clear hK3 K3
  refine WO_hold 3 (by decide) fun K3 hK3 => ?_
  simp only [List.take_succ_cons, List.take_zero, List.drop_succ_cons, List.drop_zero, Nat.reduceMul]
  simp (maxSteps := 2000000) (disch := first | omega | rfl | assumption) only [↓Z0, ↓Xp, ↓Xt, Xq, Xc, binP, ofCells, Nat.reduceAdd, Nat.reduceMul, Nat.reduceLT, Nat.reduceEqDiff, reduceIte, Xa, Xn, unP, len_f, len_n, len_r, Xl, Nat.reduceLeDiff, g0, g1, g9, nn, ns, dW, dF, rC1', rC2, rS1', rS2, rU1, rU2, rI1, rI2, rB2, closed_osl, closed_i, recv_bytes, recv_i, cells_put, by1, hz, Option.map_some, Bool.not_true]
  generalize runPure cfgL8 (evFn cfgL8 401) 29 = RrU2 at rU2 ⊢
  refine WV_callqE (dN _ _ _) rU2 (closed_osl _ _) (recv_bytes _ _ _) ?_
  refine hK3 _ ?_
  clear hK3 K3
  refine WO_hold 4 (by decide) fun K3 hK3 => ?_
  simp only [List.take_succ_cons, List.take_zero, List.drop_succ_cons, List.drop_zero, Nat.reduceMul]
  simp (maxSteps := 2000000) (disch := first | omega | rfl | assumption) only [↓Z0, ↓Xp, ↓Xt, Xq, Xc, binP, ofCells, Nat.reduceAdd, Nat.reduceMul, Nat.reduceLT, Nat.reduceEqDiff, reduceIte, Xa, Xn, unP, len_f, len_n, len_r, Xl, Nat.reduceLeDiff, g0, g1, g9, nn, ns, dW, dF, rC1', rC2, rS1', rS2, rU1, rU2, rI1, rI2, rB2, closed_osl, closed_i, recv_bytes, recv_i, cells_put, by1, hz, Option.map_some, Bool.not_true]
  refine hK3 _ ?_
  clear hK3 K3
  refine WO_hold 3 (by decide) fun K3 hK3 => ?_
  simp only [List.take_succ_cons, List.take_zero, List.drop_succ_cons, List.drop_zero, Nat.reduceMul]
  simp (maxSteps := 2000000) (disch := first | omega | rfl | assumption) only [↓Z0, ↓Xp, ↓Xt, Xq, Xc, binP, ofCells, Nat.reduceAdd, Nat.reduceMul, Nat.reduceLT, Nat.reduceEqDiff, reduceIte, Xa, Xn, unP, len_f, len_n, len_r, Xl, Nat.reduceLeDiff, g0, g1, g9, nn, ns, dW, dF, rC1', rC2, rS1', rS2, rU1, rU2, rI1, rI2, rB2, closed_osl, closed_i, recv_bytes, recv_i, cells_put, by1, hz, Option.map_some, Bool.not_true]
  generalize runPure cfgL8 (evFn cfgL8 401) 14 = RrI1 at rI1 ⊢
  refine WV_callqE (dN _ _ _) rI1 (closed_osl _ _) (recv_bytes _ _ _) ?_
  refine hK3 _ ?_
  clear hK3 K3
  refine WO_hold 4 (by decide) fun K3 hK3 => ?_
  simp only [List.take_succ_cons, List.take_zero, List.drop_succ_cons, List.drop_zero, Nat.reduceMul]
  simp (maxSteps := 2000000) (disch := first | omega | rfl | assumption) only [↓Z0, ↓Xp, ↓Xt, Xq, Xc, binP, ofCells, Nat.reduceAdd, Nat.reduceMul, Nat.reduceLT, Nat.reduceEqDiff, reduceIte, Xa, Xn, unP, len_f, len_n, len_r, Xl, Nat.reduceLeDiff, g0, g1, g9, nn, ns, dW, dF, rC1', rC2, rS1', rS2, rU1, rU2, rI1, rI2, rB2, closed_osl, closed_i, recv_bytes, recv_i, cells_put, by1, hz, Option.map_some, Bool.not_true]
  generalize runPure cfgL8 (evFn cfgL8 401) 30 = RrI2 at rI2 ⊢
  refine WV_callqE (dN _ _ _) rI2 (closed_osl _ _) (recv_bytes _ _ _) ?_
  refine hK3 _ ?_
  clear hK3 K3
  refine WO_hold 4 (by decide) fun K3 hK3 => ?_
  simp only [List.take_succ_cons, List.take_zero, List.drop_succ_cons, List.drop_zero, Nat.reduceMul]
  simp (maxSteps := 2000000) (disch := first | omega | rfl | assumption) only [↓Z0, ↓Xp, ↓Xt, Xq, Xc, binP, ofCells, Nat.reduceAdd, Nat.reduceMul, Nat.reduceLT, Nat.reduceEqDiff, reduceIte, Xa, Xn, unP, len_f, len_n, len_r, Xl, Nat.reduceLeDiff, g0, g1, g9, nn, ns, dW, dF, rC1', rC2, rS1', rS2, rU1, rU2, rI1, rI2, rB2, closed_osl, closed_i, recv_bytes, recv_i, cells_put, by1, hz, Option.map_some, Bool.not_true]
  refine hK3 _ ?_
  clear hK3 K3
  refine WO_hold 2 (by decide) fun K3 hK3 => ?_
  simp only [List.take_succ_cons, List.take_zero, List.drop_succ_cons, List.drop_zero, Nat.reduceMul]
  simp (maxSteps := 2000000) (disch := first | omega | rfl | assumption) only [↓Z0, ↓Xp, ↓Xt, Xq, Xc, binP, ofCells, Nat.reduceAdd, Nat.reduceMul, Nat.reduceLT, Nat.reduceEqDiff, reduceIte, Xa, Xn, unP, len_f, len_n, len_r, Xl, Nat.reduceLeDiff, g0, g1, g9, nn, ns, dW, dF, rC1', rC2, rS1', rS2, rU1, rU2, rI1, rI2, rB2, closed_osl, closed_i, recv_bytes, recv_i, cells_put, by1, hz, Option.map_some, Bool.not_true]
  have gS : ∀ j, j < st4.cnt → (((((((⟨st4.sto, st4.cnt + 344⟩ : St).put (st4.cnt + 56) (some (.cells (ofBytes (sealB b)) false))).put (st4.cnt + 80) (some (.cells (ofBytes (sealB b)) false))).put (st4.cnt + 128) (some (.cells (ofBytes (varint n)) false))).put (st4.cnt + 152) (some (.cells (ofBytes (varint n)) false))).put (st4.cnt + 208) (some (.cells (ofBytes (varint (foldN z))) false))).put (st4.cnt + 240) (some (.cells (ofBytes (varint (foldN z))) false))).get j = st4.get j := fun j hj => by
    rw [St.get_put_ne (by omega), St.get_put_ne (by omega), St.get_put_ne (by omega), St.get_put_ne (by omega), St.get_put_ne (by omega), St.get_put_ne (by omega)]; rfl
  have gS2 : ∀ j, st4.cnt + 344 ≤ j → (((((((⟨st4.sto, st4.cnt + 344⟩ : St).put (st4.cnt + 56) (some (.cells (ofBytes (sealB b)) false))).put (st4.cnt + 80) (some (.cells (ofBytes (sealB b)) false))).put (st4.cnt + 128) (some (.cells (ofBytes (varint n)) false))).put (st4.cnt + 152) (some (.cells (ofBytes (varint n)) false))).put (st4.cnt + 208) (some (.cells (ofBytes (varint (foldN z))) false))).put (st4.cnt + 240) (some (.cells (ofBytes (varint (foldN z))) false))).get j = st4.get j := fun j hj => by
    rw [St.get_put_ne (by omega), St.get_put_ne (by omega), St.get_put_ne (by omega), St.get_put_ne (by omega), St.get_put_ne (by omega), St.get_put_ne (by omega)]; rfl
  have cS : (((((((⟨st4.sto, st4.cnt + 344⟩ : St).put (st4.cnt + 56) (some (.cells (ofBytes (sealB b)) false))).put (st4.cnt + 80) (some (.cells (ofBytes (sealB b)) false))).put (st4.cnt + 128) (some (.cells (ofBytes (varint n)) false))).put (st4.cnt + 152) (some (.cells (ofBytes (varint n)) false))).put (st4.cnt + 208) (some (.cells (ofBytes (varint (foldN z))) false))).put (st4.cnt + 240) (some (.cells (ofBytes (varint (foldN z))) false))).cnt = st4.cnt + 344 := rfl
  generalize ((((((⟨st4.sto, st4.cnt + 344⟩ : St).put (st4.cnt + 56) (some (.cells (ofBytes (sealB b)) false))).put (st4.cnt + 80) (some (.cells (ofBytes (sealB b)) false))).put (st4.cnt + 128) (some (.cells (ofBytes (varint n)) false))).put (st4.cnt + 152) (some (.cells (ofBytes (varint n)) false))).put (st4.cnt + 208) (some (.cells (ofBytes (varint (foldN z))) false))).put (st4.cnt + 240) (some (.cells (ofBytes (varint (foldN z))) false)) = S5 at gS gS2 cS ⊢
  have o5 : Own S5 1 w b.length (ofBytes b) := o1.move (by omega) (fun j _ hj => gS j hj)
  refine WV_callqB (L := varint b.length ++ b) (deepL_two (st := S5) (w1 := .nsl) (v1 := .nsl) rfl o5.deepV) (rB1 o5.inV) (by omega) ?_
  intro st5 o6 k6 c6 f6
  refine hK3 _ ?_
  clear hK3 K3
  refine WO_hold 3 (by decide) fun K3 hK3 => ?_
  simp only [List.take_succ_cons, List.take_zero, List.drop_succ_cons, List.drop_zero, Nat.reduceMul]
  simp (maxSteps := 2000000) (disch := first | omega | rfl | assumption) only [↓Z0, ↓Xp, ↓Xt, Xq, Xc, binP, ofCells, Nat.reduceAdd, Nat.reduceMul, Nat.reduceLT, Nat.reduceEqDiff, reduceIte, Xa, Xn, unP, len_f, len_n, len_r, Xl, Nat.reduceLeDiff, g0, g1, g9, nn, ns, dF, rB2, closed_osl, closed_i, recv_bytes, recv_i, cells_put, by1, o6.cells, Option.map_some, Bool.not_true]
  generalize runPure cfgL8 (evFn cfgL8 401) 32 = RB2 at rB2 ⊢
  refine WV_callqE (dB _) rB2 (closed_osl _ _) (recv_bytes _ _ _) ?_
  refine hK3 _ ?_
  clear hK3 K3
  simp only [List.drop_succ_cons, List.drop_zero, Nat.reduceMul]
  simp (maxSteps := 2000000) (disch := first | omega | rfl | assumption) only [↓Z0, ↓Xp, ↓Xt, Xq, Xc, binP, ofCells, Nat.reduceAdd, Nat.reduceMul, Nat.reduceLT, Nat.reduceEqDiff, reduceIte, Xa, Xn, unP, len_f, len_n, len_r, Xl, Nat.reduceLeDiff, g0, g1, g9, nn, ns, dF, rB2, closed_osl, closed_i, recv_bytes, recv_i, cells_put, by1, o6.cells, Option.map_some, Bool.not_true]
  refine hK2 _ ?_
  clear hK2 K2
  simp (disch := first | omega | rfl | assumption) only [↓Z0, ↓Xp, ↓Xt, Xq, Xc, binP, ofCells, Nat.reduceAdd, Nat.reduceMul, Nat.reduceLT, Nat.reduceEqDiff, reduceIte, Xa, Xn, unP, len_f, len_n, len_r, Xl, Nat.reduceLeDiff]
  refine hK _ ?_
  clear hK K
  have t5 : ∀ j, st4.cnt + 344 ≤ j → (st5.put (st4.cnt + 312) (some (.cells (ofBytes (varint b.length ++ b)) false))).get j = none := fun j hj => by
    rw [St.get_put_ne (by omega), f6 j (by omega), gS2 j (by omega)]
    exact ht j (by omega)
  have c7 : (st5.put (st4.cnt + 312) (some (.cells (ofBytes (varint b.length ++ b)) false))).cnt = st4.cnt + 344 := by rw [Z0L_]; omega
  have o7 : Own (st5.put (st4.cnt + 312) (some (.cells (ofBytes (varint b.length ++ b)) false))) 1 w b.length (ofBytes b) := o1.move (by rw [c7]; omega) (fun j _ hj => by rw [St.get_put_ne (by omega), f6 j (by omega)]; exact gS j hj)
  generalize st5.put (st4.cnt + 312) (some (.cells (ofBytes (varint b.length ++ b)) false)) = S7 at t5 c7 o7 ⊢
  refine WC_hold fun K hK => ?_
  simp (disch := first | omega | rfl | assumption) only [↓Xp, ↓Xt, Xq, Xc, binP, ofCells, Nat.reduceAdd, Nat.reduceMul, Nat.reduceLT, Nat.reduceEqDiff, reduceIte, Xa, Xn, unP, len_f, len_n, len_r, Xl, Nat.reduceLeDiff, g0, g1, g9, hcb, hob]
  have oz : ∀ (S : St) (key : Nat), key < S.cnt → Own (S.put key (some (.cells [] false))) 1 (.rsl key 1 0 0) 0 [] := fun S key h => .inr ⟨key, rfl, St.get_putk _ _ _, rfl, h⟩
  refine WV_appO (oz _ _ (by first | omega | (simp only [Z0L_, Z0M_, Nat.add_assoc, Nat.reduceAdd]; omega) | (simp only; omega))) (by first | omega | (simp only [Z0L_, Z0M_, Nat.add_assoc, Nat.reduceAdd]; omega) | (simp only; omega)) (by simp only [keyOf_rsl, List.mem_singleton]; omega) (m := b.length) (by rw [len_ofBytes, Nat.mul_one]) (by decide) (by unfold maxBytes; omega) ?_
  intro w9 st9 o9 c9 q9 f9
  (try simp only [Z0L_] at c9)
  rw [Nat.zero_add, List.nil_append] at o9
  refine hK _ ?_
  clear hK K
  have ow9 : Own st9 1 w b.length (ofBytes b) := o7.move (by omega) (fun j hj _ => by
    have := o7.lt j hj
    rw [f9 j (by omega) (by simp only [keyOf_rsl, List.mem_singleton]; omega), St.get_put_ne (by omega)]; rfl)
  refine bchain_ev (b := b) (n := n) (z := z) (w := w) (w9 := w9) ?_ ?_ ?_ ?_ ow9 o9 (fun j h1 h2 => ?_) (fun k hk => ?_) (by omega) (by omega) hz hz64 (fun env' st' h8 => ?_)
  · simp (disch := first | omega | rfl | assumption) only [↓Xp, ↓Xt, Xq, Xc, binP, ofCells, Nat.reduceAdd, Nat.reduceMul, Nat.reduceLT, Nat.reduceEqDiff, reduceIte, Xa, Xn, unP, len_f, len_n, len_r, g0]
  · simp (disch := first | omega | rfl | assumption) only [↓Xp, ↓Xt, Xq, Xc, binP, ofCells, Nat.reduceAdd, Nat.reduceMul, Nat.reduceLT, Nat.reduceEqDiff, reduceIte, Xa, Xn, unP, len_f, len_n, len_r, g1]
  · simp (disch := first | omega | rfl | assumption) only [↓Xp, ↓Xt, Xq, Xc, binP, ofCells, Nat.reduceAdd, Nat.reduceMul, Nat.reduceLT, Nat.reduceEqDiff, reduceIte, Xa, Xn, unP, len_f, len_n, len_r, g9]
  · simp (disch := first | omega | rfl | assumption) only [↓Xp, ↓Xt, Xq, Xc, binP, ofCells, Nat.reduceAdd, Nat.reduceMul, Nat.reduceLT, Nat.reduceEqDiff, reduceIte, Xa, Xn, unP, len_f, len_n, len_r]
  · have := q9 j h1
    have := o7.lt j h2
    omega
  · rw [f9 k (by omega) (by simp only [keyOf_rsl, List.mem_singleton]; omega), St.get_put_ne (by omega)]
    exact t5 k (by omega)
  · exact hQ _ _ h8
end Go.Pe
