/-
  Bytes: put together, seals, by the interpreter of plain data. No condition.
-/
import Derived.Test.YtmjoneiagfegdaaEvtR
set_option linter.unusedVariables false
set_option linter.unusedSimpArgs false
namespace Go.Pe
open Go Go.Am Go.RowKit

theorem app_own {st : St} {k : Nat} {l news : List UInt8} (hk : st.get k = some (.cells (ofBytes l) false)) {key : Nat} (hl : l.length + news.length ≤ maxBytes) :
    ∃ st', appendP st key 1 1 news.length (ofBytes news) (.rsl k 1 0 l.length) = some (.rsl key 1 0 (l ++ news).length, st') ∧ st'.get key = some (.cells (ofBytes (l ++ news)) false) ∧ st'.cnt = st.cnt := by
  refine ⟨(st.put k none).put key (some (.cells (ofBytes (l ++ news)) false)), ?_, St.get_putk _ _ _, rfl⟩
  unfold appendP
  simp only [hk, len_ofBytes, append_ofBytes, List.length_append]
  rw [if_pos ⟨trivial, trivial, by omega, by omega⟩]
theorem two_idx (v1 v2 : PV) (st : St) : loadP st 1 (.fptr (([v1, v2] : List PV).drop (0 * 1))) = some [v1] ∧ loadP st 1 (.fptr (([v1, v2] : List PV).drop (1 * 1))) = some [v2] := ⟨rfl, rfl⟩
set_option maxHeartbeats 8000000 in
theorem concat_ev {cfg : Cfg} (hf : cfg.fn 41 = some m41) (hx : cfg.ext 48 = some gGrow) {fuel : Nat} (hfu : 4 ≤ fuel) {st : St} {v1 v2 : PV} {xs ys : List UInt8} (h1 : inL v1 = some xs) (h2 : inL v2 = some ys) (hp : 0 < xs.length + ys.length) (hm : xs.length + ys.length ≤ 140737488355328) :
    ∃ r st', evFn cfg (fuel + 1) 41 [.fsl 2 [v1, v2]] st = some (r, st') ∧ ∃ k, r = .rsl k 1 0 (xs ++ ys).length ∧ st'.get k = some (.cells (ofBytes (xs ++ ys)) false) := by
  refine evFn_W hf ?_
  unfold m41
  have hlen : lenP (.fsl 2 [v1, v2]) = some (.i .i64 ((2 : Nat) : Int)) := rfl
  have hl1 := in_len h1
  have hl2 := in_len h2
  have hc1 := fun st => cells_in (st := st) h1
  have hc2 := fun st => cells_in (st := st) h2
  have ho1 := one_ofBytes xs
  have ho2 := one_ofBytes ys
  have e02 : ((0 : Nat) : Int) < ((2 : Nat) : Int) := by decide
  have e12 : ((1 : Nat) : Int) < ((2 : Nat) : Int) := by decide
  have e22 : ¬ ((2 : Nat) : Int) < ((2 : Nat) : Int) := by decide
  have p0 : 0 ≤ ((0 : Nat) : Int) := by decide
  have p1 : 0 ≤ ((1 : Nat) : Int) := by decide
  have i0 := fun n sto => (two_idx v1 v2 ⟨sto, n⟩).1
  have i1 := fun n sto => (two_idx v1 v2 ⟨sto, n⟩).2
  have hl2' : ([v1, v2] : List PV).length = 2 * 1 := rfl
  have hw0 : IntKind.i64.wrap (((0 : Nat) : Int) + Int.ofNat 1) = ((1 : Nat) : Int) := rfl
  have hw1 : IntKind.i64.wrap (((1 : Nat) : Int) + Int.ofNat 1) = ((2 : Nat) : Int) := rfl
  have hs1 : IntKind.i64.wrap (((0 : Nat) : Int) + (xs.length : Int)) = (xs.length : Int) := by rw [wr_i64 _ (by omega)]; omega
  have hs2 : IntKind.i64.wrap ((xs.length : Int) + (ys.length : Int)) = ((xs.length + ys.length : Nat) : Int) := by rw [wr_i64 _ (by omega)]; omega
  have n1 : ¬ ((xs.length : Int) < Int.ofNat 0) := by show ¬ ((xs.length : Int) < 0); omega
  have n2 : ¬ (((xs.length + ys.length : Nat) : Int) < Int.ofNat 0) := by show ¬ (((xs.length + ys.length : Nat) : Int) < 0); omega
  rw [Z0]
  simp only [putArgs, ↓Xp, ↓Xt, Xq, Xc, binP, ofCells, Nat.reduceAdd, Nat.reduceMul, Nat.reduceLT, Nat.reduceEqDiff, reduceIte]
  rw [Z0]
  simp only [↓Xp, ↓Xt, Xq, Xc, binP, ofCells, Nat.reduceAdd, Nat.reduceMul, Nat.reduceLT, Nat.reduceEqDiff, reduceIte]
  -- the length
  refine Za (fun x => x.env.get 0 = .fsl 2 [v1, v2] ∧ x.env.get 3 = PV.i .i64 ((xs.length + ys.length : Nat) : Int)) ?_ ?_
  · simp only [↓Z0, ↓Xp, ↓Xt, Xq, Xc, binP, ofCells, Nat.reduceAdd, Nat.reduceMul, Nat.reduceLT, Nat.reduceEqDiff, reduceIte, hlen]
    refine Z9 (k := 2) (fun d x => x.env.get 0 = .fsl 2 [v1, v2] ∧ x.env.get 9 = .fsl 2 [v1, v2] ∧ x.env.get 10 = PV.i .i64 ((2 : Nat) : Int) ∧ ((d = 2 ∧ x.env.get 11 = PV.i .i64 ((0 : Nat) : Int) ∧ x.env.get 3 = PV.i .i64 ((0 : Nat) : Int)) ∨ (d = 1 ∧ x.env.get 11 = PV.i .i64 ((1 : Nat) : Int) ∧ x.env.get 3 = PV.i .i64 (xs.length : Int)) ∨ (d = 0 ∧ x.env.get 11 = PV.i .i64 ((2 : Nat) : Int) ∧ x.env.get 3 = PV.i .i64 ((xs.length + ys.length : Nat) : Int)))) ?_ ?_ (by omega)
    · rintro d ⟨env, ⟨sto, c⟩⟩ ⟨g0, g9, g10, h⟩
      simp only at g0 g9 g10 h
      rcases h with ⟨rfl, g11, g3⟩ | ⟨rfl, g11, g3⟩ | ⟨rfl, g11, g3⟩
      · simp only [↓Z0, ↓Xp, ↓Xt, Xq, Xc, binP, ofCells, Nat.reduceAdd, Nat.reduceMul, Nat.reduceLT, Nat.reduceEqDiff, reduceIte, g0, g9, g10, g11, g3, e02, hl2', p0, i0, hl1, hs1, n1, hw0]
        refine ⟨1, by omega, .inr (.inl ?_)⟩
        (repeat' (first | exact True.intro | rfl | assumption | omega | apply And.intro))
      · simp only [↓Z0, ↓Xp, ↓Xt, Xq, Xc, binP, ofCells, Nat.reduceAdd, Nat.reduceMul, Nat.reduceLT, Nat.reduceEqDiff, reduceIte, g0, g9, g10, g11, g3, e12, hl2', p1, i1, hl2, hs2, n2, hw1]
        refine ⟨0, by omega, .inr (.inr ?_)⟩
        (repeat' (first | exact True.intro | rfl | assumption | omega | apply And.intro))
      · simp only [↓Z0, ↓Xp, ↓Xt, Xq, Xc, binP, ofCells, Nat.reduceAdd, Nat.reduceMul, Nat.reduceLT, Nat.reduceEqDiff, reduceIte, g0, g9, g10, g11, g3, e22]
    · simp only [Env.get_put, Nat.reduceEqDiff, reduceIte]
      refine ⟨trivial, trivial, ?_, .inl ?_⟩
      · (repeat' (first | exact True.intro | rfl | assumption | omega | apply And.intro))
      · (repeat' (first | exact True.intro | rfl | assumption | omega | apply And.intro))
  rintro ⟨env, ⟨sto, c⟩⟩ ⟨g0, g3⟩
  simp only at g0 g3
  -- room for it
  have hg : ∀ (st : St) (key : Nat), callStep (runPure cfg (evFn cfg fuel) 48) false st key [.nsl, .i .i64 ((xs.length + ys.length : Nat) : Int)] = some (.rsl key 1 0 0, st.put key (some (.cells [] false))) := by
    intro st key
    refine call_nil (l' := []) rfl ?_
    rw [runPure_ext hx]
    unfold gGrow
    simp only []
    rw [if_neg (by omega), if_pos (by omega)]
    rfl
  refine Za (fun x => x.env.get 0 = .fsl 2 [v1, v2] ∧ ∃ k, x.env.get 6 = .rsl k 1 0 ([] : List UInt8).length ∧ x.st.get k = some (.cells (ofBytes []) false)) ?_ ?_
  · simp only [↓Z0, ↓Xp, ↓Xt, Xq, Xc, binP, ofCells, Nat.reduceAdd, Nat.reduceMul, Nat.reduceLT, Nat.reduceEqDiff, reduceIte, g0, g3, hg]
    exact ⟨c + 8, rfl, St.get_putk _ _ _⟩
  clear g0 g3
  rintro ⟨env, ⟨sto, c⟩⟩ ⟨g0, k0, g6, hk0⟩
  simp only at g0 g6 hk0
  refine Za (fun x => ∃ k, x.env.get 6 = .rsl k 1 0 (xs ++ ys).length ∧ x.st.get k = some (.cells (ofBytes (xs ++ ys)) false)) ?_ ?_
  · simp only [↓Z0, ↓Xp, ↓Xt, Xq, Xc, binP, ofCells, Nat.reduceAdd, Nat.reduceMul, Nat.reduceLT, Nat.reduceEqDiff, reduceIte, g0, hlen]
    refine Z9 (k := 2) (fun d x => x.env.get 25 = .fsl 2 [v1, v2] ∧ x.env.get 26 = PV.i .i64 ((2 : Nat) : Int) ∧ ((d = 2 ∧ x.env.get 27 = PV.i .i64 ((0 : Nat) : Int) ∧ ∃ k, x.env.get 6 = .rsl k 1 0 ([] : List UInt8).length ∧ x.st.get k = some (.cells (ofBytes []) false)) ∨ (d = 1 ∧ x.env.get 27 = PV.i .i64 ((1 : Nat) : Int) ∧ ∃ k, x.env.get 6 = .rsl k 1 0 xs.length ∧ x.st.get k = some (.cells (ofBytes xs) false)) ∨ (d = 0 ∧ x.env.get 27 = PV.i .i64 ((2 : Nat) : Int) ∧ ∃ k, x.env.get 6 = .rsl k 1 0 (xs ++ ys).length ∧ x.st.get k = some (.cells (ofBytes (xs ++ ys)) false)))) ?_ ?_ (by omega)
    · rintro d ⟨env, ⟨sto, c⟩⟩ ⟨g25, g26, h⟩
      simp only at g25 g26 h
      rcases h with ⟨rfl, g27, k, g6, hk⟩ | ⟨rfl, g27, k, g6, hk⟩ | ⟨rfl, g27, k, g6, hk⟩
      · obtain ⟨st', ha, hb, hc'⟩ := app_own (st := ⟨sto, c + 64⟩) (key := c + 48) (news := xs) hk (by unfold maxBytes; simp; omega)
        rw [List.nil_append] at ha hb
        simp only [List.length_nil] at ha
        simp only [↓Z0, ↓Xp, ↓Xt, Xq, Xc, binP, ofCells, Nat.reduceAdd, Nat.reduceMul, Nat.reduceLT, Nat.reduceEqDiff, reduceIte, g25, g26, g27, g6, e02, hl2', p0, i0, hc1, ho1, ha, hw0]
        exact ⟨1, by omega, .inr (.inl ⟨rfl, c + 48, rfl, hb⟩)⟩
      · obtain ⟨st', ha, hb, hc'⟩ := app_own (st := ⟨sto, c + 64⟩) (key := c + 48) (news := ys) hk (by unfold maxBytes; omega)
        simp only [↓Z0, ↓Xp, ↓Xt, Xq, Xc, binP, ofCells, Nat.reduceAdd, Nat.reduceMul, Nat.reduceLT, Nat.reduceEqDiff, reduceIte, g25, g26, g27, g6, e12, hl2', p1, i1, hc2, ho2, ha, hw1]
        exact ⟨0, by omega, .inr (.inr ⟨rfl, c + 48, rfl, hb⟩)⟩
      · simp only [↓Z0, ↓Xp, ↓Xt, Xq, Xc, binP, ofCells, Nat.reduceAdd, Nat.reduceMul, Nat.reduceLT, Nat.reduceEqDiff, reduceIte, g25, g26, g27, g6, e22]
        exact ⟨k, rfl, hk⟩
    · simp only [Env.get_put, Nat.reduceEqDiff, reduceIte]
      refine ⟨trivial, ?_, .inl ⟨?_, ?_, k0, g6, hk0⟩⟩
      · (repeat' (first | exact True.intro | rfl | assumption | omega | apply And.intro))
      · (repeat' (first | exact True.intro | rfl | assumption | omega | apply And.intro))
      · (repeat' (first | exact True.intro | rfl | assumption | omega | apply And.intro))
  rintro ⟨env, st1⟩ ⟨k, g6, hk⟩
  simp only at g6 hk
  simp only [↓Z0, ↓Xp, ↓Xt, Xq, Xc, binP, ofCells, Nat.reduceAdd, Nat.reduceMul, Nat.reduceLT, Nat.reduceEqDiff, reduceIte, g6]
  refine ⟨nofun, _, rfl, k, ?_, hk⟩
  simp only [tupV, ↓Z0, ↓Xp, ↓Xt, Xq, Xc, binP, ofCells, Nat.reduceAdd, Nat.reduceMul, Nat.reduceLT, Nat.reduceEqDiff, reduceIte]
def gConcat : List PV → Option PV
  | [.fsl 2 [v1, v2]] => match inL v1, inL v2 with
    | some xs, some ys => if 0 < xs.length + ys.length ∧ xs.length + ys.length ≤ 140737488355328 then some (.osl 1 (xs ++ ys).length (ofBytes (xs ++ ys))) else none
    | _, _ => none
  | _ => none
def extG : FuncId → Option (List PV → Option PV) := fun f => if f = 48 then some gGrow else none
noncomputable def cfgG : Cfg := { fn := fun f => lookT f tblL, ext := extG }
theorem concat_any (args : List PV) (r : PV) (h : gConcat args = some r) : ∃ fuel, evP cfgG fuel 41 args = some r := by
  unfold gConcat at h
  split at h
  · split at h
    · rename_i xs ys h1 h2
      split at h
      · rename_i hc
        simp only [Option.some.injEq] at h
        subst h
        obtain ⟨r, st', e1, k, e2, e3⟩ := concat_ev (cfg := cfgG) (by kernel_rfl) (by kernel_rfl) (fuel := 4) (by omega) (st := { sto := .leaf, cnt := 1 }) h1 h2 hc.1 hc.2
        exact ⟨4 + 1, evP_of (by kernel_rfl) rfl ⟨r, st', e1, by rw [e2]; exact close_bytes e3⟩⟩
      · simp at h
    · simp at h
  · simp at h
theorem deep_some {st : St} (f : Nat) {v : PV} (h : v.flat = true) : deep st (f + 1) v = some v := by
  unfold deep
  cases v <;> first | rfl | (simp [PV.flat] at h; done)
theorem deep_bytesF {st : St} {k : Nat} {fz : Bool} {m : List UInt8} (f : Nat) (hk : st.get k = some (.cells (ofBytes m) fz)) : deep st (f + 1 + 1) (.rsl k 1 0 m.length) = some (.fsl m.length (ofBytes m)) := by
  unfold deep
  simp only [hk, cut?, len_ofBytes, Nat.mul_one, Nat.zero_add, List.drop_zero]
  rw [if_pos (Nat.le_refl _), take_ofBytes, List.take_length]
  simp only []
  rw [deepO_ofBytes]
  rfl
theorem deep_pair {st : St} {k k2 : Nat} {v : PV} {l : List UInt8} (hk : st.get k = some (.cells [v, .rsl k2 1 0 l.length] false)) (hv : v.flat = true) (hk2 : st.get k2 = some (.cells (ofBytes l) false)) : deepL st [.rsl k 1 0 2] = some [.fsl 2 [v, .fsl l.length (ofBytes l)]] := by
  have e : deep st (11 + 1) (.rsl k 1 0 2) = some (.fsl 2 [v, .fsl l.length (ofBytes l)]) := by
    unfold deep
    simp only [hk, cut?]
    have e1 : deep st 11 v = some v := deep_some 10 hv
    have e2 : deep st 11 (.rsl k2 1 0 l.length) = some (.fsl l.length (ofBytes l)) := deep_bytesF 9 hk2
    rw [if_pos (by simp)]
    simp only [List.drop_zero, Nat.mul_one, List.take_succ_cons, List.take_zero, mapO, e1, e2]
    rfl
  show mapO (deep st (11 + 1)) [.rsl k 1 0 2] = _
  simp only [mapO, e]
theorem call_deep {g : List PV → Option PV} {st : St} {key : Nat} {ps ps' : List PV} {l' : List UInt8} (hd : deepL st ps = some ps') (hg : g ps' = some (.osl 1 l'.length (ofBytes l'))) :
    callStep g false st key ps = some (.rsl key 1 0 l'.length, st.put key (some (.cells (ofBytes l') false))) := by
  unfold callStep
  simp only [hd, hg, closed_osl, if_true, recvRes]
theorem call_deepb {g : List PV → Option PV} {st : St} {key : Nat} {ps ps' : List PV} {r : PV} (hd : deepL st ps = some ps') (hg : g ps' = some r) (hc : r.closedB = true) (hr : recvRes st key r = some (r, st)) : callStep g false st key ps = some (r, st) := by
  unfold callStep
  simp only [hd, hg, hc, if_true, hr]
def be4 (s : Nat) : List UInt8 := [UInt8.ofNat (s / 16777216), UInt8.ofNat (s / 65536), UInt8.ofNat (s / 256), UInt8.ofNat s]
def sealB (l : List UInt8) : List UInt8 := l ++ be4 (crc l)
theorem in_flat {v : PV} {l : List UInt8} (h : inL v = some l) : v.flat = true := by
  unfold inL at h
  split at h
  · rfl
  · rfl
  · simp at h
theorem in_one {v : PV} {l : List UInt8} (h : inL v = some l) : v.one = true ∧ v.cells = [v] := by
  unfold inL at h
  split at h
  · exact ⟨rfl, rfl⟩
  · exact ⟨rfl, rfl⟩
  · simp at h
set_option maxHeartbeats 4000000 in
theorem seal_ev {cfg : Cfg} (hf : cfg.fn 17 = some m17) (hx1 : cfg.ext 16 = some gCrc) (hx2 : cfg.ext 41 = some gConcat) {fuel : Nat} {st : St} {v : PV} {l : List UInt8} (hv : inL v = some l) (hl : l.length + 4 ≤ 140737488355328) :
    ∃ r st', evFn cfg (fuel + 1) 17 [v] st = some (r, st') ∧ ∃ k, r = .rsl k 1 0 (sealB l).length ∧ st'.get k = some (.cells (ofBytes (sealB l)) false) := by
  refine evFn_W hf ?_
  unfold m17
  have hcl := crc_lt l
  have c1 : ∀ (st : St) (key : Nat), callStep (runPure cfg (evFn cfg fuel) 16) false st key [v] = some (.i .u32 ((crc l : Nat) : Int), st) := by
    intro st key
    refine callStep_flat (by simp only [List.all_cons, in_flat hv, List.all_nil, Bool.and_self]) ?_ rfl
    rw [runPure_ext hx1]
    unfold gCrc
    simp only [hv]
    rw [if_pos (by omega)]
  unfold sealB
  generalize crc l = s at *
  have h24 : ¬ (Int.ofNat 24 < 0) := by decide
  have h16 : ¬ (Int.ofNat 16 < 0) := by decide
  have h8 : ¬ (Int.ofNat 8 < 0) := by decide
  have s24 : (s : Int).fdiv (2 ^ (min (Int.ofNat 24).toNat IntKind.u32.bits)) = ((s / 16777216 : Nat) : Int) := shr_nat s 24 (by omega)
  have s16 : (s : Int).fdiv (2 ^ (min (Int.ofNat 16).toNat IntKind.u32.bits)) = ((s / 65536 : Nat) : Int) := shr_nat s 16 (by omega)
  have s8 : (s : Int).fdiv (2 ^ (min (Int.ofNat 8).toNat IntKind.u32.bits)) = ((s / 256 : Nat) : Int) := shr_nat s 8 (by omega)
  have w8 : ∀ n : Nat, IntKind.u8.wrap (n : Int) = ((UInt8.ofNat n).toNat : Int) := by
    intro n
    rw [IntKind.wrap_u8, UInt8.toNat_ofNat']
    omega
  have hb4 : ([PV.i .u8 ((UInt8.ofNat (s / 16777216)).toNat : Int), .i .u8 ((UInt8.ofNat (s / 65536)).toNat : Int), .i .u8 ((UInt8.ofNat (s / 256)).toNat : Int), .i .u8 ((UInt8.ofNat s).toNat : Int)] : List PV) = ofBytes (be4 s) := rfl
  obtain ⟨hv1, hv2⟩ := in_one hv
  simp only [putArgs, ↓Z0, ↓Xp, ↓Xt, Xq, Xc, binP, ofCells, Nat.reduceAdd, Nat.reduceMul, Nat.reduceLT, Nat.reduceEqDiff, reduceIte, Xm, Nat.reduceLeDiff, c1, h24, h16, h8, s24, s16, s8, w8, hb4, hv1, hv2]
  refine ⟨by rw [len_ofBytes]; rfl, ?_⟩
  have hd : deepL ((({ sto := st.sto, cnt := st.cnt + 160 } : St).put (st.cnt + 128) (some (.cells (ofBytes (be4 s)) false))).put (st.cnt + 136) (some (.cells [v, .rsl (st.cnt + 128) 1 0 4] false))) [.rsl (st.cnt + 136) 1 0 2] = some [.fsl 2 [v, .fsl 4 (ofBytes (be4 s))]] := deep_pair (St.get_putk _ _ _) (in_flat hv) (l := be4 s) (by rw [St.get_put_ne (by omega), St.get_putk])
  have hg : runPure cfg (evFn cfg fuel) 41 [.fsl 2 [v, .fsl 4 (ofBytes (be4 s))]] = some (.osl 1 (l ++ be4 s).length (ofBytes (l ++ be4 s))) := by
    rw [runPure_ext hx2]
    unfold gConcat
    have h4 : inL (.fsl 4 (ofBytes (be4 s))) = some (be4 s) := in_fsl (be4 s)
    simp only [hv, h4]
    rw [if_pos ⟨by show 0 < l.length + 4; omega, by show l.length + 4 ≤ _; omega⟩]
  rw [call_deep hd hg]
  simp only [Zx]
  refine ⟨nofun, _, rfl, st.cnt + 144, ?_, St.get_putk _ _ _⟩
  simp only [tupV, ↓Z0, ↓Xp, ↓Xt, Xq, Xc, binP, ofCells, Nat.reduceAdd, Nat.reduceMul, Nat.reduceLT, Nat.reduceEqDiff, reduceIte]
def gSeal : List PV → Option PV
  | [v] => match inL v with
    | some l => if l.length + 4 ≤ 140737488355328 then some (.osl 1 (sealB l).length (ofBytes (sealB l))) else none
    | none => none
  | _ => none
end Go.Pe
