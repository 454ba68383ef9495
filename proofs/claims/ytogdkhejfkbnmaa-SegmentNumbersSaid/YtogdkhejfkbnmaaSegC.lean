/-
  Segments: heads made and read, by the interpreter of plain data. No condition.
-/
import Derived.Test.YtogdkhejfkbnmaaSegB
set_option linter.unusedVariables false
set_option linter.unusedSimpArgs false
namespace Go.Pe
open Go Go.Am Go.RowKit

def headB (first : Nat) : List UInt8 := sealB (ams1 ++ varint first)
def headV (first : Int) : PV := if first < 0 ∨ 4611686018427387904 < first then .tup [.nsl, .i .i64 2] else .tup [.osl 1 (headB first.toNat).length (ofBytes (headB first.toNat)), .i .i64 0]
set_option maxHeartbeats 4000000 in
set_option maxRecDepth 100000 in
theorem headmk_ev {cfg : Cfg} (hf : cfg.fn 11 = some m11) (hx1 : cfg.ext 34 = some gUint) (hx3 : cfg.ext 31 = some gSeal) {first : Int} {fuel : Nat} :
    ∃ r st', evFn cfg (fuel + 1) 11 [.i .i64 first] { sto := .leaf, cnt := 1 } = some (r, st') ∧ closeRes st' r = some (headV first) := by
  refine evFn_W hf ?_
  unfold m11
  by_cases h1 : first < 0 ∨ 4611686018427387904 < first
  · have hp : headV first = .tup [.nsl, .i .i64 2] := by unfold headV; rw [if_pos h1]
    rw [hp]
    by_cases ha : first < 0
    · simp (disch := first | omega | rfl | assumption) only [putArgs, ↓Z0, ↓Xp, ↓Xt, Xq, Xc, binP, ofCells, Nat.reduceAdd, Nat.reduceMul, Nat.reduceLT, Nat.reduceEqDiff, reduceIte, Xm, Nat.reduceLeDiff, Xa, Xn]
      refine ⟨nofun, _, rfl, ?_⟩
      simp only [tupV, ↓Z0, ↓Xp, ↓Xt, Xq, Xc, binP, ofCells, Nat.reduceAdd, Nat.reduceMul, Nat.reduceLT, Nat.reduceEqDiff, reduceIte]
      exact closeRes_tup rfl
    have hb : 4611686018427387904 < first := by rcases h1 with h | h; exact absurd h ha; exact h
    simp (disch := first | omega | rfl | assumption) only [putArgs, ↓Z0, ↓Xp, ↓Xt, Xq, Xc, binP, ofCells, Nat.reduceAdd, Nat.reduceMul, Nat.reduceLT, Nat.reduceEqDiff, reduceIte, Xm, Nat.reduceLeDiff, Xa, Xn]
    refine ⟨nofun, _, rfl, ?_⟩
    simp only [tupV, ↓Z0, ↓Xp, ↓Xt, Xq, Xc, binP, ofCells, Nat.reduceAdd, Nat.reduceMul, Nat.reduceLT, Nat.reduceEqDiff, reduceIte]
    exact closeRes_tup rfl
  have hp : headV first = .tup [.osl 1 (headB first.toNat).length (ofBytes (headB first.toNat)), .i .i64 0] := by unfold headV; rw [if_neg h1]
  rw [hp]
  clear hp
  obtain ⟨p, rfl⟩ : ∃ n : Nat, first = (n : Int) := ⟨first.toNat, by omega⟩
  rw [Int.toNat_natCast]
  have hvl := varint_le p
  have hb4 : fillP [.i .u8 (Int.ofNat 0), .i .u8 (Int.ofNat 0), .i .u8 (Int.ofNat 0), .i .u8 (Int.ofNat 0)] [(0, 1, .i .u8 (Int.ofNat 65)), (1, 1, .i .u8 (Int.ofNat 77)), (2, 1, .i .u8 (Int.ofNat 83)), (3, 1, .i .u8 (Int.ofNat 49))] = some (ofBytes ams1) := rfl
  have wp : IntKind.u64.wrap (p : Int) = (p : Int) := wr_u64 _ ⟨by omega, by omega⟩
  have hb4l : (ofBytes ams1).length = 4 := rfl
  refine Za (fun x => x.env.get 0 = .i .i64 (p : Int)) ?_ ?_
  · simp (disch := first | omega | rfl | assumption) only [putArgs, ↓Z0, ↓Xp, ↓Xt, Xq, Xc, binP, ofCells, Nat.reduceAdd, Nat.reduceMul, Nat.reduceLT, Nat.reduceEqDiff, reduceIte]
  rintro ⟨env, ⟨sto, c⟩⟩ g0
  simp only at g0
  refine Za (fun x => x.env.get 0 = .i .i64 (p : Int)) ?_ ?_
  · simp (disch := first | omega | rfl | assumption) only [↓Z0, ↓Xp, ↓Xt, Xq, Xc, binP, ofCells, Nat.reduceAdd, Nat.reduceMul, Nat.reduceLT, Nat.reduceEqDiff, reduceIte, Xa, Xn, g0]
  clear g0
  rintro ⟨env, ⟨sto, c⟩⟩ g0
  simp only at g0
  simp (disch := first | omega | rfl | assumption) only [↓Z0, ↓Xp, ↓Xt, Xq, Xc, binP, ofCells, Nat.reduceAdd, Nat.reduceMul, Nat.reduceLT, Nat.reduceEqDiff, reduceIte, g0, hb4, Z0H_, wp, hb4l, Nat.mul_one]
  refine WV_uintO hx1 (L := ams1) (St.get_putk _ _ _) (by decide) (by omega) ?_
  intro st1 k1 c1 f1
  refine WV_callB (L := headB p) (deep_1 (deep_b (fz := false) k1)) ?_ (by simp only [Z0L_, Z0M_] at c1; omega) ?_
  · rw [runPure_ext hx3]
    unfold gSeal
    simp only [in_fsl]
    rw [if_pos (by rw [List.length_append]; show 4 + _ + 4 ≤ _; omega)]
    rfl
  intro st2 o2 k2 c2 f2
  refine ⟨nofun, _, rfl, ?_⟩
  simp only [tupV, ↓Z0, ↓Xp, ↓Xt, Xq, Xc, binP, ofCells, Nat.reduceAdd, Nat.reduceMul, Nat.reduceLT, Nat.reduceEqDiff, reduceIte]
  exact close_tupO (pre := []) (post := [.i .i64 0]) o2 rfl rfl (clO_bytes _) (by decide)
def gPre : List PV → Option PV
  | [.s a, .s p] => some (.b (a.take p.length == p))
  | _ => none
theorem pre1_any (args : List PV) (r : PV) (h : gPre args = some r) : ∃ fuel, evP cfgE0 fuel 73 args = some r := by
  unfold gPre at h
  split at h
  · rename_i a p
    simp only [Option.some.injEq] at h
    subst h
    refine ⟨0 + 1, ev_flat (by kernel_rfl) rfl (fun _ => rfl) (evFn_W (by kernel_rfl : cfgE0.fn 73 = some m73) ?_)⟩
    unfold m73
    by_cases hl : p.length ≤ a.length
    · have hb : bound (some (.i .i64 (p.length : Int))) a.length a.length = some p.length := by
        rw [bound_ok ⟨by omega, by omega⟩, Int.toNat_natCast]
      simp (disch := first | omega | rfl | assumption) only [putArgs, ↓Z0, ↓Xp, ↓Xt, Xq, Xc, binP, ofCells, Nat.reduceAdd, Nat.reduceMul, Nat.reduceLT, Nat.reduceEqDiff, reduceIte, Xm, Nat.reduceLeDiff, Xa, Xn, hb, Option.map_some, Nat.sub_zero, Z0B_]
      refine ⟨nofun, _, rfl, ?_⟩
      simp only [tupV, ↓Z0, ↓Xp, ↓Xt, Xq, Xc, binP, ofCells, Nat.reduceAdd, Nat.reduceMul, Nat.reduceLT, Nat.reduceEqDiff, reduceIte, List.drop_zero]
    · have hb : (a.take p.length == p) = false := by
        rw [beq_eq_false_iff_ne]
        intro e
        have := congrArg List.length e
        rw [List.length_take] at this
        omega
      simp (disch := first | omega | rfl | assumption) only [putArgs, ↓Z0, ↓Xp, ↓Xt, Xq, Xc, binP, ofCells, Nat.reduceAdd, Nat.reduceMul, Nat.reduceLT, Nat.reduceEqDiff, reduceIte, Xm, Nat.reduceLeDiff, Xa, Xn]
      refine ⟨nofun, _, rfl, ?_⟩
      simp only [tupV, ↓Z0, ↓Xp, ↓Xt, Xq, Xc, binP, ofCells, Nat.reduceAdd, Nat.reduceMul, Nat.reduceLT, Nat.reduceEqDiff, reduceIte, hb]
  · simp at h
def extS0 : FuncId → Option (List PV → Option PV) := fun f => if f = 73 then some gPre else none
noncomputable def cfgS0 : Cfg := { fn := fun f => lookT f tblL, ext := extS0 }
theorem cfgS0_ok {Gl : Gmap} : CfgOK Go.Proofs.Try.prog Gl cfgS0 := by
  refine cfg_okt tbl_all ?_
  intro f g h
  unfold extS0 at h
  split at h
  · rename_i e; simp only [Option.some.injEq] at h; subst h; subst e
    exact pure_of cfgE0_ok pre1_any
  · simp at h
theorem pre_any (args : List PV) (r : PV) (h : gPre args = some r) : ∃ fuel, evP cfgS0 fuel 44 args = some r := by
  unfold gPre at h
  split at h
  · rename_i a p
    simp only [Option.some.injEq] at h
    subst h
    refine ⟨0 + 1, ev_flat (by kernel_rfl) rfl (fun _ => rfl) (evFn_W (by kernel_rfl : cfgS0.fn 44 = some m44) ?_)⟩
    unfold m44
    have hc : ∀ (st : St) key, callStep (runPure cfgS0 (evFn cfgS0 0) 73) false st key [.s a, .s p] = some (.b (a.take p.length == p), st) := by
      intro st key
      refine callStep_flat rfl ?_ rfl
      rw [runPure_ext (by kernel_rfl : cfgS0.ext 73 = some gPre)]; rfl
    simp (disch := first | omega | rfl | assumption) only [putArgs, ↓Z0, ↓Xp, ↓Xt, Xq, Xc, binP, ofCells, Nat.reduceAdd, Nat.reduceMul, Nat.reduceLT, Nat.reduceEqDiff, reduceIte, hc]
    refine ⟨nofun, _, rfl, ?_⟩
    simp only [tupV, ↓Z0, ↓Xp, ↓Xt, Xq, Xc, binP, ofCells, Nat.reduceAdd, Nat.reduceMul, Nat.reduceLT, Nat.reduceEqDiff, reduceIte]
  · simp at h
def headR (b : List UInt8) : Nat × Int × Int :=
  if (ams1.take (b.take 4).length == b.take 4) = false then (0, 0, 10)
  else if b.length < 4 then (0, 0, 11)
  else if (getU b 4).2.2 = 0 ∧ 4611686018427387904 < (getU b 4).1 then (0, 0, 10)
  else if (getU b 4).2.2 ≠ 0 then (0, 0, (getU b 4).2.2)
  else if (b.length : Int) < (getU b 4).2.1 + 4 then (0, 0, 11)
  else if sealB (b.take (getU b 4).2.1.toNat) = b.take ((getU b 4).2.1.toNat + 4) then ((getU b 4).1, (getU b 4).2.1 + 4, 0) else (0, 0, 12)
def headT (p : Nat × Int × Int) : PV := .tup [.i .i64 (p.1 : Int), .i .i64 p.2.1, .i .i64 p.2.2]
set_option maxHeartbeats 8000000 in
set_option maxRecDepth 100000 in
theorem head_ev {cfg : Cfg} (hf : cfg.fn 37 = some m37) (hx1 : cfg.ext 44 = some gPre) (hx2 : cfg.ext 45 = some gGetU) (hx3 : cfg.ext 43 = some gUnseal) {v : PV} {l : List UInt8} (hv : inL v = some l) (hl : l.length ≤ 140737488355000) {fuel : Nat} :
    ∃ r st', evFn cfg (fuel + 1) 37 [v] { sto := .leaf, cnt := 1 } = some (r, st') ∧ r = headT (headR l) := by
  refine evFn_W hf ?_
  unfold m37
  have hlv := in_len hv
  obtain ⟨K, hK⟩ : ∃ K, (l.take 4) = K := ⟨_, rfl⟩
  obtain ⟨k4, hk4⟩ : ∃ k, min l.length 4 = k := ⟨_, rfl⟩
  have hKl : K.length = k4 := by rw [← hK, List.length_take]; omega
  have hKt : l.take k4 = K := by
    rw [← hK]
    rcases Nat.lt_or_ge l.length 4 with h | h
    · rw [show k4 = l.length by omega, List.take_length, List.take_of_length_le (by omega)]
    · rw [show k4 = 4 by omega]
  obtain ⟨w, hsl, hw⟩ := upto_any hv (a := k4) (by omega)
  rw [hKt] at hw
  have hlw := in_len hw
  rw [hKl] at hlw
  have hmin : minP (.i .i64 (l.length : Int)) [.i .i64 (Int.ofNat 4)] = some (.i .i64 (k4 : Int)) := by
    unfold minP
    rw [if_pos rfl]
    unfold minP
    congr 2
    show (if (4 : Int) < (l.length : Int) then (4 : Int) else (l.length : Int)) = _
    split <;> omega
  have cp : ∀ (st : St) key, callStep (runPure cfg (evFn cfg fuel) 44) false st key [.s ams1, .s K] = some (.b (ams1.take K.length == K), st) := by
    intro st key
    refine callStep_flat rfl ?_ rfl
    rw [runPure_ext hx1]; rfl
  have cu : ∀ (st : St) (key : Nat) (a : Int), callStep (runPure cfg (evFn cfg fuel) 45) false st key [v, .i .i64 a] = some (.tup [.i .u64 ((getU l a).1 : Int), .i .i64 (getU l a).2.1, .i .i64 (getU l a).2.2], st) := by
    intro st key a
    refine callStep_flat (by simp only [List.all_cons, in_flat hv, List.all_nil, Bool.and_self, Bool.true_and]; rfl) ?_ rfl
    rw [runPure_ext hx2]
    unfold gGetU
    simp only [hv]
    rw [if_pos (by omega)]
    rfl
  have hcw := fun st => cells_in (st := st) hw
  have hbK := bytesOf_of K
  have hams : ([65, 77, 83, 49] : List UInt8) = ams1 := rfl
  refine Za (fun x => x.env.get 0 = v) ?_ ?_
  · simp (disch := first | omega | rfl | assumption) only [↓Z0, ↓Xp, ↓Xt, Xq, Xc, binP, ofCells, Nat.reduceAdd, Nat.reduceMul, Nat.reduceLT, Nat.reduceEqDiff, reduceIte, Xm, Nat.reduceLeDiff, Xa, Xn, putArgs]
    (repeat' (first | exact True.intro | rfl | assumption | omega | apply And.intro | exact St.get_putk _ _ _ | refine ⟨_, rfl, ?_⟩))
  rintro ⟨env, ⟨sto, c⟩⟩ g0
  simp only at g0
  refine Za (fun x => x.env.get 0 = v ∧ x.env.get 5 = w) ?_ ?_
  · simp only [↓Z0, ↓Xp, ↓Xt, Xq, Xc, binP, ofCells, Nat.reduceAdd, Nat.reduceMul, Nat.reduceLT, Nat.reduceEqDiff, reduceIte, Xm, Nat.reduceLeDiff, g0, hlv, hmin, hsl]
    (repeat' (first | exact True.intro | rfl | assumption | omega | apply And.intro | exact St.get_putk _ _ _ | refine ⟨_, rfl, ?_⟩))
  clear g0
  rintro ⟨env, ⟨sto, c⟩⟩ ⟨g0, g5⟩
  simp only at g0 g5
  unfold headR
  rw [hK]
  by_cases h1 : (ams1.take K.length == K) = false
  · rw [if_pos h1]
    simp only [h1] at cp
    simp only [↓Z0, ↓Xp, ↓Xt, Xq, Xc, binP, ofCells, Nat.reduceAdd, Nat.reduceMul, Nat.reduceLT, Nat.reduceEqDiff, reduceIte, g0, g5, hcw, hbK, hams, cp, unP]
    refine ⟨nofun, _, rfl, ?_⟩
    simp only [tupV, ↓Z0, ↓Xp, ↓Xt, Xq, Xc, binP, ofCells, Nat.reduceAdd, Nat.reduceMul, Nat.reduceLT, Nat.reduceEqDiff, reduceIte]
    rfl
  have h1' : (ams1.take K.length == K) = true := by simpa using h1
  rw [if_neg h1]
  simp only [h1'] at cp
  refine Za (fun x => x.env.get 0 = v ∧ x.env.get 5 = w) ?_ ?_
  · simp only [↓Z0, ↓Xp, ↓Xt, Xq, Xc, binP, ofCells, Nat.reduceAdd, Nat.reduceMul, Nat.reduceLT, Nat.reduceEqDiff, reduceIte, Xm, Nat.reduceLeDiff, g0, g5, hcw, hbK, hams, cp, unP]
    (repeat' (first | exact True.intro | rfl | assumption | omega | apply And.intro | exact St.get_putk _ _ _ | refine ⟨_, rfl, ?_⟩))
  clear g0 g5
  rintro ⟨env, ⟨sto, c⟩⟩ ⟨g0, g5⟩
  simp only at g0 g5
  by_cases h2 : l.length < 4
  · rw [if_pos h2]
    simp (disch := first | omega | rfl | assumption) only [↓Z0, ↓Xp, ↓Xt, Xq, Xc, binP, ofCells, Nat.reduceAdd, Nat.reduceMul, Nat.reduceLT, Nat.reduceEqDiff, reduceIte, Xm, Nat.reduceLeDiff, Xa, Xn, g0, g5, hlw, cu]
    refine ⟨nofun, _, rfl, ?_⟩
    simp only [tupV, ↓Z0, ↓Xp, ↓Xt, Xq, Xc, binP, ofCells, Nat.reduceAdd, Nat.reduceMul, Nat.reduceLT, Nat.reduceEqDiff, reduceIte]
    rfl
  rw [if_neg h2]
  have hk : k4 = 4 := by omega
  subst hk
  obtain ⟨p, hp⟩ : ∃ p, getU l 4 = p := ⟨_, rfl⟩
  have hp' : getU l ((4 : Nat) : Int) = p := hp
  have hok := @getU_ok l 4
  have hlt := getU_lt l 4
  have cu4 := fun st key => cu st key ((4 : Nat) : Int)
  simp only [hp'] at cu4
  simp only [hp] at hok hlt ⊢
  obtain ⟨n, nx, e⟩ := p
  simp only at hok hlt cu4 ⊢
  clear cu hp hp'
  refine Za (fun x => x.env.get 0 = v ∧ x.env.get 5 = w ∧ x.env.get 6 = .i .u64 (n : Int) ∧ x.env.get 7 = .i .i64 nx ∧ x.env.get 8 = .i .i64 e) ?_ ?_
  · simp (disch := first | omega | rfl | assumption) only [↓Z0, ↓Xp, ↓Xt, Xq, Xc, binP, ofCells, Nat.reduceAdd, Nat.reduceMul, Nat.reduceLT, Nat.reduceEqDiff, reduceIte, Xm, Nat.reduceLeDiff, Xa, Xn, g0, g5, hlw, cu4]
    (repeat' (first | exact True.intro | rfl | assumption | omega | apply And.intro | exact St.get_putk _ _ _ | refine ⟨_, rfl, ?_⟩))
  clear g0 g5
  rintro ⟨env, ⟨sto, c⟩⟩ ⟨g0, g5, g6, g7, g8⟩
  simp only at g0 g5 g6 g7 g8
  by_cases h3 : e = 0 ∧ 4611686018427387904 < n
  · rw [if_pos h3]
    simp (disch := first | omega | rfl | assumption) only [↓Z0, ↓Xp, ↓Xt, Xq, Xc, binP, ofCells, Nat.reduceAdd, Nat.reduceMul, Nat.reduceLT, Nat.reduceEqDiff, reduceIte, Xa, Xn, g0, g5, g6, g7, g8, hlw]
    refine ⟨nofun, _, rfl, ?_⟩
    simp only [tupV, ↓Z0, ↓Xp, ↓Xt, Xq, Xc, binP, ofCells, Nat.reduceAdd, Nat.reduceMul, Nat.reduceLT, Nat.reduceEqDiff, reduceIte]
    rfl
  rw [if_neg h3]
  by_cases h4 : e ≠ 0
  · rw [if_pos h4]
    simp (disch := first | omega | rfl | assumption) only [↓Z0, ↓Xp, ↓Xt, Xq, Xc, binP, ofCells, Nat.reduceAdd, Nat.reduceMul, Nat.reduceLT, Nat.reduceEqDiff, reduceIte, Xa, Xn, g0, g5, g6, g7, g8, hlw]
    refine ⟨nofun, _, rfl, ?_⟩
    simp only [tupV, ↓Z0, ↓Xp, ↓Xt, Xq, Xc, binP, ofCells, Nat.reduceAdd, Nat.reduceMul, Nat.reduceLT, Nat.reduceEqDiff, reduceIte]
    rfl
  rw [if_neg h4]
  obtain ⟨_, _, _, _, q1, q2⟩ := hok (by omega)
  obtain ⟨y, rfl⟩ : ∃ y : Nat, nx = y := ⟨nx.toNat, by omega⟩
  have hx4 : ((y : Int) + 4) = ((y + 4 : Nat) : Int) := rfl
  by_cases h5 : (l.length : Int) < (y : Int) + 4
  · rw [if_pos h5]
    by_cases he : n ≤ 4611686018427387904
    · simp (disch := first | omega | rfl | assumption) only [↓Z0, ↓Xp, ↓Xt, Xq, Xc, binP, ofCells, Nat.reduceAdd, Nat.reduceMul, Nat.reduceLT, Nat.reduceEqDiff, reduceIte, Xa, Xn, g0, g5, g6, g7, g8, hlw, hlv]
      refine ⟨nofun, _, rfl, ?_⟩
      simp only [tupV, ↓Z0, ↓Xp, ↓Xt, Xq, Xc, binP, ofCells, Nat.reduceAdd, Nat.reduceMul, Nat.reduceLT, Nat.reduceEqDiff, reduceIte]
      rfl
    · exact absurd ⟨by omega, by omega⟩ h3
  rw [if_neg h5]
  have hn : n ≤ 4611686018427387904 := by omega
  have he0 : e = 0 := by omega
  subst he0
  refine Za (fun x => x.env.get 0 = v ∧ x.env.get 5 = w ∧ x.env.get 6 = .i .u64 (n : Int) ∧ x.env.get 7 = .i .i64 (y : Int) ∧ x.env.get 8 = .i .i64 0) ?_ ?_
  · simp (disch := first | omega | rfl | assumption) only [↓Z0, ↓Xp, ↓Xt, Xq, Xc, binP, ofCells, Nat.reduceAdd, Nat.reduceMul, Nat.reduceLT, Nat.reduceEqDiff, reduceIte, Xm, Nat.reduceLeDiff, Xa, Xn, g0, g5, g6, g7, g8, hlw, hlv]
    (repeat' (first | exact True.intro | rfl | assumption | omega | apply And.intro | exact St.get_putk _ _ _ | refine ⟨_, rfl, ?_⟩))
  clear g0 g5 g6 g7 g8
  rintro ⟨env, ⟨sto, c⟩⟩ ⟨g0, g5, g6, g7, g8⟩
  simp only at g0 g5 g6 g7 g8
  rw [Int.toNat_natCast]
  obtain ⟨B, hB⟩ : ∃ B, l.take (y + 4) = B := ⟨_, rfl⟩
  have hBl : B.length = y + 4 := by rw [← hB, List.length_take]; omega
  obtain ⟨u, hu, hui⟩ := upto_any hv (a := y + 4) (by omega)
  rw [hB] at hui ⊢
  have hBt : B.take (B.length - 4) = l.take y := by rw [hBl, ← hB, List.take_take]; congr 1; omega
  have gU : runPure cfg (evFn cfg fuel) 43 [u] = some (unsealV B) := by
    rw [runPure_ext hx3]
    unfold gUnseal
    simp only [hui]
    rw [if_pos (by omega)]
  have eU : unsealV B = if sealB (l.take y) = B then .tup [outV (l.take y), .i .i64 0] else .tup [.nsl, .i .i64 12] := by
    unfold unsealV
    rw [if_neg (by omega), hBt]
  have hdu : ∀ st, deepL st [u] = some [u] := fun st => deepL_flat (by simp only [List.all_cons, in_flat hui, List.all_nil, Bool.and_self])
  by_cases h6 : sealB (l.take y) = B
  · rw [if_pos h6] at eU ⊢
    rw [eU] at gU
    refine Za (fun x' => x'.env.get 6 = .i .u64 (n : Int) ∧ x'.env.get 7 = .i .i64 (y : Int)) ?_ ?_
    · rw [Z0]
      simp (disch := first | omega | rfl | assumption) only [↓Xp, ↓Xt, Xq, Xc, binP, ofCells, Nat.reduceAdd, Nat.reduceMul, Nat.reduceLT, Nat.reduceEqDiff, reduceIte, Xa, Xn, g0, g5, g6, g7, g8, hu]
      rw [callStep_gen (hdu _) gU (closed_unseal _ 0)]
      obtain ⟨w', st', hr, hd⟩ := recv_unseal ⟨sto, c + 80⟩ (c + 32) (l.take y) 0
      rw [hr]
      simp (disch := first | omega | rfl | assumption) only [↓Z0, ↓Xp, ↓Xt, Xq, Xc, binP, ofCells, Nat.reduceAdd, Nat.reduceMul, Nat.reduceLT, Nat.reduceEqDiff, reduceIte, Xm, Nat.reduceLeDiff, Xa, Xn, g0, g5, g6, g7, g8]
      (repeat' (first | exact True.intro | rfl | assumption | omega | apply And.intro))
    clear g0 g5 g6 g7 g8
    rintro ⟨env, ⟨sto, c⟩⟩ ⟨g6, g7⟩
    simp only at g6 g7
    simp (disch := first | omega | rfl | assumption) only [↓Z0, ↓Xp, ↓Xt, Xq, Xc, binP, ofCells, Nat.reduceAdd, Nat.reduceMul, Nat.reduceLT, Nat.reduceEqDiff, reduceIte, Xa, Xn, g6, g7]
    refine ⟨nofun, _, rfl, ?_⟩
    simp only [tupV, ↓Z0, ↓Xp, ↓Xt, Xq, Xc, binP, ofCells, Nat.reduceAdd, Nat.reduceMul, Nat.reduceLT, Nat.reduceEqDiff, reduceIte]
    rfl
  · rw [if_neg h6] at eU ⊢
    rw [eU] at gU
    have c2 : ∀ (st : St) (key : Nat), callStep (runPure cfg (evFn cfg fuel) 43) false st key [u] = some (.tup [.nsl, .i .i64 12], st) := fun st key => callStep_gen (hdu _) gU rfl
    simp (disch := first | omega | rfl | assumption) only [↓Z0, ↓Xp, ↓Xt, Xq, Xc, binP, ofCells, Nat.reduceAdd, Nat.reduceMul, Nat.reduceLT, Nat.reduceEqDiff, reduceIte, Xm, Nat.reduceLeDiff, Xa, Xn, g0, g5, g6, g7, g8, hu, c2]
    refine ⟨nofun, _, rfl, ?_⟩
    simp only [tupV, ↓Z0, ↓Xp, ↓Xt, Xq, Xc, binP, ofCells, Nat.reduceAdd, Nat.reduceMul, Nat.reduceLT, Nat.reduceEqDiff, reduceIte]
    rfl
theorem headR_ok {b : List UInt8} (h : (headR b).2.2 = 0) : ∃ p : Nat, (headR b).2.1 = p ∧ p ≤ b.length := by
  have hok := @getU_ok b 4
  unfold headR at h ⊢
  by_cases h1 : (ams1.take (b.take 4).length == b.take 4) = false
  · rw [if_pos h1] at h; simp at h
  rw [if_neg h1] at h ⊢
  by_cases h2 : b.length < 4
  · rw [if_pos h2] at h; simp at h
  rw [if_neg h2] at h ⊢
  by_cases h3 : (getU b 4).2.2 = 0 ∧ 4611686018427387904 < (getU b 4).1
  · rw [if_pos h3] at h; simp at h
  rw [if_neg h3] at h ⊢
  by_cases h4 : (getU b 4).2.2 ≠ 0
  · rw [if_pos h4] at h; exact absurd h h4
  rw [if_neg h4] at h ⊢
  obtain ⟨_, _, _, _, q1, q2⟩ := hok (by omega)
  by_cases h5 : (b.length : Int) < (getU b 4).2.1 + 4
  · rw [if_pos h5] at h; simp at h
  rw [if_neg h5] at h ⊢
  by_cases h6 : sealB (b.take (getU b 4).2.1.toNat) = b.take ((getU b 4).2.1.toNat + 4)
  · rw [if_pos h6]
    refine ⟨((getU b 4).2.1 + 4).toNat, ?_, by omega⟩
    show (getU b 4).2.1 + 4 = _
    omega
  · rw [if_neg h6] at h; simp at h
def gHead : List PV → Option PV
  | [v] => match inL v with
    | some l => if l.length ≤ 140737488355000 then some (headT (headR l)) else none
    | none => none
  | _ => none
end Go.Pe
