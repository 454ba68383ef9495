/-
  Clone, Equal, Unseal, by the interpreter of plain data. No condition.
-/
import Derived.Test.YtmjoneiagfegdaaEvtV
set_option linter.unusedVariables false
set_option linter.unusedSimpArgs false
namespace Go.Proofs.Ytmjoneiagfegdaa
open Go.RowKit Go.Am

theorem clone_zero (ao : Option Addr) (cap : Nat) (hm : cap ≤ maxLen) (w : World) :
    Calls Try.prog 43 #[.slice ao 0 cap] w fun e w' => Below w.heap.size w w' ∧
      ∃ ao' cap', e = .returned (.slice ao' 0 cap') ∧ cap' ≤ maxLen := by
  have hnil := fun w => Lib.run_eql_slice_nil (P := Try.prog) w 23 5 ao 0 cap 0 0 Try.underlying23
  cases ao with
  | none =>
    go_enter Try.func43, Try.ntmps43
    go_wp2_with fail
    go_ret
    exact ⟨Below.refl _ _, none, 0, rfl, by unfold maxLen; omega⟩
  | some ad =>
    have hx : Rd w 1 (some ad) 0 cap (bytesC []) := { len := rfl, nil := fun h => by simp at h, spot := fun h => by omega, lecap := by omega, lemax := hm, lt := fun h => by simp [bytesC] at h, cell := fun j h => by simp [bytesC] at h }
    go_enter Try.func43, Try.ntmps43
    go_wp2_with (at_builtin; refine wpl_append el_u8 rfl (.tmp 5) (.tmp 6) rfl rfl (World.ownsRow_lit w #[] 0 (Nat.le_refl _) (by decide) rfl) rfl (hx.fresh (alc _ _)) (bytesC_one _) (by omega) (by simp) ?_)
    intro ao' cap' w1 hown1 hg
    have hb1 : Below w.heap.size w w1 := (alc w _).grown hg (by simp) (fun k hk => by simp [Value.ownBlock] at hk; omega)
    have Hr := Lib.hid (And.intro hb1 hown1); clear hb1 hown1 hg
    go_wp2_with fail
    go_ret
    refine ⟨Hr.out.1, ao', cap', by simp, ?_⟩
    rcases Hr.out.2.2 with ⟨h, _⟩ | ⟨g, c2, cur, h, _, _, _, h5, _⟩
    · simp only [Value.slice.injEq] at h
      rw [h.2.2]; unfold maxLen; omega
    · simp only [Value.slice.injEq] at h
      rw [h.2.2]; exact h5
end Go.Proofs.Ytmjoneiagfegdaa
namespace Go.Pe
open Go Go.Am Go.RowKit

set_option maxHeartbeats 4000000 in
theorem equal_ev {cfg : Cfg} (hf : cfg.fn 42 = some m42) {fuel : Nat} {st : St} {v w : PV} {xs ys : List UInt8} (hv : inL v = some xs) (hw : inL w = some ys) (hl : xs.length ≤ 140737488355328) (hfu : xs.length < fuel) :
    ∃ r st', evFn cfg (fuel + 1) 42 [v, w] st = some (r, st') ∧ r = .b (xs == ys) := by
  refine evFn_W hf ?_
  unfold m42
  have h1 := in_len hv
  have h2 := in_len hw
  by_cases hne : xs.length = ys.length
  · have e1 : ((xs.length : Int) != (ys.length : Int)) = false := by rw [hne]; simp
    simp only [putArgs, ↓Z0, ↓Xp, ↓Xt, Xq, Xc, binP, ofCells, Nat.reduceAdd, Nat.reduceMul, Nat.reduceLT, Nat.reduceEqDiff, reduceIte, h1, h2, e1]
    refine Z9 (k := xs.length - 0) (fun d x => ∃ i : Nat, i ≤ xs.length ∧ d = xs.length - i ∧ (xs.drop i == ys.drop i) = (xs == ys) ∧ x.env.get 0 = v ∧ x.env.get 1 = w ∧ x.env.get 12 = .i .i64 xs.length ∧ x.env.get 13 = .i .i64 i) ?_ ⟨0, Nat.zero_le _, rfl, rfl, ?_⟩ (by omega)
    · rintro d ⟨env, st1⟩ ⟨i, hi, rfl, hp, g0, g1, g12, g13⟩
      simp only at g0 g1 g12 g13
      by_cases hlt : i < xs.length
      · have hx0 : xs ≠ [] := by intro e; rw [e] at hlt; simp at hlt
        have hy0 : ys ≠ [] := by intro e; rw [e] at hne; rw [hne] at hlt; simp at hlt
        have hlt2 : i < ys.length := by omega
        rw [in_cons hv hx0] at g0
        rw [in_cons hw hy0] at g1
        rw [drop_cons hlt, drop_cons hlt2] at hp
        have hld := fun c => load_in (st := ⟨st1.sto, c⟩) hlt
        have hld2 := fun c => load_in (st := ⟨st1.sto, c⟩) hlt2
        obtain ⟨c, hc⟩ : ∃ c, xs.getD i 0 = c := ⟨_, rfl⟩
        obtain ⟨d, hd⟩ : ∃ d, ys.getD i 0 = d := ⟨_, rfl⟩
        rw [hc, hd] at hp
        simp only [hc] at hld
        simp only [hd] at hld2
        have hlti : ((i : Nat) : Int) < ((xs.length : Nat) : Int) := by omega
        have hlti2 : ((i : Nat) : Int) < ((ys.length : Nat) : Int) := by omega
        have h0i : 0 ≤ ((i : Nat) : Int) := by omega
        have hln1 : (ofBytes xs).length = xs.length * 1 := by rw [len_ofBytes, Nat.mul_one]
        have hln2 : (ofBytes ys).length = ys.length * 1 := by rw [len_ofBytes, Nat.mul_one]
        have hwi : IntKind.i64.wrap ((i : Int) + Int.ofNat 1) = ((i + 1 : Nat) : Int) := by
          rw [wr_i64 _ ⟨by show _ ≤ (i : Int) + 1; omega, by show (i : Int) + 1 < _; omega⟩]; rfl
        by_cases hcd : c = d
        · subst hcd
          have ec : ((c.toNat : Int) != (c.toNat : Int)) = false := by simp
          have hp' : (xs.drop (i + 1) == ys.drop (i + 1)) = (xs == ys) := by rw [← hp]; simp
          simp only [↓Z0, ↓Xp, ↓Xt, Xq, Xc, binP, ofCells, Nat.reduceAdd, Nat.reduceMul, Nat.reduceLT, Nat.reduceEqDiff, reduceIte, g0, g1, g12, g13, hlti, hlti2, h0i, hln1, hln2, hld, hld2, ec, hwi]
          refine ⟨xs.length - (i + 1), by omega, i + 1, ?_⟩
          rw [in_cons hv hx0, in_cons hw hy0]
          (repeat' (first | exact True.intro | rfl | assumption | omega | apply And.intro))
        · have ec : ((c.toNat : Int) != (d.toNat : Int)) = true := by
            simp only [bne_iff_ne, ne_eq]
            intro e
            exact hcd (UInt8.toNat_inj.1 (by omega))
          have hp' : false = (xs == ys) := by rw [← hp]; simp [hcd]
          simp only [↓Z0, ↓Xp, ↓Xt, Xq, Xc, binP, ofCells, Nat.reduceAdd, Nat.reduceMul, Nat.reduceLT, Nat.reduceEqDiff, reduceIte, g0, g1, g12, g13, hlti, hlti2, h0i, hln1, hln2, hld, hld2, ec]
          refine ⟨nofun, _, rfl, ?_⟩
          simp only [tupV, ← hp', ↓Z0, ↓Xp, ↓Xt, Xq, Xc, binP, ofCells, Nat.reduceAdd, Nat.reduceMul, Nat.reduceLT, Nat.reduceEqDiff, reduceIte]
      · have hie : i = xs.length := by omega
        subst hie
        have hp' : true = (xs == ys) := by
          rw [← hp, List.drop_length, List.drop_of_length_le (by omega)]
          rfl
        simp only [↓Z0, ↓Xp, ↓Xt, Xq, Xc, binP, ofCells, Nat.reduceAdd, Nat.reduceMul, Nat.reduceLT, Nat.reduceEqDiff, reduceIte, g0, g1, g12, g13, Int.lt_irrefl]
        refine ⟨nofun, _, rfl, ?_⟩
        simp only [tupV, ← hp', ↓Z0, ↓Xp, ↓Xt, Xq, Xc, binP, ofCells, Nat.reduceAdd, Nat.reduceMul, Nat.reduceLT, Nat.reduceEqDiff, reduceIte]
    · simp [Env.get_put]
  · have e1 : ((xs.length : Int) != (ys.length : Int)) = true := by simp; omega
    have e2 : (xs == ys) = false := by
      simp only [beq_eq_false_iff_ne, ne_eq]
      intro e; exact hne (by rw [e])
    simp only [putArgs, ↓Z0, ↓Xp, ↓Xt, Xq, Xc, binP, ofCells, Nat.reduceAdd, Nat.reduceMul, Nat.reduceLT, Nat.reduceEqDiff, reduceIte, h1, h2, e1]
    refine ⟨nofun, _, rfl, ?_⟩
    simp only [tupV, e2, ↓Z0, ↓Xp, ↓Xt, Xq, Xc, binP, ofCells, Nat.reduceAdd, Nat.reduceMul, Nat.reduceLT, Nat.reduceEqDiff, reduceIte]
def gEqual : List PV → Option PV
  | [v, w] => match inL v, inL w with
    | some xs, some ys => if xs.length ≤ 140737488355328 then some (.b (xs == ys)) else none
    | _, _ => none
  | _ => none
theorem equal_any (args : List PV) (r : PV) (h : gEqual args = some r) : ∃ fuel, evP cfgE0 fuel 42 args = some r := by
  unfold gEqual at h
  split at h
  · split at h
    · rename_i v w xs ys hv hw
      split at h
      · rename_i hc
        simp only [Option.some.injEq] at h
        subst h
        exact ⟨xs.length + 1 + 1, ev_flat (by kernel_rfl) (open_in hv) (fun _ => rfl) (equal_ev (cfg := cfgE0) (by kernel_rfl) hv hw hc (by omega))⟩
      · simp at h
    · simp at h
  · simp at h
def gClone : List PV → Option PV
  | [.fsl 0 []] => some (.fsl 0 [])
  | [v] => match inL v with
    | some l => if l = [] then none else if l.length ≤ 140737488355328 then some (.osl 1 l.length (ofBytes l)) else none
    | none => none
  | _ => none
theorem clone_ev {cfg : Cfg} (hf : cfg.fn 43 = some m43) {fuel : Nat} {st : St} {v : PV} {l : List UInt8} (hv : inL v = some l) (hne : l ≠ []) (hl : l.length ≤ 140737488355328) :
    ∃ r st', evFn cfg (fuel + 1) 43 [v] st = some (r, st') ∧ ∃ k, r = .rsl k 1 0 l.length ∧ st'.get k = some (.cells (ofBytes l) false) := by
  refine evFn_W hf ?_
  unfold m43
  have hv' := in_cons hv hne
  have hc := fun st => cells_in (st := st) hv
  have ho := one_ofBytes l
  have hpos : l.length ≠ 0 := fun e => hne (List.length_eq_zero_iff.1 e)
  have hq : eqnP 0 false v .nsl = some (.b false) := by
    rw [hv']
    have i1 : isNil? (.fsl l.length (ofBytes l)) = some (0, false) := by
      show (if l.length = 0 then none else some (0, false)) = _
      rw [if_neg hpos]
    have i2 : isNil? .nsl = some (0, true) := rfl
    unfold eqnP
    simp only [i1, i2]
    rfl
  obtain ⟨st', ha, hb, _⟩ := app_own (st := (⟨st.sto, st.cnt + 56⟩ : St).put (st.cnt + 24) (some (.cells (ofBytes []) false))) (k := st.cnt + 24) (l := []) (key := st.cnt + 40) (news := l) (St.get_putk _ _ _) (by unfold maxBytes; simp; omega)
  rw [List.nil_append] at ha hb
  simp only [List.length_nil] at ha
  have he : ofBytes [] = [] := rfl
  rw [he] at ha
  simp only [putArgs, ↓Z0, ↓Xp, ↓Xt, Xq, Xc, binP, ofCells, Nat.reduceAdd, Nat.reduceMul, Nat.reduceLT, Nat.reduceEqDiff, reduceIte, Xm, Nat.reduceLeDiff, hq, hc, ho, ha]
  refine ⟨nofun, _, rfl, st.cnt + 40, ?_, hb⟩
  simp only [tupV, ↓Z0, ↓Xp, ↓Xt, Xq, Xc, binP, ofCells, Nat.reduceAdd, Nat.reduceMul, Nat.reduceLT, Nat.reduceEqDiff, reduceIte]
theorem cfgE0_ok' {Gl : Gmap} : CfgOK Go.Proofs.Try.prog Gl cfgE0 := cfg_okt tbl_all fun f g h => by simp at h
theorem FRel.zero_inv {F : Nat → Nat → Option Value} {v : Value} (h : FRel F v (.fsl 0 [])) : ∃ ao cap, v = .slice ao 0 cap ∧ cap ≤ maxLen := by
  cases h with
  | fnull a cap hm => exact ⟨a, cap, rfl, hm⟩
  | fsl b o n cap ps f hc hm hF h => exact ⟨_, cap, rfl, hm⟩
theorem clone_ok {Gl : Gmap} : PureOK Go.Proofs.Try.prog Gl 43 gClone := by
  intro args r hr
  unfold gClone at hr
  split at hr
  · simp only [Option.some.injEq] at hr
    subst hr
    intro F w base vs gv hF hG hbase ha
    obtain ⟨ha1, rfl⟩ := ha
    obtain ⟨u, rfl, hu⟩ : ∃ u, vs = [u] ∧ FRel F u (.fsl 0 []) := by
      match vs, ha1 with
      | [u], h => exact ⟨u, rfl, h.2 0 u _ rfl rfl⟩
      | [], h => have := h.1; simp at this
      | _ :: _ :: _, h => have := h.1; simp at this
    obtain ⟨ao, cap, rfl, hm⟩ := hu.zero_inv
    refine (Go.Proofs.Ytmjoneiagfegdaa.clone_zero ao cap hm w).mono ?_
    rintro e w' ⟨hb, ao', cap', rfl, hm'⟩
    refine ⟨_, F, rfl, fun b o x hx => hx, ?_, hb.os, hb.tape, hb.output, hb.size, fun j hj _ => hb.block j hj, fun b o x hx => .inl hx, .fnull ao' cap' hm'⟩
    intro b o x hx
    have h1 := hF b o x hx
    have hlt := World.block_lt_of_cell? w _ h1
    rw [hb.cell (by simpa using hlt)]; exact h1
  · split at hr
    · rename_i v _ l hl
      split at hr
      · simp at hr
      · rename_i hne
        split at hr
        · rename_i hc
          simp only [Option.some.injEq] at hr
          subst hr
          obtain ⟨r, st', e1, k, e2, e3⟩ := clone_ev (cfg := cfgE0) (by kernel_rfl) (fuel := 0) (st := { sto := .leaf, cnt := 1 }) hl hne hc
          exact evP_ok cfgE0_ok' (0 + 1) _ _ _ (evP_of (by kernel_rfl) (open_in hl) ⟨r, st', e1, by rw [e2]; exact close_bytes e3⟩)
        · simp at hr
    · simp at hr
  · simp at hr
def unsealB (l : List UInt8) : List UInt8 × Int := if l.length < 4 then ([], 11) else if sealB (l.take (l.length - 4)) = l then (l.take (l.length - 4), 0) else ([], 12)
def outV (l : List UInt8) : PV := if l = [] then .fsl 0 [] else .osl 1 l.length (ofBytes l)
end Go.Pe
set_option linter.unusedVariables false
set_option linter.unusedSimpArgs false
namespace Go.Pe
open Go Go.Am Go.RowKit

theorem close_pair {st : St} {k : Nat} {l : List UInt8} {kk : IntKind} {n : Int} (hk : st.get k = some (.cells (ofBytes l) false)) : closeRes st (.tup [.rsl k 1 0 l.length, .i kk n]) = some (.tup [.osl 1 l.length (ofBytes l), .i kk n]) := by
  have hw : whole? st (.rsl k 1 0 l.length) = some (k, 1, l.length, ofBytes l) := by
    unfold whole?
    simp only [hk, len_ofBytes]
    rw [if_pos ⟨trivial, by omega, by omega⟩]
  have hf : firstWhole st [.rsl k 1 0 l.length, .i kk n] = some (0, k, 1, l.length, ofBytes l) := by
    unfold firstWhole
    rw [hw]
  unfold closeRes
  simp only [hf, keys_ofBytes, deepL_flat (flat_ofBytes l)]
  rfl
theorem upto_in {v : PV} {l : List UInt8} (h : inL v = some l) {a : Nat} (ha : a ≤ l.length) (hl : l ≠ []) : sliceP 1 none (some (.i .i64 (a : Int))) v = some (.fsl a (ofBytes (l.take a))) := by
  rw [in_cons h hl]
  unfold sliceP
  simp only [Z0B_, bound_ok (show 0 ≤ (a : Int) ∧ (a : Int) ≤ (l.length : Int) by omega), Int.toNat_natCast, len_ofBytes, Nat.mul_one, if_true, Nat.zero_mul, Nat.sub_zero, List.drop_zero]
  rw [take_ofBytes]
theorem in_take {l : List UInt8} {a : Nat} (ha : a ≤ l.length) : inL (.fsl a (ofBytes (l.take a))) = some (l.take a) := by
  have := in_fsl (l.take a)
  rwa [List.length_take, Nat.min_eq_left ha] at this
def unsealV (l : List UInt8) : PV := if l.length < 4 then .tup [.nsl, .i .i64 11] else if sealB (l.take (l.length - 4)) = l then .tup [outV (l.take (l.length - 4)), .i .i64 0] else .tup [.nsl, .i .i64 12]
theorem deep_rf {st : St} {k : Nat} {l : List UInt8} {v : PV} (hk : st.get k = some (.cells (ofBytes l) false)) (hv : v.flat = true) : deepL st [.rsl k 1 0 l.length, v] = some [.fsl l.length (ofBytes l), v] := by
  have e1 : deep st (11 + 1) (.rsl k 1 0 l.length) = some (.fsl l.length (ofBytes l)) := deep_bytesF 10 hk
  have e2 : deep st (11 + 1) v = some v := deep_some 11 hv
  show mapO (deep st (11 + 1)) _ = _
  simp only [mapO, e1, e2]
set_option maxHeartbeats 4000000 in
theorem unseal_ev {cfg : Cfg} (hf : cfg.fn 18 = some m18) (hx1 : cfg.ext 17 = some gSeal) (hx2 : cfg.ext 42 = some gEqual) (hx3 : cfg.ext 43 = some gClone) {fuel : Nat} {st : St} {v : PV} {l : List UInt8} (hv : inL v = some l) (hll : l.length ≤ 140737488355328) :
    ∃ r st', evFn cfg (fuel + 1) 18 [v] st = some (r, st') ∧ closeRes st' r = some (unsealV l) := by
  refine evFn_W hf ?_
  unfold m18
  have hlen := in_len hv
  unfold unsealV
  by_cases h4 : l.length < 4
  · have e4 : ((l.length : Nat) : Int) < Int.ofNat 4 := by show ((l.length : Nat) : Int) < 4; omega
    rw [if_pos h4]
    simp only [putArgs, ↓Z0, ↓Xp, ↓Xt, Xq, Xc, binP, ofCells, Nat.reduceAdd, Nat.reduceMul, Nat.reduceLT, Nat.reduceEqDiff, reduceIte, hlen, e4]
    refine ⟨nofun, _, rfl, ?_⟩
    simp only [tupV, ↓Z0, ↓Xp, ↓Xt, Xq, Xc, binP, ofCells, Nat.reduceAdd, Nat.reduceMul, Nat.reduceLT, Nat.reduceEqDiff, reduceIte]
    exact closeRes_tup rfl
  have e4 : ¬ ((l.length : Nat) : Int) < Int.ofNat 4 := by show ¬ ((l.length : Nat) : Int) < 4; omega
  rw [if_neg h4]
  have hne : l ≠ [] := by intro e; rw [e] at h4; simp at h4
  have hw : IntKind.i64.wrap ((l.length : Int) - Int.ofNat 4) = ((l.length - 4 : Nat) : Int) := by
    rw [wr_i64 _ ⟨by show _ ≤ (l.length : Int) - 4; omega, by show (l.length : Int) - 4 < _; omega⟩]
    show (l.length : Int) - 4 = _
    omega
  have hs := upto_in hv (a := l.length - 4) (by omega) hne
  have hin := in_take (l := l) (a := l.length - 4) (by omega)
  have htl : (l.take (l.length - 4)).length = l.length - 4 := by rw [List.length_take]; omega
  generalize hin0 : l.take (l.length - 4) = m at *
  have c1 : ∀ (st : St) (key : Nat), callStep (runPure cfg (evFn cfg fuel) 17) false st key [.fsl (l.length - 4) (ofBytes m)] = some (.rsl key 1 0 (sealB m).length, st.put key (some (.cells (ofBytes (sealB m)) false))) := by
    intro st key
    refine call_deep (ps' := [.fsl (l.length - 4) (ofBytes m)]) (deepL_flat rfl) ?_
    rw [runPure_ext hx1]
    unfold gSeal
    simp only [hin]
    rw [if_pos (by omega)]
  have c2 : ∀ (st : St) (key k : Nat), st.get k = some (.cells (ofBytes (sealB m)) false) → callStep (runPure cfg (evFn cfg fuel) 42) false st key [.rsl k 1 0 (sealB m).length, v] = some (.b (sealB m == l), st) := by
    intro st key k hk
    refine call_deepb (deep_rf hk (in_flat hv)) ?_ rfl rfl
    rw [runPure_ext hx2]
    unfold gEqual
    simp only [in_fsl, hv]
    have : (sealB m).length ≤ 140737488355328 := by unfold sealB be4; simp; omega
    rw [if_pos this]
  by_cases hq : sealB m = l
  · rw [if_pos hq]
    have hqb : (sealB m == l) = true := by simpa using hq
    rw [hqb] at c2
    by_cases hm : m = []
    · have hz : outV m = .fsl 0 [] := by unfold outV; rw [if_pos hm]
      have hl4 : l.length - 4 = 0 := by rw [← htl, hm]; rfl
      have hb0 : ofBytes m = [] := by rw [hm]; rfl
      rw [hz]
      rw [hl4, hb0] at hs c1
      rw [hl4] at hw
      have c3 : ∀ (st : St) (key : Nat), callStep (runPure cfg (evFn cfg fuel) 43) false st key [.fsl 0 []] = some (.fsl 0 [], st) := by
        intro st key
        refine call_deepb (ps' := [.fsl 0 []]) (deepL_flat rfl) ?_ rfl rfl
        rw [runPure_ext hx3]
        rfl
      simp only [putArgs, ↓Z0, ↓Xp, ↓Xt, Xq, Xc, binP, ofCells, Nat.reduceAdd, Nat.reduceMul, Nat.reduceLT, Nat.reduceEqDiff, reduceIte, Xm, Nat.reduceLeDiff, hlen, e4, hw, hs, c1, c2, unP, c3]
      refine ⟨nofun, _, rfl, ?_⟩
      simp only [tupV, ↓Z0, ↓Xp, ↓Xt, Xq, Xc, binP, ofCells, Nat.reduceAdd, Nat.reduceMul, Nat.reduceLT, Nat.reduceEqDiff, reduceIte]
      exact closeRes_tup rfl
    · have hz : outV m = .osl 1 m.length (ofBytes m) := by unfold outV; rw [if_neg hm]
      rw [hz]
      have c3 : ∀ (st : St) (key : Nat), callStep (runPure cfg (evFn cfg fuel) 43) false st key [.fsl (l.length - 4) (ofBytes m)] = some (.rsl key 1 0 m.length, st.put key (some (.cells (ofBytes m) false))) := by
        intro st key
        refine call_deep (ps' := [.fsl (l.length - 4) (ofBytes m)]) (deepL_flat rfl) ?_
        rw [runPure_ext hx3]
        have hg : gClone [.fsl (l.length - 4) (ofBytes m)] = match inL (.fsl (l.length - 4) (ofBytes m)) with
          | some l => if l = [] then none else if l.length ≤ 140737488355328 then some (.osl 1 l.length (ofBytes l)) else none
          | none => none := by
          unfold gClone
          split
          · rename_i h
            simp only [List.cons.injEq, PV.fsl.injEq, and_true] at h
            have := congrArg List.length h.2
            rw [len_ofBytes] at this
            exact absurd (List.length_eq_zero_iff.1 this) hm
          · rename_i h; simp only [List.cons.injEq, and_true] at h; subst h; rfl
          · rename_i h; simp at h
        rw [hg]
        simp only [hin]
        rw [if_neg hm, if_pos (by omega)]
      simp only [putArgs, ↓Z0, ↓Xp, ↓Xt, Xq, Xc, binP, ofCells, Nat.reduceAdd, Nat.reduceMul, Nat.reduceLT, Nat.reduceEqDiff, reduceIte, Xm, Nat.reduceLeDiff, hlen, e4, hw, hs, c1, c2, unP, c3]
      refine ⟨nofun, _, rfl, ?_⟩
      simp only [tupV, ↓Z0, ↓Xp, ↓Xt, Xq, Xc, binP, ofCells, Nat.reduceAdd, Nat.reduceMul, Nat.reduceLT, Nat.reduceEqDiff, reduceIte]
      exact close_pair (St.get_putk _ _ _)
  · rw [if_neg hq]
    have hqb : (sealB m == l) = false := by simpa using hq
    rw [hqb] at c2
    simp only [putArgs, ↓Z0, ↓Xp, ↓Xt, Xq, Xc, binP, ofCells, Nat.reduceAdd, Nat.reduceMul, Nat.reduceLT, Nat.reduceEqDiff, reduceIte, Xm, Nat.reduceLeDiff, hlen, e4, hw, hs, c1, c2, unP]
    refine ⟨nofun, _, rfl, ?_⟩
    simp only [tupV, ↓Z0, ↓Xp, ↓Xt, Xq, Xc, binP, ofCells, Nat.reduceAdd, Nat.reduceMul, Nat.reduceLT, Nat.reduceEqDiff, reduceIte]
    exact closeRes_tup rfl
def gUnseal : List PV → Option PV
  | [v] => match inL v with
    | some l => if l.length ≤ 140737488355328 then some (unsealV l) else none
    | none => none
  | _ => none
end Go.Pe
