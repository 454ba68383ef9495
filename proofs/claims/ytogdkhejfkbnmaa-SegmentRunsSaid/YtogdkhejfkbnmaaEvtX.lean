/-
  slices.Equal, slices.Clone, and what was sealed, as functions of plain data. No condition.
-/
import Derived.Test.YtogdkhejfkbnmaaEvtV
set_option linter.unusedVariables false
set_option linter.unusedSimpArgs false
namespace Go.Proofs.Ytogdkhejfkbnmaa
open Go.RowKit Go.Am

theorem clone_zero (ao : Option Addr) (cap : Nat) (hm : cap ≤ maxLen) (w : World) :
    Calls Try.prog 72 #[.slice ao 0 cap] w fun e w' => Below w.heap.size w w' ∧
      ∃ ao' cap', e = .returned (.slice ao' 0 cap') ∧ cap' ≤ maxLen := by
  have hnil := fun w => Lib.run_eql_slice_nil (P := Try.prog) w 22 5 ao 0 cap 0 0 Try.underlying22
  cases ao with
  | none =>
    go_enter Try.func72, Try.ntmps72
    go_wp2_with fail
    go_ret
    exact ⟨Below.refl _ _, none, 0, rfl, by unfold maxLen; omega⟩
  | some ad =>
    have hx : Rd w 1 (some ad) 0 cap (bytesC []) := { len := rfl, nil := fun h => by simp at h, spot := fun h => by omega, lecap := by omega, lemax := hm, lt := fun h => by simp [bytesC] at h, cell := fun j h => by simp [bytesC] at h }
    go_enter Try.func72, Try.ntmps72
    go_wp2_with (at_builtin; refine wpl_append el_u8 rfl (.tmp 5) (.tmp 6) rfl rfl (World.ownsRow_lit w #[] 0 (Nat.le_refl _) (by decide) rfl) rfl (hx.fresh (alc _ _)) (bytesC_one _) (by omega) (by simp) ?_)
    intro ao' cap' w1 hown1 hg
    have hb1 : Below w.heap.size w w1 := (alc w _).grown hg (by simp) (fun k hk => by simp [Value.ownBlock] at hk; omega)
    have Hr := Lib.hid (And.intro hb1 hown1); clear hb1 hown1 hg
    go_wp2_with fail
    go_ret
    refine ⟨Hr.out.1, ao', cap', by simp, ?_⟩
    rcases Hr.out.2.2 with ⟨h, _⟩ | ⟨g, c2, cur, h, _, _, _, h5, _⟩
    · simp only [Value.slice.injEq] at h
      rw [h.2.2]; unfold maxLen; omega
    · simp only [Value.slice.injEq] at h
      rw [h.2.2]; exact h5
end Go.Proofs.Ytogdkhejfkbnmaa
namespace Go.Pe
open Go Go.Am Go.RowKit

set_option maxHeartbeats 4000000 in
theorem equal_ev {cfg : Cfg} (hf : cfg.fn 71 = some m71) {fuel : Nat} {st : St} {v w : PV} {xs ys : List UInt8} (hv : inL v = some xs) (hw : inL w = some ys) (hl : xs.length ≤ 140737488355328) (hfu : xs.length < fuel) :
    ∃ r st', evFn cfg (fuel + 1) 71 [v, w] st = some (r, st') ∧ r = .b (xs == ys) := by
  refine evFn_W hf ?_
  unfold m71
  have h1 := in_len hv
  have h2 := in_len hw
  by_cases hne : xs.length = ys.length
  · have e1 : ((xs.length : Int) != (ys.length : Int)) = false := by rw [hne]; simp
    simp only [putArgs, ↓Z0, ↓Xp, ↓Xt, Xq, Xc, binP, ofCells, Nat.reduceAdd, Nat.reduceMul, Nat.reduceLT, Nat.reduceEqDiff, reduceIte, h1, h2, e1]
    refine Z9 (k := xs.length - 0) (fun d x => ∃ i : Nat, i ≤ xs.length ∧ d = xs.length - i ∧ (xs.drop i == ys.drop i) = (xs == ys) ∧ x.env.get 0 = v ∧ x.env.get 1 = w ∧ x.env.get 12 = .i .i64 xs.length ∧ x.env.get 13 = .i .i64 i) ?_ ⟨0, Nat.zero_le _, rfl, rfl, ?_⟩ (by omega)
    · rintro d ⟨env, st1⟩ ⟨i, hi, rfl, hp, g0, g1, g12, g13⟩
      simp only at g0 g1 g12 g13
      by_cases hlt : i < xs.length
      · have hx0 : xs ≠ [] := by intro e; rw [e] at hlt; simp at hlt
        have hy0 : ys ≠ [] := by intro e; rw [e] at hne; rw [hne] at hlt; simp at hlt
        have hlt2 : i < ys.length := by omega
        rw [in_cons hv hx0] at g0
        rw [in_cons hw hy0] at g1
        rw [drop_cons hlt, drop_cons hlt2] at hp
        have hld := fun c => load_in (st := ⟨st1.sto, c⟩) hlt
        have hld2 := fun c => load_in (st := ⟨st1.sto, c⟩) hlt2
        obtain ⟨c, hc⟩ : ∃ c, xs.getD i 0 = c := ⟨_, rfl⟩
        obtain ⟨d, hd⟩ : ∃ d, ys.getD i 0 = d := ⟨_, rfl⟩
        rw [hc, hd] at hp
        simp only [hc] at hld
        simp only [hd] at hld2
        have hlti : ((i : Nat) : Int) < ((xs.length : Nat) : Int) := by omega
        have hlti2 : ((i : Nat) : Int) < ((ys.length : Nat) : Int) := by omega
        have h0i : 0 ≤ ((i : Nat) : Int) := by omega
        have hln1 : (ofBytes xs).length = xs.length * 1 := by rw [len_ofBytes, Nat.mul_one]
        have hln2 : (ofBytes ys).length = ys.length * 1 := by rw [len_ofBytes, Nat.mul_one]
        have hwi : IntKind.i64.wrap ((i : Int) + Int.ofNat 1) = ((i + 1 : Nat) : Int) := by
          rw [wr_i64 _ ⟨by show _ ≤ (i : Int) + 1; omega, by show (i : Int) + 1 < _; omega⟩]; rfl
        by_cases hcd : c = d
        · subst hcd
          have ec : ((c.toNat : Int) != (c.toNat : Int)) = false := by simp
          have hp' : (xs.drop (i + 1) == ys.drop (i + 1)) = (xs == ys) := by rw [← hp]; simp
          simp only [↓Z0, ↓Xp, ↓Xt, Xq, Xc, binP, ofCells, Nat.reduceAdd, Nat.reduceMul, Nat.reduceLT, Nat.reduceEqDiff, reduceIte, g0, g1, g12, g13, hlti, hlti2, h0i, hln1, hln2, hld, hld2, ec, hwi]
          refine ⟨xs.length - (i + 1), by omega, i + 1, ?_⟩
          rw [in_cons hv hx0, in_cons hw hy0]
          (repeat' (first | exact True.intro | rfl | assumption | omega | apply And.intro))
        · have ec : ((c.toNat : Int) != (d.toNat : Int)) = true := by
            simp only [bne_iff_ne, ne_eq]
            intro e
            exact hcd (UInt8.toNat_inj.1 (by omega))
          have hp' : false = (xs == ys) := by rw [← hp]; simp [hcd]
          simp only [↓Z0, ↓Xp, ↓Xt, Xq, Xc, binP, ofCells, Nat.reduceAdd, Nat.reduceMul, Nat.reduceLT, Nat.reduceEqDiff, reduceIte, g0, g1, g12, g13, hlti, hlti2, h0i, hln1, hln2, hld, hld2, ec]
          refine ⟨nofun, _, rfl, ?_⟩
          simp only [tupV, ← hp', ↓Z0, ↓Xp, ↓Xt, Xq, Xc, binP, ofCells, Nat.reduceAdd, Nat.reduceMul, Nat.reduceLT, Nat.reduceEqDiff, reduceIte]
      · have hie : i = xs.length := by omega
        subst hie
        have hp' : true = (xs == ys) := by
          rw [← hp, List.drop_length, List.drop_of_length_le (by omega)]
          rfl
        simp only [↓Z0, ↓Xp, ↓Xt, Xq, Xc, binP, ofCells, Nat.reduceAdd, Nat.reduceMul, Nat.reduceLT, Nat.reduceEqDiff, reduceIte, g0, g1, g12, g13, Int.lt_irrefl]
        refine ⟨nofun, _, rfl, ?_⟩
        simp only [tupV, ← hp', ↓Z0, ↓Xp, ↓Xt, Xq, Xc, binP, ofCells, Nat.reduceAdd, Nat.reduceMul, Nat.reduceLT, Nat.reduceEqDiff, reduceIte]
    · simp [Env.get_put]
  · have e1 : ((xs.length : Int) != (ys.length : Int)) = true := by simp; omega
    have e2 : (xs == ys) = false := by
      simp only [beq_eq_false_iff_ne, ne_eq]
      intro e; exact hne (by rw [e])
    simp only [putArgs, ↓Z0, ↓Xp, ↓Xt, Xq, Xc, binP, ofCells, Nat.reduceAdd, Nat.reduceMul, Nat.reduceLT, Nat.reduceEqDiff, reduceIte, h1, h2, e1]
    refine ⟨nofun, _, rfl, ?_⟩
    simp only [tupV, e2, ↓Z0, ↓Xp, ↓Xt, Xq, Xc, binP, ofCells, Nat.reduceAdd, Nat.reduceMul, Nat.reduceLT, Nat.reduceEqDiff, reduceIte]
def gEqual : List PV → Option PV
  | [v, w] => match inL v, inL w with
    | some xs, some ys => if xs.length ≤ 140737488355328 then some (.b (xs == ys)) else none
    | _, _ => none
  | _ => none
theorem equal_any (args : List PV) (r : PV) (h : gEqual args = some r) : ∃ fuel, evP cfgE0 fuel 71 args = some r := by
  unfold gEqual at h
  split at h
  · split at h
    · rename_i v w xs ys hv hw
      split at h
      · rename_i hc
        simp only [Option.some.injEq] at h
        subst h
        exact ⟨xs.length + 1 + 1, ev_flat (by kernel_rfl) (open_in hv) (fun _ => rfl) (equal_ev (cfg := cfgE0) (by kernel_rfl) hv hw hc (by omega))⟩
      · simp at h
    · simp at h
  · simp at h
def gClone : List PV → Option PV
  | [.fsl 0 []] => some (.fsl 0 [])
  | [v] => match inL v with
    | some l => if l = [] then none else if l.length ≤ 140737488355328 then some (.osl 1 l.length (ofBytes l)) else none
    | none => none
  | _ => none
theorem clone_ev {cfg : Cfg} (hf : cfg.fn 72 = some m72) {fuel : Nat} {st : St} {v : PV} {l : List UInt8} (hv : inL v = some l) (hne : l ≠ []) (hl : l.length ≤ 140737488355328) :
    ∃ r st', evFn cfg (fuel + 1) 72 [v] st = some (r, st') ∧ ∃ k, r = .rsl k 1 0 l.length ∧ st'.get k = some (.cells (ofBytes l) false) := by
  refine evFn_W hf ?_
  unfold m72
  have hv' := in_cons hv hne
  have hc := fun st => cells_in (st := st) hv
  have ho := one_ofBytes l
  have hpos : l.length ≠ 0 := fun e => hne (List.length_eq_zero_iff.1 e)
  have hq : eqnP 0 false v .nsl = some (.b false) := by
    rw [hv']
    have i1 : isNil? (.fsl l.length (ofBytes l)) = some (0, false) := by
      show (if l.length = 0 then none else some (0, false)) = _
      rw [if_neg hpos]
    have i2 : isNil? .nsl = some (0, true) := rfl
    unfold eqnP
    simp only [i1, i2]
    rfl
  obtain ⟨st', ha, hb, _⟩ := app_own (st := (⟨st.sto, st.cnt + 56⟩ : St).put (st.cnt + 24) (some (.cells (ofBytes []) false))) (k := st.cnt + 24) (l := []) (key := st.cnt + 40) (news := l) (St.get_putk _ _ _) (by unfold maxBytes; simp; omega)
  rw [List.nil_append] at ha hb
  simp only [List.length_nil] at ha
  have he : ofBytes [] = [] := rfl
  rw [he] at ha
  simp only [putArgs, ↓Z0, ↓Xp, ↓Xt, Xq, Xc, binP, ofCells, Nat.reduceAdd, Nat.reduceMul, Nat.reduceLT, Nat.reduceEqDiff, reduceIte, Xm, Nat.reduceLeDiff, hq, hc, ho, ha]
  refine ⟨nofun, _, rfl, st.cnt + 40, ?_, hb⟩
  simp only [tupV, ↓Z0, ↓Xp, ↓Xt, Xq, Xc, binP, ofCells, Nat.reduceAdd, Nat.reduceMul, Nat.reduceLT, Nat.reduceEqDiff, reduceIte]
theorem cfgE0_ok' {Gl : Gmap} : CfgOK Go.Proofs.Try.prog Gl cfgE0 := cfg_okt tbl_all fun f g h => by simp at h
theorem FRel.zero_inv {F : Nat → Nat → Option Value} {v : Value} (h : FRel F v (.fsl 0 [])) : ∃ ao cap, v = .slice ao 0 cap ∧ cap ≤ maxLen := by
  cases h with
  | fnull a cap hm => exact ⟨a, cap, rfl, hm⟩
  | fsl b o n cap ps f hc hm hF h => exact ⟨_, cap, rfl, hm⟩
theorem clone_ok {Gl : Gmap} : PureOK Go.Proofs.Try.prog Gl 72 gClone := by
  intro args r hr
  unfold gClone at hr
  split at hr
  · simp only [Option.some.injEq] at hr
    subst hr
    intro F w base vs gv hF hG hbase ha
    obtain ⟨ha1, rfl⟩ := ha
    obtain ⟨u, rfl, hu⟩ : ∃ u, vs = [u] ∧ FRel F u (.fsl 0 []) := by
      match vs, ha1 with
      | [u], h => exact ⟨u, rfl, h.2 0 u _ rfl rfl⟩
      | [], h => have := h.1; simp at this
      | _ :: _ :: _, h => have := h.1; simp at this
    obtain ⟨ao, cap, rfl, hm⟩ := hu.zero_inv
    refine (Go.Proofs.Ytogdkhejfkbnmaa.clone_zero ao cap hm w).mono ?_
    rintro e w' ⟨hb, ao', cap', rfl, hm'⟩
    refine ⟨_, F, rfl, fun b o x hx => hx, ?_, hb.os, hb.tape, hb.output, hb.size, fun j hj _ => hb.block j hj, fun b o x hx => .inl hx, .fnull ao' cap' hm'⟩
    intro b o x hx
    have h1 := hF b o x hx
    have hlt := World.block_lt_of_cell? w _ h1
    rw [hb.cell (by simpa using hlt)]; exact h1
  · split at hr
    · rename_i v _ l hl
      split at hr
      · simp at hr
      · rename_i hne
        split at hr
        · rename_i hc
          simp only [Option.some.injEq] at hr
          subst hr
          obtain ⟨r, st', e1, k, e2, e3⟩ := clone_ev (cfg := cfgE0) (by kernel_rfl) (fuel := 0) (st := { sto := .leaf, cnt := 1 }) hl hne hc
          exact evP_ok cfgE0_ok' (0 + 1) _ _ _ (evP_of (by kernel_rfl) (open_in hl) ⟨r, st', e1, by rw [e2]; exact close_bytes e3⟩)
        · simp at hr
    · simp at hr
  · simp at hr
def unsealB (l : List UInt8) : List UInt8 × Int := if l.length < 4 then ([], 11) else if sealB (l.take (l.length - 4)) = l then (l.take (l.length - 4), 0) else ([], 12)
def outV (l : List UInt8) : PV := if l = [] then .fsl 0 [] else .osl 1 l.length (ofBytes l)
end Go.Pe
