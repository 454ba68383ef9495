/-
 Clone, Equal, Unseal, by the interpreter of plain data. No condition.
-/
import Derived.Test.YtadblicfhhllgaaEvtV
set_option linter.unusedVariables false
set_option linter.unusedSimpArgs false
set_option maxHeartbeats 4000000
namespace Go.Proofs.Ytadblicfhhllgaa
open Go.RowKit Go.Am

theorem clone_zero (ao : Option Addr) (cap : Nat) (hm : cap ≤ maxLen) (w : World) :
 Calls Try.prog 49 #[.slice ao 0 cap] w fun e w' => Below w.heap.size w w' ∧
  ∃ ao' cap', e = .returned (.slice ao' 0 cap') ∧ cap' ≤ maxLen := by
 have hnil := fun w => Lib.run_eql_slice_nil (P := Try.prog) w 27 5 ao 0 cap 0 0 Try.underlying27
 cases ao with
 | none =>
   go_enter Try.func49, Try.ntmps49
   go_wp2_with fail
   go_ret
   exact ⟨Below.refl _ _, none, 0, rfl, by unfold maxLen; omega⟩
 | some ad =>
   have hx : Rd w 1 (some ad) 0 cap (bytesC []) := { len := rfl, nil := fun h => by simp at h, spot := fun h => by omega, lecap := by omega, lemax := hm, lt := fun h => by simp [bytesC] at h, cell := fun j h => by simp [bytesC] at h }
   go_enter Try.func49, Try.ntmps49
   go_wp2_with (at_builtin; refine NiI Nom rfl (.tmp 5) (.tmp 6) rfl rfl (World.ownsRow_lit w #[] 0 (Nat.le_refl _) (by decide) rfl) rfl (hx.fresh (alc _ _)) (NiU _) (by omega) (by simp) ?_)
   intro ao' cap' w1 hown1 hg
   have hb1 : Below w.heap.size w w1 := (alc w _).grown hg (by simp) (fun k hk => by simp [Value.ownBlock] at hk; omega)
   have Hr := Lib.hid (And.intro hb1 hown1); clear hb1 hown1 hg
   go_wp2_with fail
   go_ret
   refine ⟨Hr.out.1, ao', cap', by simp, ?_⟩
   rcases Hr.out.2.2 with ⟨h, _⟩ | ⟨g, c2, cur, h, _, _, _, h5, _⟩
   ·simp only [Value.slice.injEq] at h
    rw [h.2.2]; unfold maxLen; omega
   ·simp only [Value.slice.injEq] at h
    rw [h.2.2]; exact h5
end Go.Proofs.Ytadblicfhhllgaa
namespace Go.Pe
open Go Go.Am Go.RowKit

theorem Nlq {cfg : Cfg} (hf : cfg.fn 48 = some m48) {fuel : Nat} {st : St} {v w : PV} {xs ys : List UInt8} (hv : inL v = some xs) (hw : inL w = some ys) (hl : xs.length ≤ 140737488355328) (hfu : xs.length < fuel) :
 ∃ r st', NaH cfg (fuel + 1) 48 [v, w] st = some (r, st') ∧ r = .b (xs == ys) := by
 refine NaD hf ?_
 unfold m48
 have h1 := Nbx hv
 have h2 := Nbx hw
 by_cases hne : xs.length = ys.length
 ·have e1 : ((xs.length : Int) != (ys.length : Int)) = false := by rw [hne]; simp
  simp only [Nag, ↓Z0, ↓Xp, ↓Xt, Xq, Xc, Nad, Naa, Nat.reduceAdd, Nat.reduceMul, Nat.reduceLT, Nat.reduceEqDiff, reduceIte, h1, h2, e1]
  refine Z9 (k := xs.length - 0) (fun d x => ∃ i : Nat, i ≤ xs.length ∧ d = xs.length - i ∧ (xs.drop i == ys.drop i) = (xs == ys) ∧ x.env.get 0 = v ∧ x.env.get 1 = w ∧ x.env.get 12 = .i .i64 xs.length ∧ x.env.get 13 = .i .i64 i) ?_ ⟨0, Nat.zero_le _, rfl, rfl, ?_⟩ (by omega)
  ·rintro d ⟨env, st1⟩ ⟨i, hi, rfl, hp, g0, g1, g12, g13⟩
   simp only at g0 g1 g12 g13
   by_cases hlt : i < xs.length
   ·have hx0 : xs ≠ [] := by intro e; rw [e] at hlt; simp at hlt
    have hy0 : ys ≠ [] := by intro e; rw [e] at hne; rw [hne] at hlt; simp at hlt
    have hlt2 : i < ys.length := by omega
    rw [Nbp hv hx0] at g0
    rw [Nbp hw hy0] at g1
    rw [NcJ hlt, NcJ hlt2] at hp
    have hld := fun c => Ncn (st := ⟨st1.sto, c⟩) hlt
    have hld2 := fun c => Ncn (st := ⟨st1.sto, c⟩) hlt2
    obtain ⟨c, hc⟩ : ∃ c, xs.getD i 0 = c := ⟨_, rfl⟩
    obtain ⟨d, hd⟩ : ∃ d, ys.getD i 0 = d := ⟨_, rfl⟩
    rw [hc, hd] at hp
    simp only [hc] at hld
    simp only [hd] at hld2
    have hlti : ((i : Nat) : Int) < ((xs.length : Nat) : Int) := by omega
    have hlti2 : ((i : Nat) : Int) < ((ys.length : Nat) : Int) := by omega
    have h0i : 0 ≤ ((i : Nat) : Int) := by omega
    have hln1 : (Nab xs).length = xs.length * 1 := by rw [Nah, Nat.mul_one]
    have hln2 : (Nab ys).length = ys.length * 1 := by rw [Nah, Nat.mul_one]
    have hwi : IntKind.i64.wrap ((i : Int) + Int.ofNat 1) = ((i + 1 : Nat) : Int) := by
     rw [NaI _ ⟨by show _ ≤ (i : Int) + 1; omega, by show (i : Int) + 1 < _; omega⟩]; rfl
    by_cases hcd : c = d
    ·subst hcd
     have ec : ((c.toNat : Int) != (c.toNat : Int)) = false := by simp
     have hp' : (xs.drop (i + 1) == ys.drop (i + 1)) = (xs == ys) := by rw [← hp]; simp
     simp only [↓Z0, ↓Xp, ↓Xt, Xq, Xc, Nad, Naa, Nat.reduceAdd, Nat.reduceMul, Nat.reduceLT, Nat.reduceEqDiff, reduceIte, g0, g1, g12, g13, hlti, hlti2, h0i, hln1, hln2, hld, hld2, ec, hwi]
     refine ⟨xs.length - (i + 1), by omega, i + 1, ?_⟩
     rw [Nbp hv hx0, Nbp hw hy0]
     (repeat' (first | exact True.intro | rfl | assumption | omega | apply And.intro))
    ·have ec : ((c.toNat : Int) != (d.toNat : Int)) = true := by
      simp only [bne_iff_ne, ne_eq]
      intro e
      exact hcd (UInt8.toNat_inj.1 (by omega))
     have hp' : false = (xs == ys) := by rw [← hp]; simp [hcd]
     simp only [↓Z0, ↓Xp, ↓Xt, Xq, Xc, Nad, Naa, Nat.reduceAdd, Nat.reduceMul, Nat.reduceLT, Nat.reduceEqDiff, reduceIte, g0, g1, g12, g13, hlti, hlti2, h0i, hln1, hln2, hld, hld2, ec]
     refine ⟨nofun, _, rfl, ?_⟩
     simp only [NaX, ← hp', ↓Z0, ↓Xp, ↓Xt, Xq, Xc, Nad, Naa, Nat.reduceAdd, Nat.reduceMul, Nat.reduceLT, Nat.reduceEqDiff, reduceIte]
   ·have hie : i = xs.length := by omega
    subst hie
    have hp' : true = (xs == ys) := by
     rw [← hp, List.drop_length, List.drop_of_length_le (by omega)]
     rfl
    simp only [↓Z0, ↓Xp, ↓Xt, Xq, Xc, Nad, Naa, Nat.reduceAdd, Nat.reduceMul, Nat.reduceLT, Nat.reduceEqDiff, reduceIte, g0, g1, g12, g13, Int.lt_irrefl]
    refine ⟨nofun, _, rfl, ?_⟩
    simp only [NaX, ← hp', ↓Z0, ↓Xp, ↓Xt, Xq, Xc, Nad, Naa, Nat.reduceAdd, Nat.reduceMul, Nat.reduceLT, Nat.reduceEqDiff, reduceIte]
  ·simp [Env.get_put]
 ·have e1 : ((xs.length : Int) != (ys.length : Int)) = true := by simp; omega
  have e2 : (xs == ys) = false := by
   simp only [beq_eq_false_iff_ne, ne_eq]
   intro e; exact hne (by rw [e])
  simp only [Nag, ↓Z0, ↓Xp, ↓Xt, Xq, Xc, Nad, Naa, Nat.reduceAdd, Nat.reduceMul, Nat.reduceLT, Nat.reduceEqDiff, reduceIte, h1, h2, e1]
  refine ⟨nofun, _, rfl, ?_⟩
  simp only [NaX, e2, ↓Z0, ↓Xp, ↓Xt, Xq, Xc, Nad, Naa, Nat.reduceAdd, Nat.reduceMul, Nat.reduceLT, Nat.reduceEqDiff, reduceIte]
def Ngw : List PV → Option PV
 | [v, w] => match inL v, inL w with
   | some xs, some ys => if xs.length ≤ 140737488355328 then some (.b (xs == ys)) else none
   | _, _ => none
 | _ => none
theorem Njm (args : List PV) (r : PV) (h : Ngw args = some r) : ∃ fuel, evP cfgE0 fuel 48 args = some r := by
 unfold Ngw at h
 split at h
 ·split at h
  ·rename_i v w xs ys hv hw
   split at h
   ·rename_i hc
    simp only [Sj] at h
    subst h
    exact ⟨xs.length + 1 + 1, Nbr (by kernel_rfl) (NaT hv) (fun _ => rfl) (Nlq (cfg := cfgE0) (by kernel_rfl) hv hw hc (by omega))⟩
   ·simp at h
  ·simp at h
 ·simp at h
def gClone : List PV → Option PV
 | [.fsl 0 []] => some (.fsl 0 [])
 | [v] => match inL v with
   | some l => if l = [] then none else if l.length ≤ 140737488355328 then some (.osl 1 l.length (Nab l)) else none
   | none => none
 | _ => none
theorem Nk0 {cfg : Cfg} (hf : cfg.fn 49 = some m49) {fuel : Nat} {st : St} {v : PV} {l : List UInt8} (hv : inL v = some l) (hne : l ≠ []) (hl : l.length ≤ 140737488355328) :
 ∃ r st', NaH cfg (fuel + 1) 49 [v] st = some (r, st') ∧ ∃ k, r = .rsl k 1 0 l.length ∧ st'.get k = some (.cells (Nab l) false) := by
 refine NaD hf ?_
 unfold m49
 have hv' := Nbp hv hne
 have hc := fun st => NbM (st := st) hv
 have ho := Nbs l
 have hpos : l.length ≠ 0 := fun e => hne (List.length_eq_zero_iff.1 e)
 have hq : NmL 0 false v .nsl = some (.b false) := by
  rw [hv']
  have i1 : Ndo? (.fsl l.length (Nab l)) = some (0, false) := by
   show (if l.length = 0 then none else some (0, false)) = _
   rw [if_neg hpos]
  have i2 : Ndo? .nsl = some (0, true) := rfl
  unfold NmL
  simp only [i1, i2]
  rfl
 obtain ⟨st', ha, hb, _⟩ := Nfy (st := (⟨st.sto, st.cnt + 56⟩ : St).put (st.cnt + 24) (some (.cells (Nab []) false))) (k := st.cnt + 24) (l := []) (key := st.cnt + 40) (news := l) (St.get_putk _ _ _) (by unfold maxBytes; simp; omega)
 rw [List.nil_append] at ha hb
 simp only [List.length_nil] at ha
 have he : Nab [] = [] := rfl
 rw [he] at ha
 simp only [Nag, ↓Z0, ↓Xp, ↓Xt, Xq, Xc, Nad, Naa, Nat.reduceAdd, Nat.reduceMul, Nat.reduceLT, Nat.reduceEqDiff, reduceIte, Xm, Nat.reduceLeDiff, hq, hc, ho, ha]
 refine ⟨nofun, _, rfl, st.cnt + 40, ?_, hb⟩
 simp only [NaX, ↓Z0, ↓Xp, ↓Xt, Xq, Xc, Nad, Naa, Nat.reduceAdd, Nat.reduceMul, Nat.reduceLT, Nat.reduceEqDiff, reduceIte]
theorem Nkn {Gl : Gmap} : CfgOK Go.Proofs.Try.prog Gl cfgE0 := Na7 Na5 fun f g h => by simp at h
theorem FRel.zero_inv {F : Nat → Nat → Option Value} {v : Value} (h : FRel F v (.fsl 0 [])) : ∃ ao cap, v = .slice ao 0 cap ∧ cap ≤ maxLen := by
 cases h with
 | fnull a cap hm => exact ⟨a, cap, rfl, hm⟩
 | fsl b o n cap ps f hc hm hF h => exact ⟨_, cap, rfl, hm⟩
theorem NlG {Gl : Gmap} : NcF Go.Proofs.Try.prog Gl 49 gClone := by
 intro args r hr
 unfold gClone at hr
 split at hr
 ·simp only [Sj] at hr
  subst hr
  intro F w base vs gv hF hG hbase ha
  obtain ⟨ha1, rfl⟩ := ha
  obtain ⟨u, rfl, hu⟩ : ∃ u, vs = [u] ∧ FRel F u (.fsl 0 []) := by
   match vs, ha1 with
   | [u], h => exact ⟨u, rfl, h.2 0 u _ rfl rfl⟩
   | [], h => have := h.1; simp at this
   | _ :: _ :: _, h => have := h.1; simp at this
  obtain ⟨ao, cap, rfl, hm⟩ := hu.zero_inv
  refine (Go.Proofs.Ytadblicfhhllgaa.clone_zero ao cap hm w).mono ?_
  rintro e w' ⟨hb, ao', cap', rfl, hm'⟩
  refine ⟨_, F, rfl, fun b o x hx => hx, ?_, hb.os, hb.tape, hb.output, hb.size, fun j hj _ => hb.block j hj, fun b o x hx => .inl hx, .fnull ao' cap' hm'⟩
  intro b o x hx
  have h1 := hF b o x hx
  have hlt := World.block_lt_of_cell? w _ h1
  rw [hb.cell (by simpa using hlt)]; exact h1
 ·split at hr
  ·rename_i v _ l hl
   split at hr
   ·simp at hr
   ·rename_i hne
    split at hr
    ·rename_i hc
     simp only [Sj] at hr
     subst hr
     obtain ⟨r, st', e1, k, e2, e3⟩ := Nk0 (cfg := cfgE0) (by kernel_rfl) (fuel := 0) (st := { sto := .leaf, cnt := 1 }) hl hne hc
     exact Njt Nkn (0 + 1) _ _ _ (Nby (by kernel_rfl) (NaT hl) ⟨r, st', e1, by rw [e2]; exact NaK e3⟩)
    ·simp at hr
  ·simp at hr
 ·simp at hr
def NkJ (l : List UInt8) : PV := if l = [] then .fsl 0 [] else .osl 1 l.length (Nab l)
end Go.Pe
set_option linter.unusedVariables false
set_option linter.unusedSimpArgs false
namespace Go.Pe
open Go Go.Am Go.RowKit

theorem Ne3 {st : St} {k : Nat} {l : List UInt8} {kk : IntKind} {n : Int} (hk : st.get k = some (.cells (Nab l) false)) : Nav st (.tup [.rsl k 1 0 l.length, .i kk n]) = some (.tup [.osl 1 l.length (Nab l), .i kk n]) := by
 have hw : NcL? st (.rsl k 1 0 l.length) = some (k, 1, l.length, Nab l) := by
  unfold NcL?
  simp only [hk, Nah]
  rw [if_pos ⟨trivial, by omega, by omega⟩]
 have hf : NaR st [.rsl k 1 0 l.length, .i kk n] = some (0, k, 1, l.length, Nab l) := by
  unfold NaR
  rw [hw]
 unfold Nav
 simp only [hf, NbP, NaA (Nbq l)]
 rfl
theorem NjE {v : PV} {l : List UInt8} (h : inL v = some l) {a : Nat} (ha : a ≤ l.length) (hl : l ≠ []) : NbD 1 none (some (.i .i64 (a : Int))) v = some (.fsl a (Nab (l.take a))) := by
 rw [Nbp h hl]
 unfold NbD
 simp only [Z0B_, Ncp (show 0 ≤ (a : Int) ∧ (a : Int) ≤ (l.length : Int) by omega), Int.toNat_natCast, Nah, Nat.mul_one, if_true, Nat.zero_mul, Nat.sub_zero, List.drop_zero]
 rw [NaO]
theorem Njs {l : List UInt8} {a : Nat} (ha : a ≤ l.length) : inL (.fsl a (Nab (l.take a))) = some (l.take a) := by
 have := Nbv (l.take a)
 rwa [List.length_take, Nat.min_eq_left ha] at this
def NdH (l : List UInt8) : PV := if l.length < 4 then .tup [.nsl, .i .i64 11] else if NaE (l.take (l.length - 4)) = l then .tup [NkJ (l.take (l.length - 4)), .i .i64 0] else .tup [.nsl, .i .i64 12]
theorem Nnb {st : St} {k : Nat} {l : List UInt8} {v : PV} (hk : st.get k = some (.cells (Nab l) false)) (hv : v.flat = true) : NaW st [.rsl k 1 0 l.length, v] = some [.fsl l.length (Nab l), v] := by
 have e1 : deep st (11 + 1) (.rsl k 1 0 l.length) = some (.fsl l.length (Nab l)) := Ncu 10 hk
 have e2 : deep st (11 + 1) v = some v := NcP 11 hv
 show mapO (deep st (11 + 1)) _ = _
 simp only [mapO, e1, e2]
theorem NkE {cfg : Cfg} (hf : cfg.fn 35 = some m35) (hx1 : cfg.ext 33 = some Ngm) (hx2 : cfg.ext 48 = some Ngw) (hx3 : cfg.ext 49 = some gClone) {fuel : Nat} {st : St} {v : PV} {l : List UInt8} (hv : inL v = some l) (hll : l.length ≤ 140737488355328) :
 ∃ r st', NaH cfg (fuel + 1) 35 [v] st = some (r, st') ∧ Nav st' r = some (NdH l) := by
 refine NaD hf ?_
 unfold m35
 have hlen := Nbx hv
 unfold NdH
 by_cases h4 : l.length < 4
 ·have e4 : ((l.length : Nat) : Int) < Int.ofNat 4 := by show ((l.length : Nat) : Int) < 4; omega
  rw [if_pos h4]
  simp only [Nag, ↓Z0, ↓Xp, ↓Xt, Xq, Xc, Nad, Naa, Nat.reduceAdd, Nat.reduceMul, Nat.reduceLT, Nat.reduceEqDiff, reduceIte, hlen, e4]
  refine ⟨nofun, _, rfl, ?_⟩
  simp only [NaX, ↓Z0, ↓Xp, ↓Xt, Xq, Xc, Nad, Naa, Nat.reduceAdd, Nat.reduceMul, Nat.reduceLT, Nat.reduceEqDiff, reduceIte]
  exact Nak rfl
 have e4 : ¬ ((l.length : Nat) : Int) < Int.ofNat 4 := by show ¬ ((l.length : Nat) : Int) < 4; omega
 rw [if_neg h4]
 have hne : l ≠ [] := by intro e; rw [e] at h4; simp at h4
 have hw : IntKind.i64.wrap ((l.length : Int) - Int.ofNat 4) = ((l.length - 4 : Nat) : Int) := by
  rw [NaI _ ⟨by show _ ≤ (l.length : Int) - 4; omega, by show (l.length : Int) - 4 < _; omega⟩]
  show (l.length : Int) - 4 = _
  omega
 have hs := NjE hv (a := l.length - 4) (by omega) hne
 have hin := Njs (l := l) (a := l.length - 4) (by omega)
 have htl : (l.take (l.length - 4)).length = l.length - 4 := by rw [List.length_take]; omega
 generalize hin0 : l.take (l.length - 4) = m at *
 have c1 : ∀ (st : St) (key : Nat), Nae (Naj cfg (NaH cfg fuel) 33) false st key [.fsl (l.length - 4) (Nab m)] = some (.rsl key 1 0 (NaE m).length, st.put key (some (.cells (Nab (NaE m)) false))) := by
  intro st key
  refine Ndu (ps' := [.fsl (l.length - 4) (Nab m)]) (NaA rfl) ?_
  rw [Nac hx1]
  unfold Ngm
  simp only [hin]
  rw [if_pos (by omega)]
 have c2 : ∀ (st : St) (key k : Nat), st.get k = some (.cells (Nab (NaE m)) false) → Nae (Naj cfg (NaH cfg fuel) 48) false st key [.rsl k 1 0 (NaE m).length, v] = some (.b (NaE m == l), st) := by
  intro st key k hk
  refine Ncg (Nnb hk (NbB hv)) ?_ rfl rfl
  rw [Nac hx2]
  unfold Ngw
  simp only [Nbv, hv]
  have : (NaE m).length ≤ 140737488355328 := by unfold NaE be4; simp; omega
  rw [if_pos this]
 by_cases hq : NaE m = l
 ·rw [if_pos hq]
  have hqb : (NaE m == l) = true := by simpa using hq
  rw [hqb] at c2
  by_cases hm : m = []
  ·have hz : NkJ m = .fsl 0 [] := by unfold NkJ; rw [if_pos hm]
   have hl4 : l.length - 4 = 0 := by rw [← htl, hm]; rfl
   have hb0 : Nab m = [] := by rw [hm]; rfl
   rw [hz]
   rw [hl4, hb0] at hs c1
   rw [hl4] at hw
   have c3 : ∀ (st : St) (key : Nat), Nae (Naj cfg (NaH cfg fuel) 49) false st key [.fsl 0 []] = some (.fsl 0 [], st) := by
    intro st key
    refine Ncg (ps' := [.fsl 0 []]) (NaA rfl) ?_ rfl rfl
    rw [Nac hx3]
    rfl
   simp only [Nag, ↓Z0, ↓Xp, ↓Xt, Xq, Xc, Nad, Naa, Nat.reduceAdd, Nat.reduceMul, Nat.reduceLT, Nat.reduceEqDiff, reduceIte, Xm, Nat.reduceLeDiff, hlen, e4, hw, hs, c1, c2, unP, c3]
   refine ⟨nofun, _, rfl, ?_⟩
   simp only [NaX, ↓Z0, ↓Xp, ↓Xt, Xq, Xc, Nad, Naa, Nat.reduceAdd, Nat.reduceMul, Nat.reduceLT, Nat.reduceEqDiff, reduceIte]
   exact Nak rfl
  ·have hz : NkJ m = .osl 1 m.length (Nab m) := by unfold NkJ; rw [if_neg hm]
   rw [hz]
   have c3 : ∀ (st : St) (key : Nat), Nae (Naj cfg (NaH cfg fuel) 49) false st key [.fsl (l.length - 4) (Nab m)] = some (.rsl key 1 0 m.length, st.put key (some (.cells (Nab m) false))) := by
    intro st key
    refine Ndu (ps' := [.fsl (l.length - 4) (Nab m)]) (NaA rfl) ?_
    rw [Nac hx3]
    have hg : gClone [.fsl (l.length - 4) (Nab m)] = match inL (.fsl (l.length - 4) (Nab m)) with
     | some l => if l = [] then none else if l.length ≤ 140737488355328 then some (.osl 1 l.length (Nab l)) else none
     | none => none := by
     unfold gClone
     split
     ·rename_i h
      simp only [List.cons.injEq, PV.fsl.injEq, and_true] at h
      have := congrArg List.length h.2
      rw [Nah] at this
      exact absurd (List.length_eq_zero_iff.1 this) hm
     ·rename_i h; simp only [List.cons.injEq, and_true] at h; subst h; rfl
     ·rename_i h; simp at h
    rw [hg]
    simp only [hin]
    rw [if_neg hm, if_pos (by omega)]
   simp only [Nag, ↓Z0, ↓Xp, ↓Xt, Xq, Xc, Nad, Naa, Nat.reduceAdd, Nat.reduceMul, Nat.reduceLT, Nat.reduceEqDiff, reduceIte, Xm, Nat.reduceLeDiff, hlen, e4, hw, hs, c1, c2, unP, c3]
   refine ⟨nofun, _, rfl, ?_⟩
   simp only [NaX, ↓Z0, ↓Xp, ↓Xt, Xq, Xc, Nad, Naa, Nat.reduceAdd, Nat.reduceMul, Nat.reduceLT, Nat.reduceEqDiff, reduceIte]
   exact Ne3 (St.get_putk _ _ _)
 ·rw [if_neg hq]
  have hqb : (NaE m == l) = false := by simpa using hq
  rw [hqb] at c2
  simp only [Nag, ↓Z0, ↓Xp, ↓Xt, Xq, Xc, Nad, Naa, Nat.reduceAdd, Nat.reduceMul, Nat.reduceLT, Nat.reduceEqDiff, reduceIte, Xm, Nat.reduceLeDiff, hlen, e4, hw, hs, c1, c2, unP]
  refine ⟨nofun, _, rfl, ?_⟩
  simp only [NaX, ↓Z0, ↓Xp, ↓Xt, Xq, Xc, Nad, Naa, Nat.reduceAdd, Nat.reduceMul, Nat.reduceLT, Nat.reduceEqDiff, reduceIte]
  exact Nak rfl
def NeR : List PV → Option PV
 | [v] => match inL v with
   | some l => if l.length ≤ 140737488355328 then some (NdH l) else none
   | none => none
 | _ => none
end Go.Pe
