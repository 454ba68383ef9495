/-
  Functions: what plain data tells, the program does. No condition; nothing of the program.
-/
import Derived.Test.YtaepgkghgcchnaaPeCc
set_option linter.unusedVariables false
set_option linter.unusedSimpArgs false
namespace Go.Pe
open Go Go.Am Go.RowKit

theorem putArgs_rel {G : Ghost} : ∀ (ps : List PV) (vs : List Value) (k : Nat) (e : Env), CRel G vs ps → ∀ t, (∀ x, (t < k ∨ k + ps.length ≤ t) → VRel G x (Env.get e t) → VRel G x (Env.get (putArgs ps k e) t)) ∧ (∀ i v, t = k + i → vs[i]? = some v → VRel G v (Env.get (putArgs ps k e) t))
  | [], vs, k, e, hc, t => by
    have : vs = [] := by have := hc.1; simpa using this
    subst this
    exact ⟨fun x _ h => h, fun i v _ h => by simp at h⟩
  | p :: ps, [], k, e, hc, t => by have := hc.1; simp at this
  | p :: ps, v :: vs, k, e, hc, t => by
    obtain ⟨h1, h2⟩ := hc.uncons
    obtain ⟨g1, g2⟩ := putArgs_rel ps vs (k + 1) (e.put k p) h2 t
    refine ⟨fun x hx h => ?_, fun i u ht hu => ?_⟩
    · simp only [putArgs]
      refine g1 x (by simp at hx; omega) ?_
      rw [Env.get_put_ne (by simp at hx; omega)]; exact h
    · simp only [putArgs]
      cases i with
      | zero =>
        simp only [List.getElem?_cons_zero, Option.some.injEq] at hu
        subst hu
        refine g1 v (.inl (by omega)) ?_
        have : t = k := by omega
        subst this
        exact Env.get_put_rel h1
      | succ i => exact g2 i u (by omega) (by simpa using hu)
def resVar (tmps : Array Value) : ResultVar → Sem Value
  | .tmp t => pure (tmps.getD t undef)
  | .cell x t => do loadVar t (← asAddr (tmps.getD x undef))
theorem results_eq (fn : Func) (tmps : Array Value) : results fn tmps = (do let vs ← fn.results.mapM (resVar tmps); pure (if h : vs.size = 1 then vs[0] else .tuple vs)) := by
  unfold results
  congr 1
theorem results_list {P : Program} {V : List Nat} {G : Ghost} {a : Act} {c : Now} {w : World} {base : Nat} (hL : NowRel V G a c) (hs : Sim G c.st w base) : ∀ (rs : List ResultVar) (ms : List MRes) (ps : List PV), mapO (cRes P V) rs = some ms → mapO (resP c) ms = some ps →
    ∃ vs : List Value, (rs.mapM (resVar a.tmps)).run P w = .ok vs w ∧ CRel G vs ps
  | [], ms, ps, h1, h2 => by
    simp [mapO] at h1; subst h1
    simp [mapO] at h2; subst h2
    exact ⟨[], rfl, .nil⟩
  | r :: rs, ms, ps, h1, h2 => by
    simp only [mapO] at h1
    split at h1
    · rename_i m ms' hm hms
      simp only [Option.some.injEq] at h1
      subst h1
      simp only [mapO] at h2
      split at h2
      · rename_i p ps' hp hps
        simp only [Option.some.injEq] at h2
        subst h2
        obtain ⟨vs, hr, hc⟩ := results_list hL hs rs ms' ps' hms hps
        cases r with
        | tmp t =>
          simp only [cRes] at hm
          split at hm
          · rename_i hV
            simp only [Option.some.injEq] at hm
            subst hm
            simp only [resP, Option.some.injEq] at hp
            subst hp
            exact ⟨a.tmps.getD t undef :: vs, by simp only [List.mapM_cons, Sem.run_bind, resVar, Sem.run_pure, Result.andThen_ok]; rw [hr]; rfl, .cons (hL t hV) hc⟩
          · simp at hm
        | cell x t =>
          simp only [cRes] at hm
          split at hm
          · rename_i hV
            simp only [Option.bind_eq_bind, Option.bind_eq_some_iff, Option.some.injEq] at hm
            obtain ⟨g, hg, n, hn, rfl⟩ := hm
            simp only [resP] at hp
            split at hp
            · rename_i cs hcs
              obtain ⟨b, o, us, hx, hr2, hc2, hln⟩ := hs.range (hL x hV) hcs
              obtain ⟨u, hu, hru⟩ := loadVar_ok (P := P) hg hn hr2 (by rw [hc2.1]; exact hln) hc2 hp
              have e1 : (resVar a.tmps (.cell x t)).run P w = .ok u w := by simp [resVar, hx, asAddr, hu]
              exact ⟨u :: vs, by rw [List.mapM_cons, Sem.run_bind, e1, Result.andThen_ok, Sem.run_bind, hr, Result.andThen_ok]; rfl, .cons hru hc⟩
            · simp at hp
          · simp at hm
      · simp at h2
    · simp at h1
theorem evFn_ok {P : Program} {Gl : Gmap} {cfg : Cfg} (hcfg : CfgOK P Gl cfg) : ∀ fuel, CallOK P Gl (evFn cfg fuel)
  | 0 => fun f args st r st' h => by simp [evFn] at h
  | fuel + 1 => by
    have hE := evFn_ok hcfg fuel
    intro f args st r st' h
    simp only [evFn] at h
    split at h
    · rename_i m hm
      obtain ⟨modes, hfns⟩ := hcfg.fns
      have hcf := hfns f m hm
      simp only [cFunc, Option.bind_eq_bind, Option.bind_eq_some_iff] at hcf
      obtain ⟨fn, hfn, c, hbody, body, hbd, res, hres, hcf⟩ := hcf
      split at hcf
      · rename_i hname
        simp only [Option.some.injEq] at hcf
        subst hcf
        unfold evBody at h
        simp only [] at h
        have hbodyOK : hasBody P f = true := by
          simp only [hasBody, hfn, hbody, Option.isSome_some, Bool.true_and]
          exact hname
        have key : ∀ (e : MExit) (x' : Now), evCode cfg (evFn cfg fuel) (fuel + 1) body { env := putArgs args 0 .leaf, st } = some (e, x') → (e = .nrm ∨ e = .ret) → (match mapO (resP x') res with | some [v] => some (v, x'.st) | some vs => some (.tup vs, x'.st) | none => none) = some (r, st') →
            hasBody P f = true ∧ st.cnt ≤ st'.cnt ∧ ∀ G w base vs, Sim G st w base → Full Gl G st → CRel G vs args → (∀ k, st.cnt ≤ k → G.B k = none) →
              Calls P f vs.toArray w fun e w' => ∃ v G', e = .returned v ∧ VRel G' v r ∧ Step base (fun k => st.cnt ≤ k ∧ k < st'.cnt) G st w G' st' w' := by
          intro e x' hev hex hr
          have hcnt := evCode_cnt hE (fuel + 1) body _ _ _ hev
          simp only [] at hcnt
          obtain ⟨ps, hps, hst', hrr⟩ : ∃ ps, mapO (resP x') res = some ps ∧ st' = x'.st ∧ ((∃ v, ps = [v] ∧ r = v) ∨ (ps.length ≠ 1 ∧ r = .tup ps)) := by
            split at hr
            · rename_i v hv
              simp only [Option.some.injEq, Prod.mk.injEq] at hr
              exact ⟨[v], hv, hr.2.symm, .inl ⟨v, rfl, hr.1.symm⟩⟩
            · rename_i vs hne hv
              simp only [Option.some.injEq, Prod.mk.injEq] at hr
              refine ⟨vs, hv, hr.2.symm, .inr ⟨?_, hr.1.symm⟩⟩
              intro h1
              match vs, h1 with
              | [v], _ => exact hne v rfl
            · simp at hr
          subst hst'
          refine ⟨hbodyOK, hcnt, ?_⟩
          intro G w base vs hs hfu hc hk
          refine calls_of_wp hfn hbody ?_
          have hnow : NowRel (useF fn).eraseDups G { tmps := vs.toArray ++ Array.replicate (fn.ntmps - vs.toArray.size) undef, defers := [] } { env := putArgs args 0 .leaf, st } := by
            intro t ht
            obtain ⟨g1, g2⟩ := putArgs_rel args vs 0 .leaf hc t
            have hleaf : Env.get (Trie.leaf : Env) t = .und := rfl
            by_cases hlt : t < vs.length
            · have e1 : (vs.toArray ++ Array.replicate (fn.ntmps - vs.toArray.size) undef).getD t undef = vs[t] := by
                simp [Array.getD_eq_getD_getElem?, Array.getElem?_append, hlt]
              show VRel G ((vs.toArray ++ Array.replicate (fn.ntmps - vs.toArray.size) undef).getD t undef) _
              rw [e1]
              exact g2 t vs[t] (by omega) (by simp [hlt])
            · exact g1 _ (.inr (by rw [← hc.1]; omega)) (by rw [hleaf]; exact .und _)
          refine code_sound hcfg hE (fuel + 1) base c body hbd G _ w _ e x' hnow (by simp; omega) hs hfu hk hev _ ?_
          intro a' w' G' q1 q2 q3 q4 q5
          obtain ⟨us, hru, hcu⟩ := results_list (P := P) q1 q5.sim fn.results.toList res ps hres hps
          have hrun : ∃ v, (results fn a'.tmps).run P w' = .ok v w' ∧ VRel G' v r := by
            have hm : (fn.results.mapM (resVar a'.tmps)).run P w' = .ok us.toArray w' := by
              rw [Array.mapM_eq_mapM_toList]
              simp only [Sem.run_map, hru, Result.andThen_ok]
            rw [results_eq]
            rcases hrr with ⟨v, rfl, rfl⟩ | ⟨hne, rfl⟩
            · match us, hcu with
              | [u], hcu =>
                refine ⟨u, ?_, hcu.2 0 u r rfl rfl⟩
                rw [Sem.run_bind, hm]
                simp
              | [], hcu => have := hcu.1; simp at this
              | _ :: _ :: _, hcu => have := hcu.1; simp at this
            · have hul : us.length ≠ 1 := by rw [hcu.1]; exact hne
              refine ⟨.tuple us.toArray, ?_, VRel.tup_c (by simpa using hcu)⟩
              rw [Sem.run_bind, hm]
              simp [hul]
          obtain ⟨v, hv1, hv2⟩ := hrun
          have hfin : a'.defers = [] ∧ ∃ v, (results fn a'.tmps).run P w' = .ok v w' ∧ ∃ v' G'', (Ending.returned v : Ending) = .returned v' ∧ VRel G'' v' r ∧ Step base (fun k => st.cnt ≤ k ∧ k < x'.st.cnt) G st w G'' x'.st w' := ⟨q3, v, hv1, v, G', rfl, hv2, q5⟩
          rcases hex with rfl | rfl <;> exact hfin
        split at h
        · simp at h
        · rename_i e c' hne hev
          refine key e c' hev ?_ h
          cases e with
          | nrm => exact .inl rfl
          | ret => exact .inr rfl
          | ex id => exact absurd rfl (hne id)
        · simp at h
      · simp at hcf
    · simp at h
/-- a function by value -/
theorem evP_ok {P : Program} {Gl : Gmap} {cfg : Cfg} (hcfg : CfgOK P Gl cfg) (fuel : Nat) (f : FuncId) : PureOK P Gl f (evP cfg fuel f) := runPure_ok hcfg (evFn_ok hcfg fuel) f
end Go.Pe
