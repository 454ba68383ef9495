/-
  Calls among objects, as operations. No condition; nothing of the program.
-/
import Derived.Test.YtaepgkghgcchnaaPeZ
set_option linter.unusedVariables false
set_option linter.unusedSimpArgs false
namespace Go.Pe
open Go Go.Am Go.RowKit

theorem ARel.plain {F : Nat → Nat → Option Value} {w : World} {base : Nat} {vs : List Value} {l : List PV} (h : FC F vs l) : ARel F w base vs l none := by
  cases l with
  | nil => exact ⟨h, rfl⟩
  | cons p l =>
    cases p
    case osl sz n cs =>
      exfalso
      match vs, h with
      | [], h => have := h.1; simp at this
      | v :: vs, h => have := h.2 0 v _ rfl rfl; cases this
    all_goals exact ⟨h, rfl⟩
theorem pure_call {P : Program} {Gl : Gmap} {f : FuncId} {g : List PV → Option PV} (hp : PureOK P Gl f g) {G : Ghost} {st : St} {w : World} {base : Nat} (hs : Sim G st w base) (hgl : ∀ b o u, Gl b o = some u → G.F b o = some u) {own : Bool} {key : Nat} (hkey : G.B key = none) {vs : List Value} {ps : List PV} (hc : CRel G vs ps) {r : PV} {st' : St} (he : callStep g own st key ps = some (r, st')) :
    Calls P f vs.toArray w fun e w' => ∃ v G', e = .returned v ∧ VRel G' v r ∧ Step base (fun k => k = key) G st w G' st' w' := by
  have gen : ∀ {l : List PV} {r0 : PV}, deepL st ps = some l → g l = some r0 → recvRes (if r0.closedB then st else freezeK st (keysL st ps)) key r0 = some (r, st') →
      Calls P f vs.toArray w fun e w' => ∃ v G', e = .returned v ∧ VRel G' v r ∧ Step base (fun k => k = key) G st w G' st' w' := by
    intro l r0 hl hg hrec
    obtain ⟨G1, h1, h2, h3, h4, h5⟩ := freeze_ex hs (keysL st ps)
    have hfc := deepL_rel h5 hc (fun k hk => hk) hl
    refine (hp l r0 hg G1.F w base vs none h3.frz (fun b o u hu => h1.F b o u (hgl b o u hu)) hs.bas (ARel.plain hfc)).mono ?_
    rintro e w' ⟨v, F', rfl, a1, a2, a3, a4, a5, a6, a7, a8, a9⟩
    obtain ⟨G', b1, b2⟩ := after_call hs h1 h2 h3 h4 (gk := none) (gv := none) (.inl ⟨rfl, rfl⟩) a1 a2 a3 a4 a5 a6 a7 a8 a9 (st1 := st) rfl key hkey hrec
    exact ⟨v, G', rfl, b1, b2⟩
  unfold callStep at he
  split at he
  · rename_i k sz off n rest
    split at he
    · rename_i cs hg
      split at he
      · rename_i hcond
        obtain ⟨rfl, hl, hz, hnk⟩ := hcond
        split at he
        · rename_i l l2 hl1 hl2
          split at he
          · rename_i r0 hr0
            match vs, hc with
            | [], hc => have := hc.1; simp at this
            | v0 :: vs', hc =>
              obtain ⟨c1, c2⟩ := hc.uncons
              obtain ⟨G1, h1, h2, h3, h4, h5⟩ := freeze_ex hs (keysL st cs ++ keysL st rest)
              have hnk' : k ∉ keysL st cs ++ keysL st rest := by
                intro h
                have : (keysL st cs ++ keysL st rest).contains k = true := by simpa using h
                rw [this] at hnk; simp at hnk
              obtain ⟨blk, size, hB, ho⟩ := own_out hs hg hl c1 h1 h2 h3 h5 (fun j hj => List.mem_append_left _ hj) hnk' hl1
              have hfc := deepL_rel h5 c2 (fun j hj => List.mem_append_right _ hj) hl2
              refine (hp _ r0 hr0 G1.F w base (v0 :: vs') (some blk) h3.frz (fun b o u hu => h1.F b o u (hgl b o u hu)) hs.bas ⟨v0, vs', blk, rfl, ho, hfc, rfl⟩).mono ?_
              rintro e w' ⟨v, F', rfl, a1, a2, a3, a4, a5, a6, a7, a8, a9⟩
              obtain ⟨G', b1, b2⟩ := after_call hs h1 h2 h3 h4 (gk := some k) (gv := some blk) (.inr ⟨k, blk, size, cs, rfl, rfl, hg, hB, hnk'⟩) a1 a2 a3 a4 a5 a6 a7 a8 a9 (st1 := st.put k none) rfl key hkey he
              exact ⟨v, G', rfl, b1, b2⟩
          · simp at he
        · simp at he
      · simp at he
    · simp at he
  · split at he
    · rename_i l hl
      split at he
      · rename_i r0 hr0
        exact gen hl hr0 he
      · simp at he
    · simp at he

/-- an operation, be it a call: what comes behind it sees what plain data tells -/
def OpW (P : Program) (base : Nat) (N : Nat → Prop) (G : Ghost) (st : St) (w : World) (o : Oper) (a : Act) (r : PV) (st' : St) : Prop :=
  ∀ (K : Act → World → Prop) (Q : Exit → Act → World → Prop), (∀ v w' G', VRel G' v r → Step base N G st w G' st' w' → K (a.put o.dst v) w') → o.wp P a w K Q
theorem OpW.of_ok {P : Program} {base : Nat} {N : Nat → Prop} {G : Ghost} {st : St} {w : World} {o : Oper} {a : Act} {r : PV} {st' : St} (h : OpOK P base N G st w (execOp a.eval o) r st') : OpW P base N G st w o a r st' := by
  intro K Q hK
  obtain ⟨n, w', G', hrun, hn, hst⟩ := h
  unfold Oper.wp
  rw [hrun]
  rcases hn with ⟨v, rfl, hv⟩ | ⟨rfl, rfl⟩
  · exact hK v w' G' hv hst
  · exact hK undef w' G' (.tup #[] [] rfl (fun i v p h => by simp at h)) hst
theorem OpW.of_calls {P : Program} {base : Nat} {N : Nat → Prop} {G : Ghost} {st : St} {w : World} {o : Oper} {a : Act} {r : PV} {st' : St} {f : FuncId} {args : Array Value} (hrun : (execOp a.eval o).run P w = .ok (.enter f args) w)
    (h : Calls P f args w fun e w' => ∃ v G', e = .returned v ∧ VRel G' v r ∧ Step base N G st w G' st' w') : OpW P base N G st w o a r st' := by
  intro K Q hK
  unfold Oper.wp
  rw [hrun]
  refine Calls.mono h ?_
  rintro e w' ⟨v, G', rfl, hv, hst⟩
  exact hK v w' G' hv hst
theorem run_call {P : Program} {a : Act} {o : Oper} {c : Call} (hop : o.op = .call c) {f : FuncId} (hb : hasBody P f = true) {cap : Array Value} {x : Operand} (hca : c.callee = .value x) (hx : a.eval x = .func (.func f) #[] cap) (w : World) :
    (execOp a.eval o).run P w = .ok (.enter f (c.args.map a.eval ++ cap)) w := by
  unfold hasBody at hb
  split at hb
  · rename_i fn hfn
    simp only [Bool.and_eq_true] at hb
    have h1 : decide (fn.name = "runtime.NumGoroutine") = false := by simpa using hb.2
    have h2 : fn.body.isNone = false := by cases hbd : fn.body <;> simp_all
    have := run_enter (P := P) hfn h1 h2 (c.args.map a.eval ++ cap) w
    simp [execOp, hop, resolve, hca, hx, Deferred.ofValue, invoke, this]
  · simp at hb
theorem run_callb {P : Program} {a : Act} {o : Oper} {c : Call} (hop : o.op = .call c) {f : FuncId} (hb : hasBody P f = true) {pre : Array Value} {x : Operand} (hca : c.callee = .value x) (hx : a.eval x = .func (.func f) pre #[]) (w : World) :
    (execOp a.eval o).run P w = .ok (.enter f (pre ++ c.args.map a.eval)) w := by
  unfold hasBody at hb
  split at hb
  · rename_i fn hfn
    simp only [Bool.and_eq_true] at hb
    have h1 : decide (fn.name = "runtime.NumGoroutine") = false := by simpa using hb.2
    have h2 : fn.body.isNone = false := by cases hbd : fn.body <;> simp_all
    have := run_enter (P := P) hfn h1 h2 (pre ++ c.args.map a.eval) w
    simp [execOp, hop, resolve, hca, hx, Deferred.ofValue, invoke, this]
  · simp at hb
structure CfgOK (P : Program) (Gl : Gmap) (cfg : Cfg) : Prop where
  ext : ∀ f g, cfg.ext f = some g → PureOK P Gl f g
  fns : ∃ modes, ∀ f m, cfg.fn f = some m → cFunc P modes f = some m
theorem runPure_ok {P : Program} {Gl : Gmap} {cfg : Cfg} (hc : CfgOK P Gl cfg) {callE : CallE} (hE : CallOK P Gl callE) (f : FuncId) : PureOK P Gl f (runPure cfg callE f) := by
  unfold runPure
  split
  · rename_i g hg
    exact hc.ext f g hg
  · exact callP_ok hE f
/-- keys that an operation may give: its own, and those that a call among objects takes -/
def Keys (key : Nat) (st st' : St) : Nat → Prop := fun k => k = key ∨ st.cnt ≤ k ∧ k < st'.cnt
theorem Step.weaken {base : Nat} {N N' : Nat → Prop} {G : Ghost} {st : St} {w : World} {G' : Ghost} {st' : St} {w' : World} (h : Step base N G st w G' st' w') (hN : ∀ k, N k → N' k) : Step base N' G st w G' st' w' :=
  ⟨h.le, fun k x hx => (h.new k x hx).imp id (hN k), h.sim, h.os, h.tape, h.output, h.size, h.kept, h.own, h.fnew, h.ful⟩
theorem OpW.weaken {P : Program} {base : Nat} {N N' : Nat → Prop} {G : Ghost} {st : St} {w : World} {o : Oper} {a : Act} {r : PV} {st' : St} (h : OpW P base N G st w o a r st') (hN : ∀ k, N k → N' k) : OpW P base N' G st w o a r st' :=
  fun K Q hK => h K Q fun v w' G' hv hst => hK v w' G' hv (hst.weaken hN)
theorem St.put_cnt (st : St) (k : Nat) (o : Option PObj) : (st.put k o).cnt = st.cnt := rfl
theorem recvRes_cnt {st : St} {key : Nat} {v p : PV} {st' : St} (h : recvRes st key v = some (p, st')) : st'.cnt = st.cnt := by
  unfold recvRes at h
  split at h
  · simp only [Option.some.injEq, Prod.mk.injEq] at h; obtain ⟨_, rfl⟩ := h; rfl
  · split at h
    · split at h
      · simp only [Option.some.injEq, Prod.mk.injEq] at h; obtain ⟨_, rfl⟩ := h; rfl
      · simp at h
    · simp only [Option.some.injEq, Prod.mk.injEq] at h; obtain ⟨_, rfl⟩ := h; rfl
  · simp only [Option.some.injEq, Prod.mk.injEq] at h; obtain ⟨_, rfl⟩ := h; rfl
theorem callStep_cnt {g : List PV → Option PV} {own : Bool} {st : St} {key : Nat} {ps : List PV} {r : PV} {st' : St} (h : callStep g own st key ps = some (r, st')) : st'.cnt = st.cnt := by
  unfold callStep at h
  repeat' split at h
  all_goals first | (simp at h; done) | skip
  all_goals (have := recvRes_cnt h; first | (rw [this]; done) | (rw [this]; rfl) | (rw [this]; simp [freezeK_cnt, St.put_cnt]))

theorem evOp_cnt {cfg : Cfg} {callE : CallE} {ρ : Arg → PV} {st : St} {key : Nat} {m : MOp} {r : PV} {st' : St} (hpl : m.plain = true) (he : evOp cfg callE ρ st key m = some (r, st')) : st'.cnt = st.cnt := by
  have hsto : ∀ {n : Nat} {a v : PV} {s : St}, storeP st n a v = some s → s.cnt = st.cnt := by
    intro n a v s h
    unfold storeP at h
    repeat' split at h
    all_goals first | (simp at h; done) | (simp only [Option.some.injEq] at h; subst h; rfl)
  have happ : ∀ {k sz b m : Nat} {l : List PV} {p q : PV} {s : St}, appendP st k sz b m l p = some (q, s) → s.cnt = st.cnt := by
    intro k sz b m l p q s h
    unfold appendP at h
    repeat' split at h
    all_goals first | (simp at h; done) | (cases h; rfl)
  have hcop : ∀ {sz m : Nat} {l : List PV} {p q : PV} {s : St}, copyP st sz m l p = some (q, s) → s.cnt = st.cnt := by
    intro sz m l p q s h
    unfold copyP at h
    repeat' split at h
    all_goals first | (simp at h; done) | (cases h; rfl)
  cases m with
  | call => simp [MOp.plain] at hpl
  | calle => simp [MOp.plain] at hpl
  | callv => simp [MOp.plain] at hpl
  | callq => simp [MOp.plain] at hpl
  | slice arr sz x lo hi =>
    cases arr <;> simp only [evOp] at he
    · obtain ⟨_, _, h⟩ := Option.map_eq_some_iff.1 he; cases h; rfl
    · repeat' split at he
      all_goals first | (simp at he; done) | (cases he; rfl)
  | indexAddr arr sz x i =>
    cases arr <;> simp only [evOp] at he
    all_goals (repeat' split at he)
    all_goals first | (simp at he; done) | (cases he; rfl)
  | conv c x =>
    simp only [evOp] at he
    repeat' split at he
    all_goals first | (simp at he; done) | (cases he; rfl) | (obtain ⟨_, _, h⟩ := Option.map_eq_some_iff.1 he; cases h; rfl)
  | store n a x =>
    simp only [evOp] at he
    obtain ⟨_, h1, h⟩ := Option.map_eq_some_iff.1 he; cases h; exact hsto h1
  | append =>
    simp only [evOp] at he
    repeat' split at he
    all_goals first | (simp at he; done) | exact happ he
  | appstr =>
    simp only [evOp] at he
    repeat' split at he
    all_goals first | (simp at he; done) | exact happ he
  | copy =>
    simp only [evOp] at he
    repeat' split at he
    all_goals first | (simp at he; done) | exact hcop he
  | _ =>
    simp only [evOp] at he
    repeat' split at he
    all_goals first | (simp at he; done) | (cases he; rfl) | (obtain ⟨_, _, h⟩ := Option.map_eq_some_iff.1 he; cases h; rfl)
theorem evOp_w {P : Program} {Gl : Gmap} {V : List Nat} {modes : FuncId → Option Bool} {cfg : Cfg} (hcfg : CfgOK P Gl cfg) {callE : CallE} (hE : CallOK P Gl callE) {o : Oper} {m : MOp} (hm : cOp P V modes o.op = some m) (hpc : m.plain = true ∨ isCallOp o.op = true) {G : Ghost} {st : St} {w : World} {base : Nat} (hs : Sim G st w base) (hgl : ∀ b o u, Gl b o = some u → G.F b o = some u) (hfu : (∃ f l, m = .calle f l) ∨ (∃ f l, m = .callv f l) → Full Gl G st) {a : Act} {ρ : Arg → PV} (hρ : ∀ x y, cArg V x = some y → VRel G (a.eval x) (ρ y))
    {key : Nat} (hkey : G.B key = none) (hcnt : ∀ k, st.cnt ≤ k → G.B k = none) {r : PV} {st' : St} (he : evOp cfg callE ρ st key m = some (r, st')) : st.cnt ≤ st'.cnt ∧ OpW P base (Keys key st st') G st w o a r st' := by
  by_cases hpl : m.plain = true
  · exact ⟨Nat.le_of_eq (evOp_cnt hpl he).symm, (OpW.of_ok (evOp_sound hm hpl hs hρ hkey he)).weaken fun k h => .inl h⟩
  · -- a call
    cases hop : o.op <;> rw [hop] at hm
    case call c =>
      simp only [cOp] at hm
      split at hm
      · rename_i f hca
        split at hm
        · rename_i l hb hl
          have hargs := args_rel hρ hl
          have hrun := run_call (P := P) (a := a) hop hb (cap := #[]) hca rfl w
          have e1 : c.args.map a.eval ++ #[] = (c.args.toList.map a.eval).toArray := by apply Array.ext'; simp
          rw [e1] at hrun
          split at hm
          · rename_i own hmo
            simp only [Option.some.injEq] at hm
            subst hm
            simp only [evOp] at he
            exact ⟨Nat.le_of_eq (callStep_cnt he).symm, (OpW.of_calls hrun (pure_call (runPure_ok hcfg hE f) hs hgl hkey hargs he)).weaken fun k h => .inl h⟩
          · simp only [Option.some.injEq] at hm
            subst hm
            simp only [evOp] at he
            split at he
            · simp at he
            · obtain ⟨_, h1, h2⟩ := hE f _ _ _ _ he
              exact ⟨h1, (OpW.of_calls hrun (h2 G w base _ hs (hfu (.inl ⟨_, _, rfl⟩)) hargs hcnt)).weaken fun k h => .inr h⟩
        · simp at hm
      · rename_i t hca
        simp only [Option.bind_eq_bind, Option.bind_eq_some_iff, Option.some.injEq] at hm
        obtain ⟨x, hx, l, hl, rfl⟩ := hm
        simp only [evOp] at he
        split at he
        · rename_i g cap hg
          split at he
          · simp at he
          · rename_i hext
            have hv := hρ _ _ hx
            rw [hg] at hv
            obtain ⟨q, hq⟩ : ∃ q, a.eval (.tmp t) = q := ⟨_, rfl⟩
            rw [hq] at hv
            cases hv with
            | fn _ cs _ hlc hc =>
              obtain ⟨hb, h1, h2⟩ := hE g _ _ _ _ he
              have hrun := run_call (P := P) (a := a) hop hb (cap := cs) hca hq w
              have e1 : c.args.map a.eval ++ cs = (c.args.toList.map a.eval ++ cs.toList).toArray := by apply Array.ext'; simp
              rw [e1] at hrun
              have hcc : CRel G cs.toList cap := ⟨by simpa using hlc, fun i v p hv hp => hc i v p (by simpa using hv) hp⟩
              exact ⟨h1, (OpW.of_calls hrun (h2 G w base _ hs (hfu (.inr ⟨_, _, rfl⟩)) ((args_rel hρ hl).append hcc) hcnt)).weaken fun k h => .inr h⟩
        · rename_i g pre hg
          split at he
          · simp at he
          · rename_i hext
            have hv := hρ _ _ hx
            rw [hg] at hv
            obtain ⟨q, hq⟩ : ∃ q, a.eval (.tmp t) = q := ⟨_, rfl⟩
            rw [hq] at hv
            cases hv with
            | bfn _ cs _ hlc hc =>
              obtain ⟨hb, h1, h2⟩ := hE g _ _ _ _ he
              have hrun := run_callb (P := P) (a := a) hop hb (pre := cs) hca hq w
              have e1 : cs ++ c.args.map a.eval = (cs.toList ++ c.args.toList.map a.eval).toArray := by apply Array.ext'; simp
              rw [e1] at hrun
              have hcc : CRel G cs.toList pre := ⟨by simpa using hlc, fun i v p hv hp => hc i v p (by simpa using hv) hp⟩
              exact ⟨h1, (OpW.of_calls hrun (h2 G w base _ hs (hfu (.inr ⟨_, _, rfl⟩)) (hcc.append (args_rel hρ hl)) hcnt)).weaken fun k h => .inr h⟩
        · simp at he
      all_goals first | (simp at hm; done) | (exfalso; rcases hpc with h | h; exact hpl h; rw [hop] at h; rename_i hca; simp [isCallOp, hca] at h)
    all_goals (exfalso; rcases hpc with h | h; exact hpl h; rw [hop] at h; simp [isCallOp] at h)
end Go.Pe
