/-
  Open-order regions in the logic: nothing hangs on when an operation runs that reads only what no other one writes. No condition; nothing of the program.
-/
import Derived.Test.YtjnofhibldppoaaPe7
set_option linter.unusedVariables false
set_option linter.unusedSimpArgs false
namespace Go.Pe
open Go

def pureB : MOp → Bool
  | .mv _ | .pick .. | .bin .. | .eqb .. | .eqn .. | .eqs .. | .un .. | .field .. | .index .. | .extract .. | .len _ | .slen _ | .alen _ | .min .. | .max .. | .substr .. | .sindex .. | .fieldAddr .. | .build .. | .nilck _ | .indexAddr .. => true
  | .conv (.int _) _ | .conv .same _ => true
  | _ => false
def loadB : MOp → Bool
  | .load .. => true
  | _ => false
theorem pure_indep {cfg : Cfg} {callE : CallE} {ρ : Arg → PV} {st : St} {key : Nat} {m : MOp} (hp : pureB m = true) {v : PV} {st' : St} (h : evOp cfg callE ρ st key m = some (v, st')) : st' = st ∧ ∀ st2 key2, evOp cfg callE ρ st2 key2 m = some (v, st2) := by
  cases m
  case conv c x =>
    cases c with
    | int k =>
      simp only [evOp] at h ⊢
      split at h <;> simp_all
    | same =>
      simp only [evOp] at h ⊢
      split at h <;> simp_all
    | _ => simp [pureB] at hp
  case indexAddr arr sz x i =>
    cases arr <;> simp only [evOp] at h ⊢ <;> (repeat' split at h) <;> simp_all
  all_goals first
    | (simp [pureB] at hp; done)
    | (simp only [evOp] at h ⊢; simp only [Option.some.injEq, Prod.mk.injEq] at h; obtain ⟨rfl, rfl⟩ := h; exact ⟨rfl, fun _ _ => rfl⟩)
    | (simp only [evOp] at h ⊢; obtain ⟨a, ha, he⟩ := Option.map_eq_some_iff.1 h; cases he; exact ⟨rfl, fun _ _ => by rw [ha]; rfl⟩)
    | (simp only [evOp] at h ⊢; (repeat' split at h) <;> first | (simp at h; done) | (cases h; exact ⟨rfl, fun _ _ => by simp_all⟩) | (obtain ⟨a, ha, he⟩ := Option.map_eq_some_iff.1 h; cases he; exact ⟨rfl, fun _ _ => by simp_all⟩))
theorem load_indep {cfg : Cfg} {callE : CallE} {ρ : Arg → PV} {st : St} {key : Nat} {agg : Bool} {n : Nat} {a : Arg} {v : PV} {st' : St} (h : evOp cfg callE ρ st key (.load agg n a) = some (v, st')) : st' = st ∧ ∀ st2 key2, (∀ k o, ρ a = .ptr k o → st2.get k = st.get k) → evOp cfg callE ρ st2 key2 (.load agg n a) = some (v, st2) := by
  simp only [evOp] at h ⊢
  have hl : ∀ st2 : St, (∀ k o, ρ a = .ptr k o → st2.get k = st.get k) → loadP st2 n (ρ a) = loadP st n (ρ a) := by
    intro st2 hk
    unfold loadP
    split
    · rename_i k o e
      rw [hk _ _ e]
    · rfl
    · rfl
  split at h
  · rename_i cs hcs
    simp only [Option.map_eq_some_iff, Prod.mk.injEq] at h
    obtain ⟨x, hx, rfl, rfl⟩ := h
    refine ⟨rfl, fun st2 key2 hk => ?_⟩
    rw [hl st2 hk, hcs]
    simp [hx]
  · simp at h
theorem recv_two {st : St} {key : Nat} {r v : PV} {st' : St} (h : recvRes st key r = some (v, st')) (st2 : St) : ∃ st2', recvRes st2 key r = some (v, st2') ∧ ((st2' = st2 ∧ st' = st) ∨ st2'.get key = st'.get key) := by
  unfold recvRes at h ⊢
  split at h
  · simp only [Option.some.injEq, Prod.mk.injEq] at h
    obtain ⟨rfl, rfl⟩ := h
    exact ⟨_, rfl, .inr (by rw [St.get_putk, St.get_putk])⟩
  · split at h
    · split at h
      · rename_i hc
        simp only [Option.some.injEq, Prod.mk.injEq] at h
        obtain ⟨rfl, rfl⟩ := h
        simp only [hc, if_true]
        exact ⟨_, rfl, .inr (by rw [St.get_putk, St.get_putk])⟩
      · simp at h
    · simp only [Option.some.injEq, Prod.mk.injEq] at h
      obtain ⟨rfl, rfl⟩ := h
      exact ⟨_, rfl, .inl ⟨rfl, rfl⟩⟩
  · simp only [Option.some.injEq, Prod.mk.injEq] at h
    obtain ⟨rfl, rfl⟩ := h
    exact ⟨_, rfl, .inl ⟨rfl, rfl⟩⟩
theorem callq_indep {cfg : Cfg} {callE : CallE} {ρ : Arg → PV} {st : St} {key : Nat} {f : FuncId} {args : List Arg} {l : List PV} (hp : ∀ st, deepL st (args.map ρ) = some l) {v : PV} {st' : St} (h : evOp cfg callE ρ st key (.callq f args) = some (v, st')) (st2 : St) : ∃ st2', evOp cfg callE ρ st2 key (.callq f args) = some (v, st2') ∧ ((st2' = st2 ∧ st' = st) ∨ st2'.get key = st'.get key) := by
  simp only [evOp, hp] at h ⊢
  split at h
  · split at h
    · rename_i hc
      simp only [hc, if_true]
      exact recv_two h st2
    · simp at h
  · simp at h
def lightOp (T : List Nat) (k0 : Nat) (ρ : Arg → PV) : MOp → Prop
  | .load _ _ a => ∀ k o, ρ a = .ptr k o → k < k0 ∧ k ∉ T
  | .callq _ args => ∃ l, ∀ st, deepL st (args.map ρ) = some l
  | m => pureB m = true
def okAt (nd : Bool) (T : List Nat) (k0 key : Nat) (ρ : Arg → PV) (st : St) (m : MOp) : Prop :=
  quietB m = true → ((nd || pureB m || loadB m) = true → key ∉ T) ∧ (nd = true → lightOp T k0 ρ m)
def selfAt (nd : Bool) (key : Nat) (v : PV) (st' : St) : Prop := nd = true → PV.same deepS v v = true ∧ PObj.same (st'.get key) (st'.get key) = true
def postAt (nd : Bool) (T : List Nat) (key : Nat) (m : MOp) (st : St) (v : PV) (st' : St) : Prop := if quietB m then selfAt nd key v st' else ∀ k, k ≠ key → k ∉ T → st'.get k = st.get k
def WOC (cfg : Cfg) (callE : CallE) (T : List Nat) (k0 : Nat) : List Bool → List MOper → Nat → Loc → (Loc → Prop) → Prop
  | _, [], _, c, Q => Q c
  | [], _ :: _, _, _, _ => False
  | nd :: ns, o :: r, key, c, Q => match guardP c o.guard with
    | some true => okAt nd T k0 key c.rd c.st o.op ∧ WV (evOp cfg callE c.rd c.st key o.op) fun v st' => postAt nd T key o.op c.st v st' ∧ WOC cfg callE T k0 ns r (key + 8) (({ c with st := st' } : Loc).wr o.dst v) Q
    | some false => WOC cfg callE T k0 ns r (key + 8) (c.wr o.dst (.tup [])) Q
    | none => False
def StepC (cfg : Cfg) (callE : CallE) (T : List Nat) (k0 key : Nat) (nd : Bool) (o : MOper) (c : Loc) (v : PV) (s1 s2 : St) : Prop :=
  c.st = s1 ∧ ((guardP c o.guard = some true ∧ okAt nd T k0 key c.rd s1 o.op ∧ evOp cfg callE c.rd s1 key o.op = some (v, s2) ∧ postAt nd T key o.op s1 v s2) ∨ (guardP c o.guard = some false ∧ s2 = s1))
theorem WOC_tr {cfg : Cfg} {callE : CallE} {T : List Nat} {k0 : Nat} {Q : Loc → Prop} : ∀ (ml : List MOper) (ns : List Bool) (key : Nat) (c : Loc), WOC cfg callE T k0 ns ml key c Q →
    ∃ tr c', evTr cfg callE ml key c = some (tr, c') ∧ Q c' ∧ tr.length = ml.length ∧ stAt tr c' 0 = c.st ∧ ∀ i o, ml[i]? = some o → ∃ ci vi nd, tr[i]? = some (ci, vi) ∧ ns[i]? = some nd ∧ StepC cfg callE T k0 (key + 8 * i) nd o ci vi (stAt tr c' i) (stAt tr c' (i + 1))
  | [], ns, key, c, h => ⟨[], c, rfl, by cases ns <;> exact h, rfl, rfl, fun i o h => by simp at h⟩
  | o :: r, [], key, c, h => h.elim
  | o :: r, nd :: ns, key, c, h => by
    unfold WOC at h
    split at h
    · rename_i hg
      obtain ⟨hok, v, st', hev, hself, hr⟩ := h
      obtain ⟨tr, c', h1, h2, h3, h4, h5⟩ := WOC_tr r ns _ _ hr
      have e : stAt ((c, v) :: tr) c' 0 = c.st := rfl
      have e' : ∀ i, stAt ((c, v) :: tr) c' (i + 1) = stAt tr c' i := fun _ => rfl
      refine ⟨(c, v) :: tr, c', ?_, h2, by rw [List.length_cons, List.length_cons, h3], rfl, ?_⟩
      · simp only [evTr, hg, hev, h1, Option.map_some]
      · intro i o' hi
        cases i with
        | zero =>
          simp only [List.getElem?_cons_zero, Option.some.injEq] at hi
          subst hi
          refine ⟨c, v, nd, rfl, rfl, rfl, .inl ⟨hg, hok, ?_, ?_⟩⟩
          · rw [e', h4, wr_st]; exact hev
          · rw [e', h4, wr_st]; exact hself
        | succ i =>
          obtain ⟨ci, vi, nd', q1, q2, q3⟩ := h5 i o' (by simpa using hi)
          refine ⟨ci, vi, nd', by simpa using q1, by simpa using q2, ?_⟩
          rw [e', e', show key + 8 * (i + 1) = key + 8 + 8 * i by omega]
          exact q3
    · rename_i hg
      obtain ⟨tr, c', h1, h2, h3, h4, h5⟩ := WOC_tr r ns _ _ h
      have e' : ∀ i, stAt ((c, PV.tup []) :: tr) c' (i + 1) = stAt tr c' i := fun _ => rfl
      refine ⟨(c, .tup []) :: tr, c', ?_, h2, by rw [List.length_cons, List.length_cons, h3], rfl, ?_⟩
      · simp only [evTr, hg, h1, Option.map_some]
      · intro i o' hi
        cases i with
        | zero =>
          simp only [List.getElem?_cons_zero, Option.some.injEq] at hi
          subst hi
          refine ⟨c, .tup [], nd, rfl, rfl, rfl, .inr ⟨hg, ?_⟩⟩
          rw [e', h4, wr_st]; rfl
        | succ i =>
          obtain ⟨ci, vi, nd', q1, q2, q3⟩ := h5 i o' (by simpa using hi)
          refine ⟨ci, vi, nd', by simpa using q1, by simpa using q2, ?_⟩
          rw [e', e', show key + 8 * (i + 1) = key + 8 + 8 * i by omega]
          exact q3
    · exact h.elim
def needB (ml : List MOper) (masks : List Nat) (q : Nat) : Bool := quietAt ml q && (List.range (ml.length + 1)).any fun t => !((decide (t < ml.length) && quietAt ml t) || textAt ml q t || !mayAt ml masks q t)
def needsL (ml : List MOper) (masks : List Nat) : List Bool := (List.range ml.length).map (needB ml masks)
def orderOK (ml : List MOper) (masks : List Nat) : Bool := (List.range ml.length).all fun j => quietAt ml j || (List.range ml.length).all fun m => !(decide (m < j) && quietAt ml m) || aheadB masks j m || (match ml[m]? with
  | some o => pureB o.op || loadB o.op
  | none => false)
theorem quietAt_of {ml : List MOper} {i : Nat} {o : MOper} (h : ml[i]? = some o) : quietAt ml i = quietB o.op := by unfold quietAt; rw [h]
set_option maxHeartbeats 4000000 in
theorem light_dyn {cfg : Cfg} {P : Program} {Gl : Gmap} {callE : CallE} (hC : CallOK P Gl callE) (hE : FreshE callE) {ml : List MOper} {masks : List Nat} {T : List Nat} {key : Nat} {c c' : Loc} {tr : List (Loc × PV)} (hO : orderOK ml masks = true)
    (h : evTr cfg callE ml key c = some (tr, c')) (hb : key + 8 * ml.length ≤ c.st.cnt) (hn : ∀ k, key ≤ k → k < key + 8 * ml.length → c.st.get k = none) (h0 : stAt tr c' 0 = c.st)
    (hst : ∀ i o, ml[i]? = some o → ∃ ci vi nd, tr[i]? = some (ci, vi) ∧ (needsL ml masks)[i]? = some nd ∧ StepC cfg callE T key (key + 8 * i) nd o ci vi (stAt tr c' i) (stAt tr c' (i + 1))) : chainDyn cfg callE ml masks tr c' key = true := by
  have ha := evTr_ahead hC hE ml key c c' tr h hb hn
  -- frames
  have g1 : ∀ i k, i < ml.length → k ∉ T → k ≠ key + 8 * i → (stAt tr c' (i + 1)).get k = (stAt tr c' i).get k := by
    intro i k hi hk hne
    obtain ⟨ci, vi, nd, _, _, _, hs⟩ := hst i _ (List.getElem?_eq_getElem hi)
    rcases hs with ⟨_, hok, hev, hpo⟩ | ⟨_, e⟩
    · unfold postAt at hpo
      split at hpo
      · rename_i hq
        rcases quiet_store hq hev with e | ⟨o, e⟩
        · rw [e]
        · rw [e]; exact St.get_put_ne (fun e => hne e.symm)
      · exact hpo k hne hk
    · rw [e]
  have g2 : ∀ k, k ∉ T → k < key → ∀ i, i ≤ ml.length → (stAt tr c' i).get k = (stAt tr c' 0).get k := by
    intro k hk hlt i
    induction i with
    | zero => intro _; rfl
    | succ i ih => intro hi; rw [g1 i k (by omega) hk (by omega)]; exact ih (by omega)
  have g3 : ∀ q, key + 8 * q ∉ T → ∀ t, q + 1 ≤ t → t ≤ ml.length → (stAt tr c' t).get (key + 8 * q) = (stAt tr c' (q + 1)).get (key + 8 * q) := by
    intro q hq t
    induction t with
    | zero => intro h; omega
    | succ t ih =>
      intro h1 h2
      by_cases e : t = q
      · rw [e]
      · rw [g1 t _ (by omega) hq (by omega)]; exact ih (by omega) (by omega)
  have hcn : ∀ i, i ≤ ml.length → key + 8 * ml.length ≤ (stAt tr c' i).cnt := by
    intro i
    induction i with
    | zero => intro _; rw [h0]; exact hb
    | succ i ih =>
      intro hi
      have ih' := ih (by omega)
      obtain ⟨ci, vi, nd, _, _, _, hs⟩ := hst i _ (List.getElem?_eq_getElem (show i < ml.length by omega))
      rcases hs with ⟨_, _, hev, _⟩ | ⟨_, e⟩
      · have := evOp_cntle hC hev; omega
      · rw [e]; exact ih'
  have g4 : ∀ q, q < ml.length → (stAt tr c' (q + 1)).get (key + 8 * q) = none → ∀ t, q + 1 ≤ t → t ≤ ml.length → (stAt tr c' t).get (key + 8 * q) = none := by
    intro q hq hnq t
    induction t with
    | zero => intro h; omega
    | succ t ih =>
      intro h1 h2
      by_cases et : t = q
      · rw [et]; exact hnq
      · have ih' := ih (by omega) (by omega)
        have hct := hcn t (by omega)
        obtain ⟨ci, vi, nd, _, _, _, hs⟩ := hst t _ (List.getElem?_eq_getElem (show t < ml.length by omega))
        rcases hs with ⟨_, _, hev, _⟩ | ⟨_, e⟩
        · exact evOp_keep hE hev (by omega) (by omega) ih'
        · rw [e]; exact ih'
  unfold chainDyn
  rw [List.all_eq_true]
  intro j hj
  have hjl : j < ml.length := by simpa using hj
  obtain ⟨o, ho⟩ : ∃ o, ml[j]? = some o := ⟨_, List.getElem?_eq_getElem hjl⟩
  have hqa := quietAt_of ho
  split
  · rename_i hq
    rw [List.all_eq_true]
    intro t ht
    have htl : t ≤ ml.length := by have := List.mem_range.1 ht; omega
    obtain ⟨ci, vi, nd, htr, hnd, hcs, hs⟩ := hst j o ho
    have hnd' : needB ml masks j = nd := by
      unfold needsL at hnd
      rw [List.getElem?_map] at hnd
      simpa [hjl] using hnd
    cases nd with
    | false =>
      unfold needB at hnd'
      rw [hq, Bool.true_and, List.any_eq_false] at hnd'
      have := hnd' t ht
      simp only [Bool.not_eq_true', Bool.not_eq_false] at this
      rw [this, Bool.true_or]
    | true =>
      have hag : again cfg callE ml tr c' key j t = true := by
        unfold again
        rw [ho, htr]
        simp only [Bool.and_eq_true, Bool.or_eq_true, decide_eq_true_eq]
        rcases hs with ⟨hg, hok, hev, hself⟩ | ⟨hg, e⟩
        · obtain ⟨hkT, hli⟩ := hok (by rw [← hqa]; exact hq)
          unfold postAt at hself
          rw [if_pos (by rw [← hqa]; exact hq)] at hself
          have hkT' := hkT (by simp)
          have hli' := hli rfl
          obtain ⟨hs1, hs2⟩ := hself rfl
          have hfr : (stAt tr c' j).get (key + 8 * j) = none := ha j j (Nat.le_refl _) hjl
          refine ⟨?_, ?_⟩
          · by_cases htj : t ≤ j
            · exact .inl htj
            · right
              rw [g3 j hkT' t (by omega) htl]; exact hs2
          · rw [hg]
            simp only
            have hsp : ((sig ml tr c' key t).put (key + 8 * j) none).get (key + 8 * j) = none := St.get_putk _ _ _
            have hlow : ∀ k, k < key → k ∉ T → ((sig ml tr c' key t).put (key + 8 * j) none).get k = (stAt tr c' j).get k := by
              intro k hk hkT
              rw [St.get_put_ne (by omega)]
              unfold sig
              rw [sigA_other _ _ _ (fun q _ _ _ => by omega), g2 k hkT hk t htl, g2 k hkT hk j (by omega)]
            by_cases hp : pureB o.op = true
            · obtain ⟨e1, e2⟩ := pure_indep hp hev
              rw [e2 _ _]
              simp only [hs1, Bool.true_and]
              rw [hsp, e1, hfr]; rfl
            · cases hop : o.op with
              | load agg n a =>
                rw [hop] at hev hli'
                obtain ⟨e1, e2⟩ := load_indep hev
                rw [e2 _ _ (fun k o e => hlow k (hli' k o e).1 (hli' k o e).2)]
                simp only [hs1, Bool.true_and]
                rw [hsp, e1, hfr]; rfl
              | callq f args =>
                rw [hop] at hev hli'
                obtain ⟨la, hla⟩ := hli'
                obtain ⟨st2, e1, e2⟩ := callq_indep hla hev ((sig ml tr c' key t).put (key + 8 * j) none)
                rw [e1]
                simp only [hs1, Bool.true_and]
                rcases e2 with ⟨e3, e4⟩ | e3
                · rw [e3, hsp, e4, hfr]; rfl
                · rw [e3]; exact hs2
              | _ => rw [hop] at hli' hp; exact absurd hli' hp
        · refine ⟨?_, by rw [hg]⟩
          by_cases htj : t ≤ j
          · exact .inl htj
          · right
            have hns := g4 j hjl (by rw [e]; exact ha j j (Nat.le_refl _) hjl)
            rw [hns t (by omega) htl, hns (j + 1) (Nat.le_refl _) (by omega)]; rfl
      rw [hag, Bool.or_true]
  · rename_i hq
    rw [List.all_eq_true]
    intro m hm
    have hml : m < ml.length := by simpa using hm
    by_cases hjm : j < m
    · rw [if_pos hjm, ha (j + 1) m (by omega) hml]; rfl
    · rw [if_neg hjm]
      split
      · rename_i hc
        simp only [Bool.and_eq_true, decide_eq_true_eq] at hc
        unfold orderOK at hO
        rw [List.all_eq_true] at hO
        have h1 := hO j hj
        rw [Bool.or_eq_true] at h1
        rcases h1 with h1 | h1
        · exact absurd h1 hq
        rw [List.all_eq_true] at h1
        have h2 := h1 m hm
        simp only [hc, decide_true, Bool.and_self, Bool.not_true, Bool.false_or, Bool.or_eq_true] at h2
        rcases h2 with h2 | h2
        · rw [h2, Bool.true_or]
        · obtain ⟨om, hom⟩ : ∃ o, ml[m]? = some o := ⟨_, List.getElem?_eq_getElem hml⟩
          rw [hom] at h2
          simp only [Bool.or_eq_true] at h2
          obtain ⟨ci, vi, nd, _, _, _, hs⟩ := hst m om hom
          have hqm : quietB om.op = true := by rw [← quietAt_of hom]; exact hc.2
          have hfr : (stAt tr c' m).get (key + 8 * m) = none := ha m m (Nat.le_refl _) hml
          have hend : (stAt tr c' j).get (key + 8 * m) = none := by
            rcases hs with ⟨_, hok, hev, _⟩ | ⟨_, e⟩
            · have hkT := (hok hqm).1 (by rcases h2 with h2 | h2 <;> simp [h2])
              rw [g3 m hkT j (by omega) (by omega)]
              rcases h2 with h2 | h2
              · rw [(pure_indep h2 hev).1]; exact hfr
              · cases hop : om.op <;> rw [hop] at h2 hev <;> first | (simp [loadB] at h2; done) | skip
                rw [(load_indep hev).1]; exact hfr
            · exact g4 m hml (by rw [e]; exact hfr) j (by omega) (by omega)
          rw [hend]; simp
      · rfl
theorem WC_chainL {cfg : Cfg} {P : Program} {Gl : Gmap} {callE : CallE} (hC : CallOK P Gl callE) (hE : FreshE callE) {n : Nat} {ml : List MOper} {masks : List Nat} {Q : MExit → Now → Prop} (T : List Nat) {ns : List Bool} (hO : orderOK ml masks = true) (hN : needsL ml masks = ns) {env : Env} {st : St} (fr : ∀ k, st.cnt ≤ k → st.get k = none)
    (h : WOC cfg callE T st.cnt ns ml st.cnt ⟨env, .leaf, ⟨st.sto, st.cnt + 8 * ml.length⟩⟩ fun c => Q .nrm ⟨c.env, c.st⟩) : WC cfg callE n (.chain ml masks none) ⟨env, st⟩ Q := by
  subst hN
  obtain ⟨tr, c', h1, h2, h3, h4, h5⟩ := WOC_tr ml _ _ _ h
  have hd := light_dyn hC hE hO h1 (Nat.le_refl _) (fun k hk _ => fr k hk) h4 h5
  refine ⟨.nrm, ⟨c'.env, c'.st⟩, ?_, h2⟩
  simp only [evCode, evChain, h1, hd, swapDyn, Bool.and_self, if_true, Option.map_some]
theorem WOC_nil (cfg : Cfg) (callE : CallE) (T : List Nat) (k0 : Nat) (ns : List Bool) (key : Nat) (c : Loc) (Q : Loc → Prop) : WOC cfg callE T k0 ns [] key c Q ↔ Q c := by cases ns <;> exact Iff.rfl
theorem WOC_cons (cfg : Cfg) (callE : CallE) (T : List Nat) (k0 : Nat) (nd : Bool) (ns : List Bool) (d : MDst) (op : MOp) (r : List MOper) (key : Nat) (env loc : Env) (st : St) (Q : Loc → Prop) :
    WOC cfg callE T k0 (nd :: ns) (⟨d, op, none⟩ :: r) key ⟨env, loc, st⟩ Q ↔ okAt nd T k0 key (Loc.rd ⟨env, loc, st⟩) st op ∧ WV (evOp cfg callE (Loc.rd ⟨env, loc, st⟩) st key op) fun v st' => postAt nd T key op st v st' ∧ WOC cfg callE T k0 ns r (key + 8) (Loc.wr ⟨env, loc, st'⟩ d v) Q := Iff.trans Iff.rfl Iff.rfl
theorem WOC_guard (cfg : Cfg) (callE : CallE) (T : List Nat) (k0 : Nat) (nd : Bool) (ns : List Bool) (d : MDst) (op : MOp) (x : Arg) (w : Bool) (r : List MOper) (key : Nat) (env loc : Env) (st : St) (Q : Loc → Prop) :
    WOC cfg callE T k0 (nd :: ns) (⟨d, op, some (x, w)⟩ :: r) key ⟨env, loc, st⟩ Q ↔ WG (Loc.rd ⟨env, loc, st⟩ x) w (okAt nd T k0 key (Loc.rd ⟨env, loc, st⟩) st op ∧ WV (evOp cfg callE (Loc.rd ⟨env, loc, st⟩) st key op) fun v st' => postAt nd T key op st v st' ∧ WOC cfg callE T k0 ns r (key + 8) (Loc.wr ⟨env, loc, st'⟩ d v) Q) (WOC cfg callE T k0 ns r (key + 8) (Loc.wr ⟨env, loc, st⟩ d (.tup [])) Q) := by
  show (match guardP _ _ with | some true => _ | some false => _ | none => False) ↔ _
  unfold guardP WG
  simp only []
  cases Loc.rd ⟨env, loc, st⟩ x with
  | b y => cases y <;> cases w <;> simp
  | tup vs => cases vs <;> simp
  | _ => simp
@[congr] theorem WOC_congr {cfg : Cfg} {callE : CallE} {T : List Nat} {k0 : Nat} {ns : List Bool} {ml : List MOper} {key key' : Nat} {c c' : Loc} (h : key = key') (h2 : c = c') (Q : Loc → Prop) : WOC cfg callE T k0 ns ml key c Q = WOC cfg callE T k0 ns ml key' c' Q := by rw [h, h2]
theorem selfAt_f (key : Nat) (v : PV) (st : St) : selfAt false key v st = True := by simp [selfAt]
theorem selfAt_t (key : Nat) (v : PV) (st : St) : selfAt true key v st = (PV.same deepS v v = true ∧ PObj.same (st.get key) (st.get key) = true) := by simp [selfAt]
theorem PV.same_flat {n : Nat} {v : PV} (h : v.flat = true) (hs : ∀ m cs, v ≠ .fsl m cs) : PV.same (n + 1) v v = true := by
  cases v <;> first | (simp [PV.flat] at h; done) | skip
  all_goals first | (unfold PV.same; simp; done) | (rename_i m cs; exact absurd rfl (hs m cs))
def loudB : MOp → Bool
  | .calle .. | .callv .. => true
  | _ => false
theorem evOp_keepN {cfg : Cfg} {callE : CallE} {ρ : Arg → PV} {st : St} {key k : Nat} {m : MOp} (hl : loudB m = false) {r : PV} {st' : St} (he : evOp cfg callE ρ st key m = some (r, st')) (hk : k ≠ key) (hn : st.get k = none) : st'.get k = none := by
  cases m with
  | call => simp only [evOp] at he; exact callStep_keep hk hn he
  | calle => simp [loudB] at hl
  | callv => simp [loudB] at hl
  | callq =>
    simp only [evOp] at he
    repeat' split at he
    all_goals first | (simp at he; done) | exact recvRes_keep hk hn he
  | slice arr sz x lo hi =>
    cases arr <;> simp only [evOp] at he
    · obtain ⟨_, _, h⟩ := Option.map_eq_some_iff.1 he; cases h; exact hn
    · repeat' split at he
      all_goals first | (simp at he; done) | (cases he; exact hn)
  | indexAddr arr sz x i =>
    cases arr <;> simp only [evOp] at he
    all_goals (repeat' split at he)
    all_goals first | (simp at he; done) | (cases he; exact hn)
  | conv c x =>
    simp only [evOp] at he
    repeat' split at he
    all_goals first | (simp at he; done) | (cases he; exact hn) | (cases he; exact put_keep hn (fun e => hk e.symm)) | (obtain ⟨_, _, h⟩ := Option.map_eq_some_iff.1 he; cases h; exact hn)
  | store n a x =>
    simp only [evOp] at he
    obtain ⟨_, h1, h⟩ := Option.map_eq_some_iff.1 he; cases h; exact storeP_keep hn h1
  | append =>
    simp only [evOp] at he
    repeat' split at he
    all_goals first | (simp at he; done) | exact appendP_keep hk hn he
  | appstr =>
    simp only [evOp] at he
    repeat' split at he
    all_goals first | (simp at he; done) | exact appendP_keep hk hn he
  | copy =>
    simp only [evOp] at he
    repeat' split at he
    all_goals first | (simp at he; done) | exact copyP_keep hn he
  | mapup ck m k' v =>
    simp only [evOp] at he
    split at he
    · split at he
      · rename_i hg
        obtain ⟨_, _, h⟩ := Option.map_eq_some_iff.1 he; cases h; exact put_keep' hn hg
      · simp at he
    · simp at he
  | snext x =>
    simp only [evOp] at he
    split at he
    · split at he
      · rename_i hg
        split at he <;> cases he
        · exact put_keep' hn hg
        · exact hn
      · simp at he
    · simp at he
  | _ =>
    simp only [evOp] at he
    repeat' split at he
    all_goals first | (simp at he; done) | (cases he; exact hn) | (cases he; exact put_keep hn (fun e => hk e.symm)) | (obtain ⟨_, _, h⟩ := Option.map_eq_some_iff.1 he; cases h; exact hn)
def Top (st : St) : Prop := ∀ k, st.cnt ≤ k → st.get k = none
def TopE (callE : CallE) : Prop := ∀ f args st r st', callE f args st = some (r, st') → Top st → Top st'
theorem Top.le {sto : Trie PObj} {c c' : Nat} (h : Top ⟨sto, c⟩) (hc : c ≤ c') : Top ⟨sto, c'⟩ := fun k hk => h k (by simp only at hk ⊢; omega)
theorem recv_cnt {st : St} {key : Nat} {v p : PV} {st' : St} (h : recvRes st key v = some (p, st')) : st'.cnt = st.cnt := by
  unfold recvRes at h
  repeat' split at h
  all_goals first | (simp at h; done) | (simp only [Option.some.injEq, Prod.mk.injEq] at h; obtain ⟨_, rfl⟩ := h; rfl)
theorem evOp_top {cfg : Cfg} {P : Program} {Gl : Gmap} {callE : CallE} (hC : CallOK P Gl callE) (hT : TopE callE) {ρ : Arg → PV} {st : St} {key : Nat} {m : MOp} {r : PV} {st' : St} (he : evOp cfg callE ρ st key m = some (r, st')) (hk : key < st.cnt) (ht : Top st) : Top st' := by
  by_cases hl : loudB m = true
  · cases m with
    | calle =>
      simp only [evOp] at he
      split at he
      · simp at he
      · exact hT _ _ _ _ _ he ht
    | callv =>
      simp only [evOp] at he
      split at he
      · split at he
        · simp at he
        · exact hT _ _ _ _ _ he ht
      · split at he
        · simp at he
        · exact hT _ _ _ _ _ he ht
      · simp at he
    | _ => simp [loudB] at hl
  · have hc := evOp_cntle hC he
    intro k hk2
    exact evOp_keepN (by simpa using hl) he (by omega) (ht k (by omega))
theorem evOps_top {cfg : Cfg} {P : Program} {Gl : Gmap} {callE : CallE} (hC : CallOK P Gl callE) (hT : TopE callE) : ∀ (ml : List MOper) (key : Nat) (c c' : Loc), evOps cfg callE ml key c = some c' → key + 8 * ml.length ≤ c.st.cnt → Top c.st → Top c'.st
  | [], key, c, c', h, _, ht => by simp [evOps] at h; subst h; exact ht
  | o :: ml, key, c, c', h, hk, ht => by
    simp only [List.length_cons] at hk
    simp only [evOps] at h
    split at h
    · split at h
      · rename_i v st hev
        have h1 := evOp_cntle hC hev
        refine evOps_top hC hT ml _ _ _ h (by rw [wr_st]; simp only []; omega) ?_
        rw [wr_st]
        exact evOp_top hC hT hev (by omega) ht
      · simp at h
    · exact evOps_top hC hT ml _ _ _ h (by rw [wr_st]; omega) (by rw [wr_st]; exact ht)
    · simp at h
theorem evTr_top {cfg : Cfg} {P : Program} {Gl : Gmap} {callE : CallE} (hC : CallOK P Gl callE) (hT : TopE callE) : ∀ (ml : List MOper) (key : Nat) (c c' : Loc) (tr : List (Loc × PV)), evTr cfg callE ml key c = some (tr, c') → key + 8 * ml.length ≤ c.st.cnt → Top c.st → Top c'.st
  | [], key, c, c', tr, h, _, ht => by simp [evTr] at h; obtain ⟨_, rfl⟩ := h; exact ht
  | o :: ml, key, c, c', tr, h, hk, ht => by
    simp only [List.length_cons] at hk
    simp only [evTr] at h
    split at h
    · split at h
      · rename_i v st hev
        simp only [Option.map_eq_some_iff, Prod.mk.injEq] at h
        obtain ⟨⟨tr', c2⟩, he, rfl, rfl⟩ := h
        have h1 := evOp_cntle hC hev
        refine evTr_top hC hT ml _ _ _ _ he (by rw [wr_st]; simp only []; omega) ?_
        rw [wr_st]
        exact evOp_top hC hT hev (by omega) ht
      · simp at h
    · simp only [Option.map_eq_some_iff, Prod.mk.injEq] at h
      obtain ⟨⟨tr', c2⟩, he, rfl, rfl⟩ := h
      exact evTr_top hC hT ml _ _ _ _ he (by rw [wr_st]; omega) (by rw [wr_st]; exact ht)
    · simp at h
def TopOK (ev : Now → Option (MExit × Now)) : Prop := ∀ x e x', ev x = some (e, x') → Top x.st → Top x'.st
theorem loopE_top {ev : Now → Option (MExit × Now)} (h : TopOK ev) : ∀ (fuel : Nat) (x : Now) (e : MExit) (x' : Now), loopE ev fuel x = some (e, x') → Top x.st → Top x'.st
  | 0, x, e, x', he, _ => by simp [loopE] at he
  | fuel + 1, x, e, x', he, ht => by
    simp only [loopE] at he
    split at he
    · rename_i x1 h1
      exact loopE_top h fuel _ _ _ he (h _ _ _ h1 ht)
    · rename_i e1 x1 hne h1
      simp only [Option.some.injEq, Prod.mk.injEq] at he
      obtain ⟨rfl, rfl⟩ := he
      exact h _ _ _ h1 ht
    · simp at he
theorem evCode_top {cfg : Cfg} {P : Program} {Gl : Gmap} {callE : CallE} (hC : CallOK P Gl callE) (hT : TopE callE) (fuel : Nat) : ∀ m : MCode, TopOK (evCode cfg callE fuel m)
  | .skip => fun x e x' h ht => by simp [evCode] at h; obtain ⟨_, rfl⟩ := h; exact ht
  | .region ops => fun x e x' h ht => by
    simp only [evCode, evRegion, Option.map_eq_some_iff, Prod.mk.injEq] at h
    obtain ⟨y, ⟨z, hz, rfl⟩, _, rfl⟩ := h
    exact evOps_top hC hT _ _ _ _ hz (Nat.le_refl _) (fun k hk => ht k (by simp only at hk; omega))
  | .chain ops masks sw => fun x e x' h ht => by
    simp only [evCode, evChain, Option.map_eq_some_iff, Prod.mk.injEq] at h
    obtain ⟨y, hy, _, rfl⟩ := h
    split at hy
    · rename_i tr z hz
      split at hy
      · simp only [Option.some.injEq] at hy
        subst hy
        exact evTr_top hC hT _ _ _ _ _ hz (Nat.le_refl _) (fun k hk => ht k (by simp only at hk; omega))
      · simp at hy
    · simp at hy
  | .seq a b => fun x e x' h ht => by
    simp only [evCode] at h
    split at h
    · rename_i x1 h1
      exact evCode_top hC hT fuel b _ _ _ h (evCode_top hC hT fuel a _ _ _ h1 ht)
    · exact evCode_top hC hT fuel a _ _ _ h ht
  | .cond c a b => fun x e x' h ht => by
    simp only [evCode] at h
    split at h
    · split at h
      · exact evCode_top hC hT fuel a _ _ _ h ht
      · exact evCode_top hC hT fuel b _ _ _ h ht
    · simp at h
  | .block id a => fun x e x' h ht => by
    simp only [evCode] at h
    split at h
    · rename_i j x1 h1
      split at h <;> (simp only [Option.some.injEq, Prod.mk.injEq] at h; obtain ⟨_, rfl⟩ := h; exact evCode_top hC hT fuel a _ _ _ h1 ht)
    · exact evCode_top hC hT fuel a _ _ _ h ht
  | .loop a => fun x e x' h ht => by
    simp only [evCode] at h
    split at h
    · simp at h
    · exact loopE_top (evCode_top hC hT fuel a) _ _ _ _ h ht
  | .exit id => fun x e x' h ht => by simp [evCode] at h; obtain ⟨_, rfl⟩ := h; exact ht
  | .scope a => fun x e x' h ht => by simp only [evCode] at h; exact evCode_top hC hT fuel a _ _ _ h ht
  | .ret => fun x e x' h ht => by simp [evCode] at h; obtain ⟨_, rfl⟩ := h; exact ht
theorem evFn_top {P : Program} {Gl : Gmap} {cfg : Cfg} (hcfg : CfgOK P Gl cfg) : ∀ fuel, TopE (evFn cfg fuel)
  | 0 => fun f args st r st' h _ => by simp [evFn] at h
  | fuel + 1 => by
    have hT := evFn_top hcfg fuel
    have hC := evFn_ok hcfg fuel
    intro f args st r st' h ht
    simp only [evFn] at h
    split at h
    · rename_i m hm
      unfold evBody at h
      split at h
      · simp at h
      · rename_i e c' hne hev
        have := evCode_top hC hT _ _ _ _ _ hev ht
        split at h <;> simp only [Option.some.injEq, Prod.mk.injEq, reduceCtorEq] at h
        · obtain ⟨_, rfl⟩ := h; exact this
        · obtain ⟨_, rfl⟩ := h; exact this
      · simp at h
    · simp at h
theorem WC_cutT {P : Program} {Gl : Gmap} {cfg : Cfg} (hcfg : CfgOK P Gl cfg) {fuel n : Nat} {a b : MCode} {x : Now} (ht : Top x.st) {Q : MExit → Now → Prop} (R : Now → Prop) (h : WC cfg (evFn cfg fuel) n a x fun e x' => match e with | .nrm => R x' | .ex id => Q (.ex id) x' | .ret => Q .ret x') (k : ∀ x', R x' → Top x'.st → WC cfg (evFn cfg fuel) n b x' Q) : WC cfg (evFn cfg fuel) n (.seq a b) x Q := by
  obtain ⟨e, x', hev, hr⟩ := h
  have h2 := evCode_top (evFn_ok hcfg fuel) (evFn_top hcfg fuel) n a _ _ _ hev ht
  cases e with
  | nrm =>
    obtain ⟨e2, x2, hev2, hq⟩ := k x' hr h2
    exact ⟨e2, x2, by simp only [evCode, hev, hev2], hq⟩
  | ex id => exact ⟨.ex id, x', by simp only [evCode, hev], hr⟩
  | ret => exact ⟨.ret, x', by simp only [evCode, hev], hr⟩
theorem WC_top {P : Program} {Gl : Gmap} {cfg : Cfg} (hcfg : CfgOK P Gl cfg) {fuel n : Nat} {a : MCode} {x : Now} (ht : Top x.st) {Q : MExit → Now → Prop} (h : WC cfg (evFn cfg fuel) n a x fun e x' => Top x'.st → Q e x') : WC cfg (evFn cfg fuel) n a x Q := by
  obtain ⟨e, x', hev, hr⟩ := h
  exact ⟨e, x', hev, hr (evCode_top (evFn_ok hcfg fuel) (evFn_top hcfg fuel) n a _ _ _ hev ht)⟩
theorem postAt_q (nd : Bool) (T : List Nat) (key : Nat) (m : MOp) (st : St) (v : PV) (st' : St) (h : quietB m = true) : postAt nd T key m st v st' = selfAt nd key v st' := by unfold postAt; rw [if_pos h]
theorem postAt_w (nd : Bool) (T : List Nat) (key : Nat) (m : MOp) (st : St) (v : PV) (st' : St) (h : quietB m = false) : postAt nd T key m st v st' = ∀ k, k ≠ key → k ∉ T → st'.get k = st.get k := by unfold postAt; rw [if_neg (by rw [h]; simp)]
theorem okAt_w (nd : Bool) (T : List Nat) (k0 key : Nat) (ρ : Arg → PV) (st : St) (m : MOp) (h : quietB m = false) : okAt nd T k0 key ρ st m = True := by unfold okAt; simp [h]
theorem okAt_p (nd : Bool) (T : List Nat) (k0 key : Nat) (ρ : Arg → PV) (st : St) (m : MOp) (h : pureB m = true) (hq : quietB m = true) : okAt nd T k0 key ρ st m = (key ∉ T) := by
  unfold okAt
  apply propext
  constructor
  · intro h1; exact (h1 hq).1 (by simp [h])
  · intro h1 _
    refine ⟨fun _ => h1, fun _ => ?_⟩
    unfold lightOp
    split <;> first | exact h | (simp [pureB] at h)
theorem okAt_l (nd : Bool) (T : List Nat) (k0 key : Nat) (ρ : Arg → PV) (st : St) (agg : Bool) (n : Nat) (a : Arg) : okAt nd T k0 key ρ st (.load agg n a) = (key ∉ T ∧ (nd = true → ∀ k o, ρ a = .ptr k o → k < k0 ∧ k ∉ T)) := by
  unfold okAt
  apply propext
  constructor
  · intro h1
    have := h1 rfl
    exact ⟨this.1 (by simp [loadB]), this.2⟩
  · intro h1 _
    exact ⟨fun _ => h1.1, h1.2⟩
end Go.Pe
