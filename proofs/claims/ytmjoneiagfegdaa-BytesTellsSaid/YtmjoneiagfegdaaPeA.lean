/-
  Open-order regions in the logic, where texts are made of what is written in the same chain. No condition; nothing of the program.
-/
import Derived.Test.YtmjoneiagfegdaaPe9
set_option linter.unusedVariables false
set_option linter.unusedSimpArgs false
namespace Go.Pe
open Go

def b2sB : MOp → Bool
  | .conv .b2s _ => true
  | _ => false
theorem b2s_indep {cfg : Cfg} {callE : CallE} {ρ : Arg → PV} {st : St} {key : Nat} {x : Arg} {v : PV} {st' : St} (h : evOp cfg callE ρ st key (.conv .b2s x) = some (v, st')) : st' = st ∧ ∀ st2 key2, cellsOf st2 1 (ρ x) = cellsOf st 1 (ρ x) → evOp cfg callE ρ st2 key2 (.conv .b2s x) = some (v, st2) := by
  have e : ∀ (s : St) (k : Nat), evOp cfg callE ρ s k (.conv .b2s x) = match cellsOf s 1 (ρ x) with
      | some (_, cs) => (bytesOf? cs).map fun l => (.s l, s)
      | none => none := by
    intro s k
    simp only [evOp]
    cases ρ x <;> rfl
  rw [e] at h
  split at h
  · rename_i n cs hcs
    obtain ⟨l, hl, he⟩ := Option.map_eq_some_iff.1 h
    cases he
    refine ⟨rfl, fun st2 key2 hk => ?_⟩
    rw [e, hk, hcs]
    simp only [hl, Option.map_some]
  · simp at h
def light9 (T : List Nat) (k0 ks : Nat) (ρ : Arg → PV) (st : St) : MOp → Prop
  | .conv .b2s x => ∀ st2 : St, (∀ k, k < ks → k ∉ T → st2.get k = st.get k) → cellsOf st2 1 (ρ x) = cellsOf st 1 (ρ x)
  | m => lightOp T k0 ρ m
def okAt9 (nd : Bool) (T : List Nat) (k0 ks key : Nat) (ρ : Arg → PV) (st : St) (m : MOp) : Prop :=
  quietB m = true → ((nd || pureB m || loadB m || b2sB m) = true → key ∉ T) ∧ (nd = true → light9 T k0 ks ρ st m)
def WOC9 (cfg : Cfg) (callE : CallE) (T : List Nat) (k0 ks : Nat) : List Bool → List MOper → Nat → Loc → (Loc → Prop) → Prop
  | _, [], _, c, Q => Q c
  | [], _ :: _, _, _, _ => False
  | nd :: ns, o :: r, key, c, Q => match guardP c o.guard with
    | some true => okAt9 nd T k0 ks key c.rd c.st o.op ∧ WV (evOp cfg callE c.rd c.st key o.op) fun v st' => postAt nd T key o.op c.st v st' ∧ WOC9 cfg callE T k0 ks ns r (key + 8) (({ c with st := st' } : Loc).wr o.dst v) Q
    | some false => WOC9 cfg callE T k0 ks ns r (key + 8) (c.wr o.dst (.tup [])) Q
    | none => False
def StepC9 (cfg : Cfg) (callE : CallE) (T : List Nat) (k0 ks key : Nat) (nd : Bool) (o : MOper) (c : Loc) (v : PV) (s1 s2 : St) : Prop :=
  c.st = s1 ∧ ((guardP c o.guard = some true ∧ okAt9 nd T k0 ks key c.rd s1 o.op ∧ evOp cfg callE c.rd s1 key o.op = some (v, s2) ∧ postAt nd T key o.op s1 v s2) ∨ (guardP c o.guard = some false ∧ s2 = s1))
theorem WOC9_tr {cfg : Cfg} {callE : CallE} {T : List Nat} {k0 ks : Nat} {Q : Loc → Prop} : ∀ (ml : List MOper) (ns : List Bool) (key : Nat) (c : Loc), WOC9 cfg callE T k0 ks ns ml key c Q →
    ∃ tr c', evTr cfg callE ml key c = some (tr, c') ∧ Q c' ∧ tr.length = ml.length ∧ stAt tr c' 0 = c.st ∧ ∀ i o, ml[i]? = some o → ∃ ci vi nd, tr[i]? = some (ci, vi) ∧ ns[i]? = some nd ∧ StepC9 cfg callE T k0 ks (key + 8 * i) nd o ci vi (stAt tr c' i) (stAt tr c' (i + 1))
  | [], ns, key, c, h => ⟨[], c, rfl, by cases ns <;> exact h, rfl, rfl, fun i o h => by simp at h⟩
  | o :: r, [], key, c, h => h.elim
  | o :: r, nd :: ns, key, c, h => by
    unfold WOC9 at h
    split at h
    · rename_i hg
      obtain ⟨hok, v, st', hev, hself, hr⟩ := h
      obtain ⟨tr, c', h1, h2, h3, h4, h5⟩ := WOC9_tr r ns _ _ hr
      have e : stAt ((c, v) :: tr) c' 0 = c.st := rfl
      have e' : ∀ i, stAt ((c, v) :: tr) c' (i + 1) = stAt tr c' i := fun _ => rfl
      refine ⟨(c, v) :: tr, c', ?_, h2, by rw [List.length_cons, List.length_cons, h3], rfl, ?_⟩
      · simp only [evTr, hg, hev, h1, Option.map_some]
      · intro i o' hi
        cases i with
        | zero =>
          simp only [List.getElem?_cons_zero, Option.some.injEq] at hi
          subst hi
          refine ⟨c, v, nd, rfl, rfl, rfl, .inl ⟨hg, hok, ?_, ?_⟩⟩
          · rw [e', h4, wr_st]; exact hev
          · rw [e', h4, wr_st]; exact hself
        | succ i =>
          obtain ⟨ci, vi, nd', q1, q2, q3⟩ := h5 i o' (by simpa using hi)
          refine ⟨ci, vi, nd', by simpa using q1, by simpa using q2, ?_⟩
          rw [e', e', show key + 8 * (i + 1) = key + 8 + 8 * i by omega]
          exact q3
    · rename_i hg
      obtain ⟨tr, c', h1, h2, h3, h4, h5⟩ := WOC9_tr r ns _ _ h
      have e' : ∀ i, stAt ((c, PV.tup []) :: tr) c' (i + 1) = stAt tr c' i := fun _ => rfl
      refine ⟨(c, .tup []) :: tr, c', ?_, h2, by rw [List.length_cons, List.length_cons, h3], rfl, ?_⟩
      · simp only [evTr, hg, h1, Option.map_some]
      · intro i o' hi
        cases i with
        | zero =>
          simp only [List.getElem?_cons_zero, Option.some.injEq] at hi
          subst hi
          refine ⟨c, .tup [], nd, rfl, rfl, rfl, .inr ⟨hg, ?_⟩⟩
          rw [e', h4, wr_st]; rfl
        | succ i =>
          obtain ⟨ci, vi, nd', q1, q2, q3⟩ := h5 i o' (by simpa using hi)
          refine ⟨ci, vi, nd', by simpa using q1, by simpa using q2, ?_⟩
          rw [e', e', show key + 8 * (i + 1) = key + 8 + 8 * i by omega]
          exact q3
    · exact h.elim
def b2sAt (ml : List MOper) (i : Nat) : Bool := match ml[i]? with
  | some o => b2sB o.op
  | none => false
def orderOK9 (ml : List MOper) (masks : List Nat) (s : Nat) : Bool := ((List.range ml.length).all fun j => quietAt ml j || (List.range ml.length).all fun m => !(decide (m < j) && quietAt ml m) || aheadB masks j m || (match ml[m]? with
  | some o => pureB o.op || loadB o.op || b2sB o.op
  | none => false)) && (List.range ml.length).all fun j => !b2sAt ml j || (List.range (ml.length + 1)).all fun t => (decide (t < ml.length) && quietAt ml t) || textAt ml j t || !mayAt ml masks j t || (decide (s ≤ t) && decide (s ≤ j))
set_option maxHeartbeats 4000000 in
theorem light_dyn9 {cfg : Cfg} {P : Program} {Gl : Gmap} {callE : CallE} (hC : CallOK P Gl callE) (hE : FreshE callE) {ml : List MOper} {masks : List Nat} {T : List Nat} {key : Nat} {c c' : Loc} {tr : List (Loc × PV)} {s : Nat} (hO : orderOK9 ml masks s = true)
    (h : evTr cfg callE ml key c = some (tr, c')) (hb : key + 8 * ml.length ≤ c.st.cnt) (hn : ∀ k, key ≤ k → k < key + 8 * ml.length → c.st.get k = none) (h0 : stAt tr c' 0 = c.st)
    (hst : ∀ i o, ml[i]? = some o → ∃ ci vi nd, tr[i]? = some (ci, vi) ∧ (needsL ml masks)[i]? = some nd ∧ StepC9 cfg callE T key (key + 8 * s) (key + 8 * i) nd o ci vi (stAt tr c' i) (stAt tr c' (i + 1))) : chainDyn cfg callE ml masks tr c' key = true := by
  have ha := evTr_ahead hC hE ml key c c' tr h hb hn
  -- frames
  have g1 : ∀ i k, i < ml.length → k ∉ T → k ≠ key + 8 * i → (stAt tr c' (i + 1)).get k = (stAt tr c' i).get k := by
    intro i k hi hk hne
    obtain ⟨ci, vi, nd, _, _, _, hs⟩ := hst i _ (List.getElem?_eq_getElem hi)
    rcases hs with ⟨_, hok, hev, hpo⟩ | ⟨_, e⟩
    · unfold postAt at hpo
      split at hpo
      · rename_i hq
        rcases quiet_store hq hev with e | ⟨o, e⟩
        · rw [e]
        · rw [e]; exact St.get_put_ne (fun e => hne e.symm)
      · exact hpo k hne hk
    · rw [e]
  have g2 : ∀ k, k ∉ T → k < key → ∀ i, i ≤ ml.length → (stAt tr c' i).get k = (stAt tr c' 0).get k := by
    intro k hk hlt i
    induction i with
    | zero => intro _; rfl
    | succ i ih => intro hi; rw [g1 i k (by omega) hk (by omega)]; exact ih (by omega)
  have g3 : ∀ q, key + 8 * q ∉ T → ∀ t, q + 1 ≤ t → t ≤ ml.length → (stAt tr c' t).get (key + 8 * q) = (stAt tr c' (q + 1)).get (key + 8 * q) := by
    intro q hq t
    induction t with
    | zero => intro h; omega
    | succ t ih =>
      intro h1 h2
      by_cases e : t = q
      · rw [e]
      · rw [g1 t _ (by omega) hq (by omega)]; exact ih (by omega) (by omega)
  have hcn : ∀ i, i ≤ ml.length → key + 8 * ml.length ≤ (stAt tr c' i).cnt := by
    intro i
    induction i with
    | zero => intro _; rw [h0]; exact hb
    | succ i ih =>
      intro hi
      have ih' := ih (by omega)
      obtain ⟨ci, vi, nd, _, _, _, hs⟩ := hst i _ (List.getElem?_eq_getElem (show i < ml.length by omega))
      rcases hs with ⟨_, _, hev, _⟩ | ⟨_, e⟩
      · have := evOp_cntle hC hev; omega
      · rw [e]; exact ih'
  have g4 : ∀ q, q < ml.length → (stAt tr c' (q + 1)).get (key + 8 * q) = none → ∀ t, q + 1 ≤ t → t ≤ ml.length → (stAt tr c' t).get (key + 8 * q) = none := by
    intro q hq hnq t
    induction t with
    | zero => intro h; omega
    | succ t ih =>
      intro h1 h2
      by_cases et : t = q
      · rw [et]; exact hnq
      · have ih' := ih (by omega) (by omega)
        have hct := hcn t (by omega)
        obtain ⟨ci, vi, nd, _, _, _, hs⟩ := hst t _ (List.getElem?_eq_getElem (show t < ml.length by omega))
        rcases hs with ⟨_, _, hev, _⟩ | ⟨_, e⟩
        · exact evOp_keep hE hev (by omega) (by omega) ih'
        · rw [e]; exact ih'
  have g5 : ∀ k, k ∉ T → k < key + 8 * s → ∀ t, s ≤ t → t ≤ ml.length → (stAt tr c' t).get k = (stAt tr c' s).get k := by
    intro k hk hlt t
    induction t with
    | zero => intro h1 h2; rw [show s = 0 by omega]
    | succ t ih =>
      intro h1 h2
      by_cases e : s = t + 1
      · rw [e]
      · rw [g1 t k (by omega) hk (by omega)]; exact ih (by omega) (by omega)
  unfold orderOK9 at hO
  rw [Bool.and_eq_true] at hO
  obtain ⟨hO, hO2⟩ := hO
  unfold chainDyn
  rw [List.all_eq_true]
  intro j hj
  have hjl : j < ml.length := by simpa using hj
  obtain ⟨o, ho⟩ : ∃ o, ml[j]? = some o := ⟨_, List.getElem?_eq_getElem hjl⟩
  have hqa := quietAt_of ho
  split
  · rename_i hq
    rw [List.all_eq_true]
    intro t ht
    have htl : t ≤ ml.length := by have := List.mem_range.1 ht; omega
    obtain ⟨ci, vi, nd, htr, hnd, hcs, hs⟩ := hst j o ho
    have hnd' : needB ml masks j = nd := by
      unfold needsL at hnd
      rw [List.getElem?_map] at hnd
      simpa [hjl] using hnd
    cases nd with
    | false =>
      unfold needB at hnd'
      rw [hq, Bool.true_and, List.any_eq_false] at hnd'
      have := hnd' t ht
      simp only [Bool.not_eq_true', Bool.not_eq_false] at this
      rw [this, Bool.true_or]
    | true =>
      by_cases hdone : (decide (t < ml.length) && quietAt ml t || textAt ml j t || !mayAt ml masks j t) = true
      · rw [hdone, Bool.true_or]
      have hbs : b2sB o.op = true → s ≤ t ∧ s ≤ j := by
        intro hb2
        rw [List.all_eq_true] at hO2
        have h1 := hO2 j hj
        have hb3 : b2sAt ml j = true := by unfold b2sAt; rw [ho]; exact hb2
        rw [hb3, Bool.not_true, Bool.false_or, List.all_eq_true] at h1
        have h2 := h1 t ht
        rw [Bool.or_eq_true] at h2
        rcases h2 with h2 | h2
        · exact absurd h2 hdone
        · simpa using h2
      have hag : again cfg callE ml tr c' key j t = true := by
        unfold again
        rw [ho, htr]
        simp only [Bool.and_eq_true, Bool.or_eq_true, decide_eq_true_eq]
        rcases hs with ⟨hg, hok, hev, hself⟩ | ⟨hg, e⟩
        · obtain ⟨hkT, hli⟩ := hok (by rw [← hqa]; exact hq)
          unfold postAt at hself
          rw [if_pos (by rw [← hqa]; exact hq)] at hself
          have hkT' := hkT (by simp)
          have hli' := hli rfl
          obtain ⟨hs1, hs2⟩ := hself rfl
          have hfr : (stAt tr c' j).get (key + 8 * j) = none := ha j j (Nat.le_refl _) hjl
          refine ⟨?_, ?_⟩
          · by_cases htj : t ≤ j
            · exact .inl htj
            · right
              rw [g3 j hkT' t (by omega) htl]; exact hs2
          · rw [hg]
            simp only
            have hsp : ((sig ml tr c' key t).put (key + 8 * j) none).get (key + 8 * j) = none := St.get_putk _ _ _
            have hlow : ∀ k, k < key → k ∉ T → ((sig ml tr c' key t).put (key + 8 * j) none).get k = (stAt tr c' j).get k := by
              intro k hk hkT
              rw [St.get_put_ne (by omega)]
              unfold sig
              rw [sigA_other _ _ _ (fun q _ _ _ => by omega), g2 k hkT hk t htl, g2 k hkT hk j (by omega)]
            have hlow9 : s ≤ t → s ≤ j → ∀ k, k < key + 8 * s → k ∉ T → ((sig ml tr c' key t).put (key + 8 * j) none).get k = (stAt tr c' j).get k := by
              intro h1 h2 k hk hkT
              rw [St.get_put_ne (by omega)]
              unfold sig
              rw [sigA_other _ _ _ (fun q _ _ _ => by omega), g5 k hkT hk t h1 htl, g5 k hkT hk j h2 (by omega)]
            by_cases hp : pureB o.op = true
            · obtain ⟨e1, e2⟩ := pure_indep hp hev
              rw [e2 _ _]
              simp only [hs1, Bool.true_and]
              rw [hsp, e1, hfr]; rfl
            · cases hop : o.op with
              | conv c x =>
                rw [hop] at hev hli' hbs
                cases c with
                | b2s =>
                  obtain ⟨hst', hsj⟩ := hbs rfl
                  obtain ⟨e1, e2⟩ := b2s_indep hev
                  rw [e2 _ _ (hli' _ (hlow9 hst' hsj))]
                  simp only [hs1, Bool.true_and]
                  rw [hsp, e1, hfr]; rfl
                | _ => rw [hop] at hp; exact absurd hli' hp
              | load agg n a =>
                rw [hop] at hev hli'
                obtain ⟨e1, e2⟩ := load_indep hev
                rw [e2 _ _ (fun k o e => hlow k (hli' k o e).1 (hli' k o e).2)]
                simp only [hs1, Bool.true_and]
                rw [hsp, e1, hfr]; rfl
              | callq f args =>
                rw [hop] at hev hli'
                obtain ⟨la, hla⟩ := hli'
                obtain ⟨st2, e1, e2⟩ := callq_indep hla hev ((sig ml tr c' key t).put (key + 8 * j) none)
                rw [e1]
                simp only [hs1, Bool.true_and]
                rcases e2 with ⟨e3, e4⟩ | e3
                · rw [e3, hsp, e4, hfr]; rfl
                · rw [e3]; exact hs2
              | _ => rw [hop] at hli' hp; exact absurd hli' hp
        · refine ⟨?_, by rw [hg]⟩
          by_cases htj : t ≤ j
          · exact .inl htj
          · right
            have hns := g4 j hjl (by rw [e]; exact ha j j (Nat.le_refl _) hjl)
            rw [hns t (by omega) htl, hns (j + 1) (Nat.le_refl _) (by omega)]; rfl
      rw [hag, Bool.or_true]
  · rename_i hq
    rw [List.all_eq_true]
    intro m hm
    have hml : m < ml.length := by simpa using hm
    by_cases hjm : j < m
    · rw [if_pos hjm, ha (j + 1) m (by omega) hml]; rfl
    · rw [if_neg hjm]
      split
      · rename_i hc
        simp only [Bool.and_eq_true, decide_eq_true_eq] at hc
        rw [List.all_eq_true] at hO
        have h1 := hO j hj
        rw [Bool.or_eq_true] at h1
        rcases h1 with h1 | h1
        · exact absurd h1 hq
        rw [List.all_eq_true] at h1
        have h2 := h1 m hm
        simp only [hc, decide_true, Bool.and_self, Bool.not_true, Bool.false_or, Bool.or_eq_true] at h2
        rcases h2 with h2 | h2
        · rw [h2, Bool.true_or]
        · obtain ⟨om, hom⟩ : ∃ o, ml[m]? = some o := ⟨_, List.getElem?_eq_getElem hml⟩
          rw [hom] at h2
          simp only [Bool.or_eq_true] at h2
          obtain ⟨ci, vi, nd, _, _, _, hs⟩ := hst m om hom
          have hqm : quietB om.op = true := by rw [← quietAt_of hom]; exact hc.2
          have hfr : (stAt tr c' m).get (key + 8 * m) = none := ha m m (Nat.le_refl _) hml
          have hend : (stAt tr c' j).get (key + 8 * m) = none := by
            rcases hs with ⟨_, hok, hev, _⟩ | ⟨_, e⟩
            · have hkT := (hok hqm).1 (by rcases h2 with (h2 | h2) | h2 <;> simp [h2])
              rw [g3 m hkT j (by omega) (by omega)]
              rcases h2 with (h2 | h2) | h2
              · rw [(pure_indep h2 hev).1]; exact hfr
              rotate_left
              · cases hop : om.op with
                | conv c x =>
                  rw [hop] at h2 hev
                  cases c <;> first | (simp [b2sB] at h2; done) | skip
                  rw [(b2s_indep hev).1]; exact hfr
                | _ => rw [hop] at h2; simp [b2sB] at h2
              · cases hop : om.op <;> rw [hop] at h2 hev <;> first | (simp [loadB] at h2; done) | skip
                rw [(load_indep hev).1]; exact hfr
            · exact g4 m hml (by rw [e]; exact hfr) j (by omega) (by omega)
          rw [hend]; simp
      · rfl
theorem WC_chainL9 {cfg : Cfg} {P : Program} {Gl : Gmap} {callE : CallE} (hC : CallOK P Gl callE) (hE : FreshE callE) {n : Nat} {ml : List MOper} {masks : List Nat} {Q : MExit → Now → Prop} (T : List Nat) {ns : List Bool} (s : Nat) (hO : orderOK9 ml masks s = true) (hN : needsL ml masks = ns) {env : Env} {st : St} (fr : ∀ k, st.cnt ≤ k → st.get k = none)
    (h : WOC9 cfg callE T st.cnt (st.cnt + 8 * s) ns ml st.cnt ⟨env, .leaf, ⟨st.sto, st.cnt + 8 * ml.length⟩⟩ fun c => Q .nrm ⟨c.env, c.st⟩) : WC cfg callE n (.chain ml masks none) ⟨env, st⟩ Q := by
  subst hN
  obtain ⟨tr, c', h1, h2, h3, h4, h5⟩ := WOC9_tr ml _ _ _ h
  have hd := light_dyn9 hC hE hO h1 (Nat.le_refl _) (fun k hk _ => fr k hk) h4 h5
  refine ⟨.nrm, ⟨c'.env, c'.st⟩, ?_, h2⟩
  simp only [evCode, evChain, h1, hd, swapDyn, Bool.and_self, if_true, Option.map_some]
theorem WOC9_nil (cfg : Cfg) (callE : CallE) (T : List Nat) (k0 ks : Nat) (ns : List Bool) (key : Nat) (c : Loc) (Q : Loc → Prop) : WOC9 cfg callE T k0 ks ns [] key c Q ↔ Q c := by cases ns <;> exact Iff.rfl
theorem WOC9_cons (cfg : Cfg) (callE : CallE) (T : List Nat) (k0 ks : Nat) (nd : Bool) (ns : List Bool) (d : MDst) (op : MOp) (r : List MOper) (key : Nat) (env loc : Env) (st : St) (Q : Loc → Prop) :
    WOC9 cfg callE T k0 ks (nd :: ns) (⟨d, op, none⟩ :: r) key ⟨env, loc, st⟩ Q ↔ okAt9 nd T k0 ks key (Loc.rd ⟨env, loc, st⟩) st op ∧ WV (evOp cfg callE (Loc.rd ⟨env, loc, st⟩) st key op) fun v st' => postAt nd T key op st v st' ∧ WOC9 cfg callE T k0 ks ns r (key + 8) (Loc.wr ⟨env, loc, st'⟩ d v) Q := Iff.trans Iff.rfl Iff.rfl
theorem WOC9_guard (cfg : Cfg) (callE : CallE) (T : List Nat) (k0 ks : Nat) (nd : Bool) (ns : List Bool) (d : MDst) (op : MOp) (x : Arg) (w : Bool) (r : List MOper) (key : Nat) (env loc : Env) (st : St) (Q : Loc → Prop) :
    WOC9 cfg callE T k0 ks (nd :: ns) (⟨d, op, some (x, w)⟩ :: r) key ⟨env, loc, st⟩ Q ↔ WG (Loc.rd ⟨env, loc, st⟩ x) w (okAt9 nd T k0 ks key (Loc.rd ⟨env, loc, st⟩) st op ∧ WV (evOp cfg callE (Loc.rd ⟨env, loc, st⟩) st key op) fun v st' => postAt nd T key op st v st' ∧ WOC9 cfg callE T k0 ks ns r (key + 8) (Loc.wr ⟨env, loc, st'⟩ d v) Q) (WOC9 cfg callE T k0 ks ns r (key + 8) (Loc.wr ⟨env, loc, st⟩ d (.tup [])) Q) := by
  show (match guardP _ _ with | some true => _ | some false => _ | none => False) ↔ _
  unfold guardP WG
  simp only []
  cases Loc.rd ⟨env, loc, st⟩ x with
  | b y => cases y <;> cases w <;> simp
  | tup vs => cases vs <;> simp
  | _ => simp
@[congr] theorem WOC9_congr {cfg : Cfg} {callE : CallE} {T : List Nat} {k0 ks : Nat} {ns : List Bool} {ml : List MOper} {key key' : Nat} {c c' : Loc} (h : key = key') (h2 : c = c') (Q : Loc → Prop) : WOC9 cfg callE T k0 ks ns ml key c Q = WOC9 cfg callE T k0 ks ns ml key' c' Q := by rw [h, h2]

theorem okAt9_w (nd : Bool) (T : List Nat) (k0 ks key : Nat) (ρ : Arg → PV) (st : St) (m : MOp) (h : quietB m = false) : okAt9 nd T k0 ks key ρ st m = True := by unfold okAt9; simp [h]
theorem okAt9_p (nd : Bool) (T : List Nat) (k0 ks key : Nat) (ρ : Arg → PV) (st : St) (m : MOp) (h : pureB m = true) (hq : quietB m = true) : okAt9 nd T k0 ks key ρ st m = (key ∉ T) := by
  unfold okAt9
  apply propext
  constructor
  · intro h1; exact (h1 hq).1 (by simp [h])
  · intro h1 _
    refine ⟨fun _ => h1, fun _ => ?_⟩
    unfold light9
    split
    · simp [pureB] at h
    · unfold lightOp
      split <;> first | exact h | (simp [pureB] at h)
theorem okAt9_b (nd : Bool) (T : List Nat) (k0 ks key : Nat) (ρ : Arg → PV) (st : St) (x : Arg) : okAt9 nd T k0 ks key ρ st (.conv .b2s x) = (key ∉ T ∧ (nd = true → ∀ st2 : St, (∀ k, k < ks → k ∉ T → st2.get k = st.get k) → cellsOf st2 1 (ρ x) = cellsOf st 1 (ρ x))) := by
  unfold okAt9
  apply propext
  constructor
  · intro h1
    have := h1 rfl
    exact ⟨this.1 (by simp [b2sB]), this.2⟩
  · intro h1 _
    exact ⟨fun _ => h1.1, h1.2⟩
end Go.Pe
