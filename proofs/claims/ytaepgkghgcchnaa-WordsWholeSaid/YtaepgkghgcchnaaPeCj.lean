/-
  Regions in an open order where some write: every order. No condition; nothing of the program.
-/
import Derived.Test.YtaepgkghgcchnaaPeCi
set_option linter.unusedVariables false
set_option linter.unusedSimpArgs false
namespace Go.Pe
open Go Go.Am Go.RowKit
section
variable {P : Program} {Gl : Gmap} {V : List Nat} {n : Nat} {modes : FuncId → Option Bool} {cfg : Cfg} {callE : CallE} {ops : Array Oper} {ml : List MOper} {A : Nat → Nat → Prop} {key : Nat} {G0 : Ghost} {cs : Nat → Loc} {rs : Nat → PV}
variable {base : Nat} {a0 : Act} {w0 : World} {X : Type} {dn : X → Nat → Bool} {sg : X → St}
theorem CInv.one (hcfg : CfgOK P Gl cfg) (hE : CallOK P Gl callE) (D : CCtx P Gl V n modes cfg callE ops ml A key G0 cs rs) (S : PosSys cfg callE ops ml A key cs rs X dn sg) {x : X} {L : Nat → Prop} {G : Ghost} {a : Act} {w : World} (I : CInv V n ops ml key base G0 a0 w0 cs rs (dn x) (sg x) L G a w) {j : Nat} {o : Oper} (ho : ops[j]? = some o) (hj : ¬ L j) (hr : ∀ e ∈ o.after, Region.binds .any e = true → L e.on)
    {Q : Exit → Act → World → Prop} {K : Act → World → Prop} (hK : ∀ x' a' w' G', CInv V n ops ml key base G0 a0 w0 cs rs (dn x') (sg x') (fun i => i = j ∨ L i) G' a' w' → K a' w') : wpOp P ops Q j K a w := by
  have hjn : j < ops.size := (Array.getElem?_eq_some_iff.1 ho).1
  obtain ⟨o', mo, ho', hmo⟩ := D.mo hjn
  rw [ho] at ho'; cases ho'
  obtain ⟨hd, hg, hop⟩ := D.comp j o mo ho hmo
  have hmay := I.may D ho hj hr
  have hqa : quietAt ml j = quietB mo.op := by simp [quietAt, hmo]
  have hread : ∀ x y, cArg V x = some y → (∀ t, y.slot = some t → t ∈ mo.reads) → VRel G (a.eval x) ((cs j).rd y) := by
    intro x y hy hs
    cases x with
    | tmp t =>
      simp only [cArg, Option.some.injEq] at hy
      subst hy
      rw [lk_rd]
      exact I.read D ho hmo hj hr (hs t (by split <;> rfl))
    | const v =>
      simp only [cArg, Option.map_eq_some_iff] at hy
      obtain ⟨p, hp, rfl⟩ := hy
      exact constP_rel hp
    | global g => simp [cArg] at hy
    | func f =>
      simp only [cArg, Option.some.injEq] at hy
      subst hy
      exact .fn f #[] [] rfl (fun i v p h => by simp at h)
  have hwant : ∀ b, guardP (cs j) mo.guard = some b → Region.wanted o (yielded ops a.tmps) = b := by
    intro b hb
    refine guard_ok' (G := G) hg ?_ I.size hb
    intro y b' hgy x hx
    refine hread x y hx ?_
    intro t ht
    unfold MOper.reads
    rw [hgy]
    exact List.mem_filterMap.2 ⟨y, by simp, ht⟩
  have hkeyN := I.noKey D hjn hj
  have hcntN := I.noCnt D
  -- what it does not read does not count
  let ρ : Arg → PV := fun y => match y.slot with
    | none => (cs j).rd y
    | some t => if t ∈ mo.reads then (cs j).rd y else .und
  have hρ : ∀ x y, cArg V x = some y → VRel G (a.eval x) (ρ y) := by
    intro x y hy
    show VRel G (a.eval x) (match y.slot with | none => (cs j).rd y | some t => if t ∈ mo.reads then (cs j).rd y else .und)
    split
    · rename_i hn
      exact hread x y hy (fun t ht => by rw [hn] at ht; simp at ht)
    · rename_i t ht
      split
      · rename_i hm
        exact hread x y hy (fun t' ht' => by rw [ht] at ht'; cases ht'; exact hm)
      · exact .und _
  have hevρ : ∀ {st : St} {r : PV} {st1 : St}, evOp cfg callE (cs j).rd st (key + 8 * j) mo.op = some (r, st1) → evOp cfg callE ρ st (key + 8 * j) mo.op = some (r, st1) := by
    intro st r st1 hev
    rw [← hev]
    refine evOp_congr _ ?_
    intro y hy
    show (match y.slot with | none => (cs j).rd y | some t => if t ∈ mo.reads then (cs j).rd y else .und) = _
    split
    · rfl
    · rename_i t ht
      rw [if_pos]
      unfold MOper.reads
      exact List.mem_filterMap.2 ⟨y, List.mem_append_left _ hy, ht⟩
  unfold wpOp
  simp only [ho]
  cases hqj : quietB mo.op with
  | true =>
    obtain ⟨hq1, hq2⟩ := S.quiet x j mo hmo hqj hmay
    have hd' : ∀ v, v < ops.size → quietAt ml v = false → (dn x v = true ↔ v = j ∨ dn x v = true) := by
      intro v hv hvq
      constructor
      · exact .inr
      · rintro (rfl | h)
        · rw [hqa, hqj] at hvq; simp at hvq
        · exact h
    rcases D.step j mo hmo with ⟨hgd, _, _, _⟩ | ⟨hgd, hrj, _⟩
    · obtain ⟨st, st', hle, hfr, hcn, hev, hsame⟩ := hq1 hgd
      rw [hwant true hgd, if_pos rfl]
      rcases hop with hbad | ⟨hcop, hpc⟩
      · rw [hbad] at hev; simp [evOp] at hev
      · left
        have hqs := quiet_store hqj hev
        have hcn2 : st'.cnt = st.cnt := by rcases hqs with e | ⟨o, e⟩ <;> rw [e]; rfl
        have hs : Sim G st w base := I.sim.less hle
        obtain ⟨_, hw⟩ := evOp_w hcfg hE hcop hpc hs (fun b o u hu => I.le.F b o u (D.full.1 b o u hu)) (by
          rintro (⟨f, l, h⟩ | ⟨f, l, h⟩) <;> (rw [h] at hqj; simp [quietB] at hqj)) hρ hkeyN (fun k hk => hcntN k (by omega)) (hevρ hev)
        refine hw _ _ ?_
        intro v w' G' hv hstep
        refine hK x _ _ G' (I.after D ho hmo hj hr hd' hle hcn (by omega) (by omega) ?_ (fun _ => hfr) hv hstep)
        intro k y hy
        by_cases hk : k = key + 8 * j
        · subst hk; rw [hsame] at hy; exact .inl hy
        · have e : st'.get k = st.get k := by
            rcases hqs with e | ⟨o, e⟩
            · rw [e]
            · rw [e]; exact St.get_put_ne (fun h => hk h.symm)
          rw [e]
          cases hx : st.get k with
          | none => exact .inr ⟨rfl, hy, hk⟩
          | some z => left; rw [hle k z hx] at hy; exact hy
    · have hno := hq2 hgd
      rw [hwant false hgd, if_neg (by simp)]
      exact hK x _ _ G (I.after D ho hmo hj hr hd' (fun _ _ h => h) rfl rfl (Nat.le_refl _) (fun k y hy => .inl hy) (fun _ => hno) (v := undef) (by rw [hrj]; exact undef_rel G) (Step.refl I.sim))
  | false =>
    have hdj : dn x j = false := by
      cases h : dn x j with
      | false => rfl
      | true => exact absurd ((I.pos j hjn (by rw [hqa, hqj])).1 h) hj
    have hnq : quietAt ml j = true → False := by intro h; rw [hqa, hqj] at h; simp at h
    obtain ⟨x', hdx, hc2, hc1⟩ := S.chain x j mo hmo hqj hdj hmay
    rcases D.step j mo hmo with ⟨hgd, _, _, _⟩ | ⟨hgd, hrj, _⟩
    · obtain ⟨st, st1, hle, hcn, hev, hM, hcn', hah⟩ := hc1 hgd
      rw [hwant true hgd, if_pos rfl]
      rcases hop with hbad | ⟨hcop, hpc⟩
      · rw [hbad] at hev; simp [evOp] at hev
      · left
        have hs : Sim G st w base := I.sim.less hle
        have hles : ∀ k, (st.get k).isSome → ((sg x).get k).isSome := by
          intro k h0
          obtain ⟨y, hy⟩ := Option.isSome_iff_exists.1 h0
          rw [hle k y hy]; rfl
        have hfull : Full Gl G st := by
          refine ⟨fun b o u hu => I.le.F b o u (D.full.1 b o u hu), ?_⟩
          intro k hk
          rcases I.ful k (hles k hk) with h | h | ⟨q, h1, h2, h3, rfl⟩
          · obtain ⟨y, hy⟩ := Option.isSome_iff_exists.1 (D.full.2 k h)
            rw [I.le.B k y hy]; rfl
          · exact h
          · exact absurd (I.before D ho hr h1 (hah q h1 h2 hk)) h3
        obtain ⟨hcm, hw⟩ := evOp_w hcfg hE hcop hpc hs hfull.1 (fun _ => hfull) hρ hkeyN (fun k hk => hcntN k (by omega)) (hevρ hev)
        refine hw _ _ ?_
        intro v w' G' hv hstep
        refine hK x' _ _ G' (I.after D ho hmo hj hr hdx hle hcn hcn' hcm ?_ (fun h => (hnq h).elim) hv hstep)
        intro k y hy
        rcases hM k y hy with h | ⟨h, h2⟩
        · exact .inl h
        · right
          refine ⟨h, h2, ?_⟩
          rintro rfl
          have := D.cnt
          rcases I.ful _ (by rw [h2]; rfl) with h3 | h3 | ⟨q, h4, h5, h6, h7⟩
          · have := D.full.2 _ h3
            rw [D.fresh _ (by omega)] at this; simp at this
          · rw [hkeyN] at h3; simp at h3
          · have : q = j := by omega
            subst this; exact hnq h5
    · obtain ⟨h1, h2⟩ := hc2 hgd
      rw [hwant false hgd, if_neg (by simp)]
      exact hK x' _ _ G (I.after D ho hmo hj hr hdx (fun _ _ h => h) rfl h2 (Nat.le_refl _) (fun k y hy => .inl (h1 k y hy)) (fun h => (hnq h).elim) (v := undef) (by rw [hrj]; exact undef_rel G) (Step.refl I.sim))
theorem call_listed (D : CCtx P Gl V n modes cfg callE ops ml A key G0 cs rs) {l : Array Bool} (hl : l.size = ops.size) (hr : Region.ready .any ops l = []) : ∀ i, i < ops.size → LS l i := by
  intro i
  induction i using Nat.strongRecOn with
  | ind i ih =>
    intro hi
    by_cases h : LS l i
    · exact h
    · exfalso
      have : i ∈ Region.ready .any ops l := by
        rw [mem_ready]
        refine ⟨?_, ops[i], Array.getElem?_eq_getElem hi, ?_⟩
        · unfold LS at h
          have h2 : i < l.size := by omega
          simp only [Array.getD_eq_getD_getElem?, Array.getElem?_eq_getElem h2, Option.getD_some] at h ⊢
          simpa using h
        · intro e he hb
          have hlt := D.back i _ (Array.getElem?_eq_getElem hi) e he hb
          exact ih e.on hlt (by omega)
      rw [hr] at this; simp at this
theorem CInv.congr {d : Nat → Bool} {σ : St} {L L' : Nat → Prop} {G : Ghost} {a : Act} {w : World} (h : CInv V n ops ml key base G0 a0 w0 cs rs d σ L G a w) (e : ∀ i, L' i ↔ L i) : CInv V n ops ml key base G0 a0 w0 cs rs d σ L' G a w := by
  have : L' = L := funext fun i => propext (e i)
  rw [this]; exact h
theorem cany_sound (hcfg : CfgOK P Gl cfg) (hE : CallOK P Gl callE) (D : CCtx P Gl V n modes cfg callE ops ml A key G0 cs rs) (S : PosSys cfg callE ops ml A key cs rs X dn sg)
    {Q : Exit → Act → World → Prop} (hQ : ∀ x a w G, CInv V n ops ml key base G0 a0 w0 cs rs (dn x) (sg x) (fun i => i < ops.size) G a w → Q .normal a w) :
    ∀ (fuel : Nat) (l : Array Bool) (x : X) (G : Ghost) (a : Act) (w : World), l.size = ops.size → l.count false = fuel → CInv V n ops ml key base G0 a0 w0 cs rs (dn x) (sg x) (LS l) G a w → wpAny P .any ops Q fuel l a w := by
  have fin : ∀ (l : Array Bool) (x : X) (G : Ghost) (a : Act) (w : World), l.size = ops.size → CInv V n ops ml key base G0 a0 w0 cs rs (dn x) (sg x) (LS l) G a w → Region.ready .any ops l = [] → Q .normal a w := by
    intro l x G a w hl I hr
    refine hQ x a w G (I.congr fun i => ⟨fun h => call_listed D hl hr i h, fun h => I.inr i h⟩)
  intro fuel
  induction fuel with
  | zero =>
    intro l x G a w hl hc I
    have hr : Region.ready .any ops l = [] := by
      cases hx : Region.ready .any ops l with
      | nil => rfl
      | cons i r =>
        exfalso
        have hi : i ∈ Region.ready .any ops l := by rw [hx]; simp
        rw [mem_ready] at hi
        obtain ⟨h0, o, ho, _⟩ := hi
        have hlt : i < l.size := by rw [hl]; exact (Array.getElem?_eq_some_iff.1 ho).1
        simp only [Array.getD_eq_getD_getElem?, Array.getElem?_eq_getElem hlt, Option.getD_some] at h0
        have : 0 < l.count false := Array.count_pos_iff.2 (by rw [← h0]; exact Array.getElem_mem hlt)
        omega
    exact ⟨hr, fin l x G a w hl I hr⟩
  | succ fuel ih =>
    intro l x G a w hl hc I
    refine ⟨fin l x G a w hl I, ?_⟩
    intro i hi
    rw [mem_ready] at hi
    obtain ⟨h0, o, ho, he⟩ := hi
    have hlt : i < l.size := by rw [hl]; exact (Array.getElem?_eq_some_iff.1 ho).1
    have h0' : l[i]? = some false := by
      simp only [Array.getD_eq_getD_getElem?, Array.getElem?_eq_getElem hlt, Option.getD_some] at h0
      rw [Array.getElem?_eq_getElem hlt, h0]
    refine I.one hcfg hE D S ho ?_ (fun e h hb => he e h hb) ?_
    · unfold LS
      simp [h0']
    · intro x' a' w' G' I'
      refine ih _ x' G' a' w' (by simp [hl]) ?_ (I'.congr fun k => ls_set hlt k)
      have := count_put h0'
      omega
end
end Go.Pe
