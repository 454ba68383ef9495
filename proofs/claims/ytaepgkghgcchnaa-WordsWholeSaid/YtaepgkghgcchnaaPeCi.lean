/-
  Regions in an open order where some write: what must be known of each state that the writing ones pass through, and what follows. No condition; nothing of the program.
-/
import Derived.Test.YtaepgkghgcchnaaPeCh
set_option linter.unusedVariables false
set_option linter.unusedSimpArgs false
namespace Go.Pe
open Go Go.Am Go.RowKit

theorem Sim.merge2 {G G' : Ghost} {st st1 stA stB : St} {w w' : World} {base : Nat} {N : Nat → Prop} (hN : Sim G stA w base) (hle : ∀ k x, st.get k = some x → stA.get k = some x)
    (h1 : Step base N G st w G' st1 w') (hnk : ∀ k, (stA.get k).isSome → N k → False) (hM : ∀ k y, stB.get k = some y → st1.get k = some y ∨ (st.get k = none ∧ stA.get k = some y)) : Sim G' stB w' base := by
  have hle' : ∀ k, (st.get k).isSome → (stA.get k).isSome := by
    intro k hk
    obtain ⟨x, hx⟩ := Option.isSome_iff_exists.1 hk
    rw [hle k x hx]; rfl
  have old : ∀ (k : Nat) (x : Nat × Nat), (stA.get k).isSome → G'.B k = some x → G.B k = some x := by
    intro k x hk' hx
    rcases h1.new k x hx with h | h
    · exact h
    · exact (hnk k hk' h).elim
  have alone : ∀ (k : Nat) (x : Nat × Nat), (stA.get k).isSome → st.get k = none → G.B k = some x → ∀ (k0 : Nat) (x0 : Nat × Nat), (st.get k0).isSome → G.B k0 = some x0 → x0.1 ≠ x.1 := by
    intro k x hk' hn hB k0 x0 h0 hB0 e
    have := hN.inj k0 k x0 x (hle' k0 h0) hk' hB0 hB e
    subst this; rw [hn] at h0; simp at h0
  have kp : ∀ (k : Nat) (x : Nat × Nat), (stA.get k).isSome → st.get k = none → G.B k = some x → w'.heap[x.1]? = w.heap[x.1]? := fun k x a b c => h1.kept x.1 (hN.low k x a c).2 (alone k x a b c)
  have hMs : ∀ k, (stB.get k).isSome → (st1.get k).isSome ∨ (st.get k = none ∧ (stA.get k).isSome) := by
    intro k hk
    obtain ⟨y, hy⟩ := Option.isSome_iff_exists.1 hk
    rcases hM k y hy with h | ⟨h, h2⟩
    · left; rw [h]; rfl
    · right; exact ⟨h, by rw [h2]; rfl⟩
  refine ⟨h1.sim.bas, h1.sim.frz, ?_, ?_, ?_, ?_, ?_, ?_⟩
  · intro k cs z blk size hg hB
    rcases hM k _ hg with h | ⟨h, h2⟩
    · exact h1.sim.cells _ _ _ _ _ h hB
    · have hs : (stA.get k).isSome := by rw [h2]; rfl
      have hB0 := old k _ hs hB
      obtain ⟨cur, ty, m, a1, a2, a3, a4, a5⟩ := hN.cells k cs z blk size h2 hB0
      exact ⟨cur, ty, m, by rw [← a1]; exact kp k (blk, size) hs h hB0, a2, a3, a4, a5.mono h1.le⟩
  · intro k cs blk size hg hB i hi
    rcases hM k _ hg with h | ⟨h, h2⟩
    · exact h1.sim.frzd _ _ _ _ h hB i hi
    · obtain ⟨u, hu⟩ := hN.frzd k cs blk size h2 (old k _ (by rw [h2]; rfl) hB) i hi
      exact ⟨u, h1.le.F _ _ _ hu⟩
  · intro k cs blk size hg hB o
    rcases hM k _ hg with h | ⟨h, h2⟩
    · exact h1.sim.free _ _ _ _ h hB o
    · have hs : (stA.get k).isSome := by rw [h2]; rfl
      have hB0 := old k _ hs hB
      cases hF : G'.F blk o with
      | none => rfl
      | some u =>
        exfalso
        rcases h1.fnew blk o u hF with h3 | h3 | ⟨k0, x0, c, d, e⟩
        · rw [hN.free k cs blk size h2 hB0 o] at h3; simp at h3
        · have := (hN.low k _ hs hB0).2
          simp only [] at this; omega
        · exact alone k (blk, size) hs h hB0 k0 x0 c d e
  · have half : ∀ (k k' : Nat) (x x' : Nat × Nat), (st1.get k).isSome → st.get k' = none → (stA.get k').isSome → G'.B k = some x → G'.B k' = some x' → x.1 = x'.1 → k = k' := by
      intro k k' x x' h0 h2 h3 hB hB' e
      have hB0 := old k' _ h3 hB'
      rcases h1.own k x h0 hB with h | ⟨k0, x0, c, d, e'⟩
      · have := (hN.low k' x' h3 hB0).2; omega
      · exact absurd (show x0.1 = x'.1 by omega) (alone k' x' h3 h2 hB0 k0 x0 c d)
    intro k k' x x' hk hk' hB hB' e
    rcases hMs k hk with h | ⟨h, h2⟩ <;> rcases hMs k' hk' with h' | ⟨h', h2'⟩
    · exact h1.sim.inj k k' x x' h h' hB hB' e
    · exact half k k' x x' h h' h2' hB hB' e
    · exact (half k' k x' x h' h h2 hB' hB e.symm).symm
    · exact hN.inj k k' x x' h2 h2' (old k x h2 hB) (old k' x' h2' hB') e
  · intro k x hk hB
    rcases hMs k hk with h | ⟨h, h2⟩
    · exact h1.sim.low _ _ h hB
    · obtain ⟨a1, a2⟩ := hN.low k x h2 (old k x h2 hB)
      exact ⟨a1, Nat.lt_of_lt_of_le a2 h1.size⟩
  · intro k es blk size hg hB
    rcases hM k _ hg with h | ⟨h, h2⟩
    · exact h1.sim.mps _ _ _ _ h hB
    · have hs : (stA.get k).isSome := by rw [h2]; rfl
      have hB0 := old k _ hs hB
      obtain ⟨obj, a1, a2⟩ := hN.mps k es blk size h2 hB0
      exact ⟨obj, by rw [← a1]; exact kp k (blk, size) hs h hB0, a2.mono h1.le⟩

/-- what is fixed -/
structure CCtx (P : Program) (Gl : Gmap) (V : List Nat) (n : Nat) (modes : FuncId → Option Bool) (cfg : Cfg) (callE : CallE) (ops : Array Oper) (ml : List MOper) (A : Nat → Nat → Prop) (key : Nat) (G0 : Ghost) (cs : Nat → Loc) (rs : Nat → PV) : Prop where
  len : ml.length = ops.size
  comp : ∀ (i : Nat) (o : Oper) (mo : MOper), ops[i]? = some o → ml[i]? = some mo → cDst V n o.dst = some mo.dst ∧ cGuard V n ops o.guard = some mo.guard ∧ (mo.op = .bad ∨ (cOp P V modes o.op = some mo.op ∧ (mo.op.plain = true ∨ isCallOp o.op = true)))
  step : ∀ (i : Nat) (mo : MOper), ml[i]? = some mo → StepAt cfg callE (key + 8 * i) mo (cs i) (rs i) (cs (i + 1))
  back : ∀ (i : Nat) (o : Oper), ops[i]? = some o → ∀ e ∈ o.after, Region.binds .any e = true → e.on < i
  ahead : ∀ (i : Nat) (o : Oper) (j : Nat), ops[i]? = some o → j < ops.size → A i j → ∃ e ∈ o.after, Region.binds .any e = true ∧ (e.on = j ∨ A e.on j)
  lone : ∀ (i j t : Nat), i < ops.size → j < ops.size → dstAt ops i = some t → dstAt ops j = some t → i = j
  sees : ∀ (i j : Nat) (mo : MOper) (t : Nat), ml[i]? = some mo → j < ops.size → dstAt ops j = some t → t ∈ mo.reads → (j < i ∧ A i j) ∨ (i < j ∧ A j i)
  full : Full Gl G0 (cs 0).st
  fresh : ∀ k, key ≤ k → G0.B k = none
  cnt : key + 8 * ops.size ≤ (cs 0).st.cnt
/-- may an operation run in a state of those that write? -/
def May (ops : Array Oper) (ml : List MOper) (A : Nat → Nat → Prop) (d : Nat → Bool) (q : Nat) : Prop :=
  (∀ w, w < ops.size → quietAt ml w = false → A q w → d w = true) ∧ (∀ w, w < ops.size → quietAt ml w = false → A w q → d w = false)
/-- the states -/
structure PosSys (cfg : Cfg) (callE : CallE) (ops : Array Oper) (ml : List MOper) (A : Nat → Nat → Prop) (key : Nat) (cs : Nat → Loc) (rs : Nat → PV) (X : Type) (dn : X → Nat → Bool) (sg : X → St) : Prop where
  quiet : ∀ (x : X) (q : Nat) (mo : MOper), ml[q]? = some mo → quietB mo.op = true → May ops ml A (dn x) q →
    (guardP (cs q) mo.guard = some true → ∃ st st', (∀ k y, st.get k = some y → (sg x).get k = some y) ∧ st.get (key + 8 * q) = none ∧ st.cnt = (sg x).cnt ∧ evOp cfg callE (cs q).rd st (key + 8 * q) mo.op = some (rs q, st') ∧ (sg x).get (key + 8 * q) = st'.get (key + 8 * q)) ∧
    (guardP (cs q) mo.guard = some false → (sg x).get (key + 8 * q) = none)
  chain : ∀ (x : X) (w : Nat) (mo : MOper), ml[w]? = some mo → quietB mo.op = false → dn x w = false → May ops ml A (dn x) w → ∃ x' : X, (∀ v, v < ops.size → quietAt ml v = false → (dn x' v = true ↔ v = w ∨ dn x v = true)) ∧
    (guardP (cs w) mo.guard = some false → (∀ k y, (sg x').get k = some y → (sg x).get k = some y) ∧ (sg x').cnt = (sg x).cnt) ∧
    (guardP (cs w) mo.guard = some true → ∃ st st1, (∀ k y, st.get k = some y → (sg x).get k = some y) ∧ st.cnt = (sg x).cnt ∧ evOp cfg callE (cs w).rd st (key + 8 * w) mo.op = some (rs w, st1) ∧
      (∀ k y, (sg x').get k = some y → st1.get k = some y ∨ (st.get k = none ∧ (sg x).get k = some y)) ∧ (sg x').cnt = st1.cnt ∧ (∀ q, q < ops.size → quietAt ml q = true → (st.get (key + 8 * q)).isSome → A w q))
  last : ∀ x, (∀ w, w < ops.size → quietAt ml w = false → dn x w = true) → (∀ k y, (cs ops.size).st.get k = some y → (sg x).get k = some y) ∧ (cs ops.size).st.cnt = (sg x).cnt
section
variable {P : Program} {Gl : Gmap} {V : List Nat} {n : Nat} {modes : FuncId → Option Bool} {cfg : Cfg} {callE : CallE} {ops : Array Oper} {ml : List MOper} {A : Nat → Nat → Prop} {key : Nat} {G0 : Ghost} {cs : Nat → Loc} {rs : Nat → PV}
theorem CCtx.mo (D : CCtx P Gl V n modes cfg callE ops ml A key G0 cs rs) {i : Nat} (h : i < ops.size) : ∃ o mo, ops[i]? = some o ∧ ml[i]? = some mo :=
  ⟨ops[i], ml[i]'(by rw [D.len]; exact h), Array.getElem?_eq_getElem h, List.getElem?_eq_getElem _⟩
theorem CCtx.slot (D : CCtx P Gl V n modes cfg callE ops ml A key G0 cs rs) (t : Nat) : ∀ j, j ≤ ops.size →
    (∃ i, i < j ∧ dstAt ops i = some t ∧ (lk V (cs j) t = rs i ∨ lk V (cs j) t = .und)) ∨ ((∀ i, i < j → dstAt ops i ≠ some t) ∧ lk V (cs j) t = lk V (cs 0) t)
  | 0, _ => .inr ⟨fun i hi => by omega, rfl⟩
  | j + 1, h => by
    obtain ⟨o, mo, ho, hmo⟩ := D.mo (i := j) (by omega)
    obtain ⟨hd, _, _⟩ := D.comp j o mo ho hmo
    have hda : dstAt ops j = o.dst := by simp [dstAt, ho]
    by_cases hdt : o.dst = some t
    · left
      refine ⟨j, by omega, by rw [hda, hdt], ?_⟩
      rw [hdt] at hd
      rcases D.step j mo hmo with ⟨_, st, hev, hc⟩ | ⟨_, hr, hc⟩
      · rw [hc]; exact lk_wr_same hd
      · rw [hc, hr]; exact lk_wr_same hd
    · have e : lk V (cs (j + 1)) t = lk V (cs j) t := by
        rcases D.step j mo hmo with ⟨_, st, hev, hc⟩ | ⟨_, hr, hc⟩
        · rw [hc, lk_wr_ne hd hdt]; rfl
        · rw [hc, lk_wr_ne hd hdt]
      rcases D.slot t j (by omega) with ⟨i, hi, hi2, hi3⟩ | ⟨h1, h2⟩
      · left; exact ⟨i, by omega, hi2, by rw [e]; exact hi3⟩
      · right
        refine ⟨fun i hi => ?_, by rw [e]; exact h2⟩
        by_cases hij : i = j
        · subst hij; rw [hda]; exact hdt
        · exact h1 i (by omega)
/-- how things stand once some have run -/
structure CInv (V : List Nat) (n : Nat) (ops : Array Oper) (ml : List MOper) (key base : Nat) (G0 : Ghost) (a0 : Act) (w0 : World) (cs : Nat → Loc) (rs : Nat → PV) (d : Nat → Bool) (σ : St) (L : Nat → Prop) (G : Ghost) (a : Act) (w : World) : Prop where
  size : n ≤ a.tmps.size
  defers : a.defers = a0.defers
  edges : ∀ (i : Nat) (o : Oper), L i → ops[i]? = some o → ∀ e ∈ o.after, Region.binds .any e = true → L e.on
  inr : ∀ i, L i → i < ops.size
  slotW : ∀ i t, L i → dstAt ops i = some t → VRel G (a.tmps.getD t undef) (rs i)
  slotO : ∀ t, (∀ i, L i → dstAt ops i ≠ some t) → VRel G (a.tmps.getD t undef) (lk V (cs 0) t)
  pos : ∀ v, v < ops.size → quietAt ml v = false → (d v = true ↔ L v)
  le : G0.le G
  new : ∀ k x, G.B k = some x → G0.B k = some x ∨ (∃ i, L i ∧ k = key + 8 * i) ∨ ((cs 0).st.cnt ≤ k ∧ k < σ.cnt)
  cntle : (cs 0).st.cnt ≤ σ.cnt
  sim : Sim G σ w base
  os : w.os = w0.os
  tape : w.tape = w0.tape
  output : w.output = w0.output
  hsize : w0.heap.size ≤ w.heap.size
  kept : ∀ j, j < w0.heap.size → (∀ k x, ((cs 0).st.get k).isSome → G0.B k = some x → x.1 ≠ j) → w.heap[j]? = w0.heap[j]?
  own : ∀ k x, (σ.get k).isSome → G.B k = some x → w0.heap.size ≤ x.1 ∨ ∃ k0 x0, ((cs 0).st.get k0).isSome ∧ G0.B k0 = some x0 ∧ x0.1 = x.1
  fnew : ∀ b o u, G.F b o = some u → G0.F b o = some u ∨ w0.heap.size ≤ b ∨ ∃ k0 x0, ((cs 0).st.get k0).isSome ∧ G0.B k0 = some x0 ∧ x0.1 = b
  ful : ∀ k, (σ.get k).isSome → ((cs 0).st.get k).isSome ∨ (G.B k).isSome ∨ ∃ q, q < ops.size ∧ quietAt ml q = true ∧ ¬ L q ∧ k = key + 8 * q
variable {base : Nat} {a0 : Act} {w0 : World} {d : Nat → Bool} {σ : St} {L : Nat → Prop} {G : Ghost} {a : Act} {w : World}
theorem CInv.closed (D : CCtx P Gl V n modes cfg callE ops ml A key G0 cs rs) (I : CInv V n ops ml key base G0 a0 w0 cs rs d σ L G a w) : ∀ i j, L i → j < ops.size → A i j → L j := by
  intro i
  induction i using Nat.strongRecOn with
  | ind i ih =>
    intro j hi hj hA
    have hin := I.inr i hi
    obtain ⟨o, mo, ho, hmo⟩ := D.mo hin
    obtain ⟨e, he, hb, hc⟩ := D.ahead i o j ho hj hA
    have hL := I.edges i o hi ho e he hb
    rcases hc with h | h
    · rw [← h]; exact hL
    · exact ih e.on (D.back i o ho e he hb) j hL hj h
theorem CInv.before (D : CCtx P Gl V n modes cfg callE ops ml A key G0 cs rs) (I : CInv V n ops ml key base G0 a0 w0 cs rs d σ L G a w) {j : Nat} {o : Oper} (ho : ops[j]? = some o) (hr : ∀ e ∈ o.after, Region.binds .any e = true → L e.on) {i : Nat} (hi : i < ops.size) (hA : A j i) : L i := by
  obtain ⟨e, he, hb, hc⟩ := D.ahead j o i ho hi hA
  rcases hc with h | h
  · rw [← h]; exact hr e he hb
  · exact I.closed D e.on i (hr e he hb) hi h
theorem CInv.may (D : CCtx P Gl V n modes cfg callE ops ml A key G0 cs rs) (I : CInv V n ops ml key base G0 a0 w0 cs rs d σ L G a w) {j : Nat} {o : Oper} (ho : ops[j]? = some o) (hj : ¬ L j) (hr : ∀ e ∈ o.after, Region.binds .any e = true → L e.on) : May ops ml A d j := by
  have hjn : j < ops.size := (Array.getElem?_eq_some_iff.1 ho).1
  refine ⟨fun v hv hq hA => (I.pos v hv hq).2 (I.before D ho hr hv hA), fun v hv hq hA => ?_⟩
  cases hd : d v with
  | false => rfl
  | true => exact absurd (I.closed D v j ((I.pos v hv hq).1 hd) hjn hA) hj
theorem CInv.read (D : CCtx P Gl V n modes cfg callE ops ml A key G0 cs rs) (I : CInv V n ops ml key base G0 a0 w0 cs rs d σ L G a w) {j : Nat} {o : Oper} {mo : MOper} (ho : ops[j]? = some o) (hmo : ml[j]? = some mo) (hj : ¬ L j) (hr : ∀ e ∈ o.after, Region.binds .any e = true → L e.on) {t : Nat} (ht : t ∈ mo.reads) : VRel G (a.tmps.getD t undef) (lk V (cs j) t) := by
  have hjn : j < ops.size := (Array.getElem?_eq_some_iff.1 ho).1
  rcases D.slot t j (by omega) with ⟨i, hi, hd, hv⟩ | ⟨h1, h2⟩
  · have hL : L i := by
      rcases D.sees j i mo t hmo (by omega) hd ht with ⟨_, hA⟩ | ⟨hc, _⟩
      · exact I.before D ho hr (by omega) hA
      · omega
    rcases hv with hv | hv
    · rw [hv]; exact I.slotW i t hL hd
    · rw [hv]; exact .und _
  · rw [h2]
    refine I.slotO t ?_
    intro i hi hd
    have hin := I.inr i hi
    rcases D.sees j i mo t hmo hin hd ht with ⟨hc, _⟩ | ⟨_, hA⟩
    · exact h1 i hc hd
    · exact hj (I.closed D i j hi hjn hA)
theorem CInv.noKey (D : CCtx P Gl V n modes cfg callE ops ml A key G0 cs rs) (I : CInv V n ops ml key base G0 a0 w0 cs rs d σ L G a w) {j : Nat} (hjn : j < ops.size) (hj : ¬ L j) : G.B (key + 8 * j) = none := by
  have h2 := D.cnt
  cases hx : G.B (key + 8 * j) with
  | none => rfl
  | some x =>
    rcases I.new _ x hx with h | ⟨i, hi, he⟩ | ⟨h, _⟩
    · rw [D.fresh _ (by omega)] at h; simp at h
    · exact absurd (by rw [show j = i by omega]; exact hi) hj
    · omega
theorem CInv.noCnt (D : CCtx P Gl V n modes cfg callE ops ml A key G0 cs rs) (I : CInv V n ops ml key base G0 a0 w0 cs rs d σ L G a w) : ∀ k, σ.cnt ≤ k → G.B k = none := by
  intro k hk
  have h1 := I.cntle
  have h2 := D.cnt
  cases hx : G.B k with
  | none => rfl
  | some x =>
    rcases I.new _ x hx with h | ⟨i, hi, he⟩ | ⟨_, h⟩
    · rw [D.fresh _ (by omega)] at h; simp at h
    · have := I.inr i hi; omega
    · omega
/-- behind an operation -/
theorem CInv.after (D : CCtx P Gl V n modes cfg callE ops ml A key G0 cs rs) (I : CInv V n ops ml key base G0 a0 w0 cs rs d σ L G a w) {j : Nat} {o : Oper} {mo : MOper} (ho : ops[j]? = some o) (hmo : ml[j]? = some mo) (hj : ¬ L j) (hr : ∀ e ∈ o.after, Region.binds .any e = true → L e.on)
    {d' : Nat → Bool} {σ' st st1 : St} (hd' : ∀ v, v < ops.size → quietAt ml v = false → (d' v = true ↔ v = j ∨ d v = true)) (hle : ∀ k y, st.get k = some y → σ.get k = some y) (hcn : st.cnt = σ.cnt) (hcn' : σ'.cnt = st1.cnt) (hcm : st.cnt ≤ st1.cnt)
    (hM : ∀ k y, σ'.get k = some y → st1.get k = some y ∨ (st.get k = none ∧ σ.get k = some y ∧ k ≠ key + 8 * j))
    (hqk : quietAt ml j = true → st.get (key + 8 * j) = none)
    {v : Value} {G' : Ghost} {w' : World} (hv : VRel G' v (rs j)) (hst : Step base (Keys (key + 8 * j) st st1) G st w G' st1 w') : CInv V n ops ml key base G0 a0 w0 cs rs d' σ' (fun i => i = j ∨ L i) G' (a.put o.dst v) w' := by
  have hjn : j < ops.size := (Array.getElem?_eq_some_iff.1 ho).1
  have hda : dstAt ops j = o.dst := by simp [dstAt, ho]
  have hcnt := D.cnt
  have hcl := I.cntle
  obtain ⟨hd, _, _⟩ := D.comp j o mo ho hmo
  have hGk := I.noKey D hjn hj
  have hGc := I.noCnt D
  have keep : ∀ t, o.dst ≠ some t → (a.put o.dst v).tmps.getD t undef = a.tmps.getD t undef := by
    intro t ht
    cases hod : o.dst with
    | none => rfl
    | some u =>
      rw [hod] at hd
      rw [getD_put I.size (cDst_lt hd), if_neg (fun e => ht (by rw [hod, e]))]
  have hles : ∀ k, (st.get k).isSome → (σ.get k).isSome := by
    intro k h0
    obtain ⟨y, hy⟩ := Option.isSome_iff_exists.1 h0
    rw [hle k y hy]; rfl
  have ownOK : ∀ k0 x0, (st.get k0).isSome → G.B k0 = some x0 → w0.heap.size ≤ x0.1 ∨ ∃ k1 x1, ((cs 0).st.get k1).isSome ∧ G0.B k1 = some x1 ∧ x1.1 = x0.1 := fun k0 x0 h0 hB => I.own k0 x0 (hles k0 h0) hB
  have hMs : ∀ k, (σ'.get k).isSome → (st1.get k).isSome ∨ (st.get k = none ∧ (σ.get k).isSome ∧ k ≠ key + 8 * j) := by
    intro k hk
    obtain ⟨y, hy⟩ := Option.isSome_iff_exists.1 hk
    rcases hM k y hy with h | ⟨h, h2, h3⟩
    · left; rw [h]; rfl
    · right; exact ⟨h, by rw [h2]; rfl, h3⟩
  -- what is in the store, and is none of the operation's keys but its own
  have hnk : ∀ k, (σ.get k).isSome → Keys (key + 8 * j) st st1 k → k = key + 8 * j := by
    intro k hk hN
    rcases hN with h | ⟨h, _⟩
    · exact h
    · exfalso
      rcases I.ful k hk with h1 | h1 | ⟨q, hq, _, _, rfl⟩
      · have := D.full.2 k h1
        rw [D.fresh _ (by omega)] at this; simp at this
      · rw [hGc k (by omega)] at h1; simp at h1
      · omega
  have hsk : st.get (key + 8 * j) = none := by
    cases hqj : quietAt ml j with
    | true => exact hqk hqj
    | false =>
      cases hx : st.get (key + 8 * j) with
      | none => rfl
      | some y =>
        exfalso
        rcases I.ful _ (hles _ (by rw [hx]; rfl)) with h2 | h2 | ⟨q, h3, h4, h5, h6⟩
        · have := D.full.2 _ h2
          rw [D.fresh _ (by omega)] at this; simp at this
        · rw [hGk] at h2; simp at h2
        · have : q = j := by omega
          subst this; rw [hqj] at h4; simp at h4
  refine ⟨by rw [Act.put_size]; exact I.size, by rw [Act.put_defers']; exact I.defers, ?_, ?_, ?_, ?_, ?_, I.le.trans hst.le, ?_, by omega, ?_, hst.os.trans I.os, hst.tape.trans I.tape, hst.output.trans I.output, Nat.le_trans I.hsize hst.size, ?_, ?_, ?_, ?_⟩
  · rintro i o' (rfl | hi) ho' e he hb
    · rw [ho] at ho'; cases ho'; exact .inr (hr e he hb)
    · exact .inr (I.edges i o' hi ho' e he hb)
  · rintro i (rfl | hi)
    · exact hjn
    · exact I.inr i hi
  · rintro i t (rfl | hi) hdt
    · rw [hda] at hdt
      rw [hdt] at hd ⊢
      rw [getD_put I.size (cDst_lt hd), if_pos rfl]; exact hv
    · have hne : o.dst ≠ some t := by
        intro e
        have := D.lone i j t (I.inr i hi) hjn hdt (by rw [hda]; exact e)
        subst this; exact hj hi
      rw [keep t hne]; exact (I.slotW i t hi hdt).mono hst.le
  · intro t ht
    rw [keep t (by rw [← hda]; exact ht j (.inl rfl))]
    exact (I.slotO t (fun i hi => ht i (.inr hi))).mono hst.le
  · intro q hq hqq
    rw [hd' q hq hqq, I.pos q hq hqq]
  · intro k x hx
    rcases hst.new k x hx with h | h | h
    · rcases I.new k x h with h2 | ⟨i, hi, he⟩ | ⟨h2, h3⟩
      · exact .inl h2
      · exact .inr (.inl ⟨i, .inr hi, he⟩)
      · exact .inr (.inr ⟨h2, by omega⟩)
    · exact .inr (.inl ⟨j, .inl rfl, h⟩)
    · exact .inr (.inr ⟨by omega, by omega⟩)
  · refine Sim.merge2 (stA := σ.put (key + 8 * j) none) (I.sim.less (fun k x hx => (St.drop_less _ _ k x hx).2)) ?_ hst ?_ ?_
    · intro k x hx
      rw [St.get_put_ne (by rintro rfl; rw [hsk] at hx; simp at hx)]; exact hle k x hx
    · intro k hk hN
      obtain ⟨x, hx⟩ := Option.isSome_iff_exists.1 hk
      obtain ⟨h1, h2⟩ := St.drop_less _ _ k x hx
      exact h1 (hnk k (by rw [h2]; rfl) hN)
    · intro k y hy
      rcases hM k y hy with h | ⟨h, h2, h3⟩
      · exact .inl h
      · right
        rw [St.get_put_ne (fun e => h3 e.symm)]
        exact ⟨h, h2⟩
  · intro q hq hk
    rw [hst.kept q (Nat.lt_of_lt_of_le hq I.hsize) ?_]
    · exact I.kept q hq hk
    · intro k x hx hB e
      rcases ownOK k x hx hB with h | ⟨k1, x1, c, e1, e'⟩
      · omega
      · exact hk k1 x1 c e1 (by omega)
  · intro k x hx hB
    rcases hMs k hx with h | ⟨h, h2, h3⟩
    · rcases hst.own _ x h hB with h | ⟨k0, x0, c, e1, e⟩
      · exact .inl (Nat.le_trans I.hsize h)
      · rcases ownOK k0 x0 c e1 with h | ⟨k1, x1, c1, d1, e2⟩
        · exact .inl (by omega)
        · exact .inr ⟨k1, x1, c1, d1, by omega⟩
    · rcases hst.new k x hB with h4 | h4
      · exact I.own k x h2 h4
      · exact absurd (hnk k h2 h4) h3
  · intro b q u hu
    rcases hst.fnew b q u hu with h | h | ⟨k0, x0, c, e1, e⟩
    · exact I.fnew b q u h
    · exact .inr (.inl (Nat.le_trans I.hsize h))
    · rcases ownOK k0 x0 c e1 with h | ⟨k1, x1, c1, d1, e2⟩
      · exact .inr (.inl (by omega))
      · exact .inr (.inr ⟨k1, x1, c1, d1, by omega⟩)
  · have fwd : ∀ k, (σ.get k).isSome → k ≠ key + 8 * j → ((cs 0).st.get k).isSome ∨ (G'.B k).isSome ∨ ∃ q, q < ops.size ∧ quietAt ml q = true ∧ ¬ (q = j ∨ L q) ∧ k = key + 8 * q := by
      intro k hk hne
      rcases I.ful k hk with h | h | ⟨q, h1, h2, h3, rfl⟩
      · exact .inl h
      · obtain ⟨x, hx⟩ := Option.isSome_iff_exists.1 h
        exact .inr (.inl (by rw [hst.le.B _ x hx]; rfl))
      · exact .inr (.inr ⟨q, h1, h2, by rintro (rfl | h); exact hne rfl; exact h3 h, rfl⟩)
    intro k hk
    rcases hMs k hk with h | ⟨h, h2, h3⟩
    · rcases hst.ful k h with h1 | h1
      · by_cases e : k = key + 8 * j
        · subst e; rw [hsk] at h1; simp at h1
        · exact fwd k (hles k h1) e
      · exact .inr (.inl h1)
    · exact fwd k h2 h3
end
end Go.Pe
