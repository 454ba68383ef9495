/-
  Regions in an open order: the whole. No condition; nothing of the program.
-/
import Derived.Test.YtaepgkghgcchnaaPeCf
set_option linter.unusedVariables false
set_option linter.unusedSimpArgs false
namespace Go.Pe
open Go Go.Am Go.RowKit

theorem dst_slot {V : List Nat} {n : Nat} {d : Option Tmp} {md : MDst} (h : cDst V n d = some md) : md.slot = d := by
  cases d with
  | none => simp [cDst] at h; subst h; rfl
  | some t =>
    simp only [cDst] at h
    split at h
    · simp only [Option.some.injEq] at h
      subst h
      split <;> rfl
    · simp at h
def dstAt (ops : Array Oper) (i : Nat) : Option Nat := (ops[i]?).bind (·.dst)
/-- what is fixed in a region of an open order -/
structure DCtx (P : Program) (Gl : Gmap) (V : List Nat) (n : Nat) (modes : FuncId → Option Bool) (cfg : Cfg) (callE : CallE) (ops : Array Oper) (ml : List MOper) (A : Nat → Nat → Prop) (key : Nat) (G0 : Ghost) (cs : Nat → Loc) (rs : Nat → PV) : Prop where
  len : ml.length = ops.size
  comp : ∀ (i : Nat) (o : Oper) (mo : MOper), ops[i]? = some o → ml[i]? = some mo → cDst V n o.dst = some mo.dst ∧ cGuard V n ops o.guard = some mo.guard ∧ (mo.op = .bad ∨ ∃ m, cOp P V modes o.op = some m ∧ (m.plain = true ∨ isCallOp o.op = true) ∧ ((mo.op = m ∧ quietB m = true) ∨ ∃ f l, m = .call f false l ∧ mo.op = .callq f l))
  step : ∀ (i : Nat) (mo : MOper), ml[i]? = some mo → StepAt cfg callE (key + 8 * i) mo (cs i) (rs i) (cs (i + 1))
  quiet : ∀ (i : Nat) (mo : MOper), ml[i]? = some mo → quietB mo.op = true
  back : ∀ (i : Nat) (o : Oper), ops[i]? = some o → ∀ e ∈ o.after, Region.binds .any e = true → e.on < i
  ahead : ∀ (i : Nat) (o : Oper) (j : Nat), ops[i]? = some o → j < ops.size → A i j → ∃ e ∈ o.after, Region.binds .any e = true ∧ (e.on = j ∨ A e.on j)
  lone : ∀ (i j t : Nat), i < ops.size → j < ops.size → dstAt ops i = some t → dstAt ops j = some t → i = j
  sees : ∀ (i j : Nat) (mo : MOper) (t : Nat), ml[i]? = some mo → j < ops.size → dstAt ops j = some t → t ∈ mo.reads → (j < i ∧ A i j) ∨ (i < j ∧ A j i)
  full : Full Gl G0 (cs 0).st
  fresh : ∀ k, key ≤ k → G0.B k = none
  cnt : key + 8 * ops.size ≤ (cs 0).st.cnt
section
variable {P : Program} {Gl : Gmap} {V : List Nat} {n : Nat} {modes : FuncId → Option Bool} {cfg : Cfg} {callE : CallE} {ops : Array Oper} {ml : List MOper} {A : Nat → Nat → Prop} {key : Nat} {G0 : Ghost} {cs : Nat → Loc} {rs : Nat → PV}
theorem DCtx.mo (D : DCtx P Gl V n modes cfg callE ops ml A key G0 cs rs) {i : Nat} (h : i < ops.size) : ∃ o mo, ops[i]? = some o ∧ ml[i]? = some mo :=
  ⟨ops[i], ml[i]'(by rw [D.len]; exact h), Array.getElem?_eq_getElem h, List.getElem?_eq_getElem _⟩
theorem DCtx.st1 (D : DCtx P Gl V n modes cfg callE ops ml A key G0 cs rs) {i : Nat} (h : i < ops.size) : (cs (i + 1)).st = (cs i).st ∨ ∃ o, (cs (i + 1)).st = (cs i).st.put (key + 8 * i) (some o) := by
  obtain ⟨o, mo, ho, hmo⟩ := D.mo h
  rcases D.step i mo hmo with ⟨_, st, hev, hc⟩ | ⟨_, _, hc⟩
  · rw [hc, wr_st]
    exact quiet_store (D.quiet i mo hmo) hev
  · rw [hc, wr_st]; exact .inl rfl
theorem DCtx.get1 (D : DCtx P Gl V n modes cfg callE ops ml A key G0 cs rs) {i : Nat} (h : i < ops.size) {k : Nat} (hk : k ≠ key + 8 * i) : (cs (i + 1)).st.get k = (cs i).st.get k := by
  rcases D.st1 h with e | ⟨o, e⟩
  · rw [e]
  · rw [e]; exact St.get_put_ne (fun h => hk h.symm)
theorem DCtx.cntEq (D : DCtx P Gl V n modes cfg callE ops ml A key G0 cs rs) : ∀ i, i ≤ ops.size → (cs i).st.cnt = (cs 0).st.cnt
  | 0, _ => rfl
  | i + 1, h => by
    rw [← D.cntEq i (by omega)]
    rcases D.st1 (i := i) (by omega) with e | ⟨o, e⟩ <;> rw [e]; rfl
theorem DCtx.getN (D : DCtx P Gl V n modes cfg callE ops ml A key G0 cs rs) : ∀ j i k, i ≤ j → j ≤ ops.size → (∀ m, i ≤ m → m < j → k ≠ key + 8 * m) → (cs j).st.get k = (cs i).st.get k
  | 0, i, k, hi, _, _ => by rw [show i = 0 by omega]
  | j + 1, i, k, hi, hj, h => by
    by_cases e : i = j + 1
    · rw [e]
    · rw [D.get1 (by omega) (h j (by omega) (by omega)), D.getN j i k (by omega) (by omega) (fun m a b => h m a (by omega))]
theorem DCtx.new0 (D : DCtx P Gl V n modes cfg callE ops ml A key G0 cs rs) (m : Nat) : (cs 0).st.get (key + 8 * m) = none := by
  cases hx : (cs 0).st.get (key + 8 * m) with
  | none => rfl
  | some x =>
    have := D.full.2 (key + 8 * m) (by rw [hx]; rfl)
    rw [D.fresh _ (by omega)] at this; simp at this
theorem DCtx.newN (D : DCtx P Gl V n modes cfg callE ops ml A key G0 cs rs) {j m : Nat} (hj : j ≤ ops.size) (hm : j ≤ m) : (cs j).st.get (key + 8 * m) = none := by
  rw [D.getN j 0 _ (by omega) hj (fun q _ hq => by omega), D.new0]
theorem DCtx.sub (D : DCtx P Gl V n modes cfg callE ops ml A key G0 cs rs) {j : Nat} (hj : j ≤ ops.size) {k : Nat} {x : PObj} (h : (cs j).st.get k = some x) : (cs ops.size).st.get k = some x := by
  rw [D.getN ops.size j k hj (Nat.le_refl _) ?_]
  · exact h
  · rintro m hm1 hm2 rfl
    rw [D.newN hj hm1] at h; simp at h
theorem DCtx.at_key (D : DCtx P Gl V n modes cfg callE ops ml A key G0 cs rs) {j : Nat} (hj : j < ops.size) : (cs ops.size).st.get (key + 8 * j) = (cs (j + 1)).st.get (key + 8 * j) :=
  D.getN ops.size (j + 1) _ (by omega) (Nat.le_refl _) (fun m _ _ => by omega)
theorem DCtx.slot (D : DCtx P Gl V n modes cfg callE ops ml A key G0 cs rs) (t : Nat) : ∀ j, j ≤ ops.size →
    (∃ i, i < j ∧ dstAt ops i = some t ∧ (lk V (cs j) t = rs i ∨ lk V (cs j) t = .und)) ∨ ((∀ i, i < j → dstAt ops i ≠ some t) ∧ lk V (cs j) t = lk V (cs 0) t)
  | 0, _ => .inr ⟨fun i hi => by omega, rfl⟩
  | j + 1, h => by
    obtain ⟨o, mo, ho, hmo⟩ := D.mo (i := j) (by omega)
    obtain ⟨hd, _, _⟩ := D.comp j o mo ho hmo
    have hda : dstAt ops j = o.dst := by simp [dstAt, ho]
    by_cases hdt : o.dst = some t
    · left
      refine ⟨j, by omega, by rw [hda, hdt], ?_⟩
      rw [hdt] at hd
      rcases D.step j mo hmo with ⟨_, st, hev, hc⟩ | ⟨_, hr, hc⟩
      · rw [hc]; exact lk_wr_same hd
      · rw [hc, hr]; exact lk_wr_same hd
    · have e : lk V (cs (j + 1)) t = lk V (cs j) t := by
        rcases D.step j mo hmo with ⟨_, st, hev, hc⟩ | ⟨_, hr, hc⟩
        · rw [hc, lk_wr_ne hd hdt]; rfl
        · rw [hc, lk_wr_ne hd hdt]
      rcases D.slot t j (by omega) with ⟨i, hi, hi2, hi3⟩ | ⟨h1, h2⟩
      · left; exact ⟨i, by omega, hi2, by rw [e]; exact hi3⟩
      · right
        refine ⟨fun i hi => ?_, by rw [e]; exact h2⟩
        by_cases hij : i = j
        · subst hij; rw [hda]; exact hdt
        · exact h1 i (by omega)
/-- how things stand once some have run -/
structure DInv (V : List Nat) (n : Nat) (ops : Array Oper) (key base : Nat) (G0 : Ghost) (a0 : Act) (w0 : World) (cs : Nat → Loc) (rs : Nat → PV) (L : Nat → Prop) (G : Ghost) (a : Act) (w : World) : Prop where
  size : n ≤ a.tmps.size
  defers : a.defers = a0.defers
  edges : ∀ (i : Nat) (o : Oper), L i → ops[i]? = some o → ∀ e ∈ o.after, Region.binds .any e = true → L e.on
  inr : ∀ i, L i → i < ops.size
  slotW : ∀ i t, L i → dstAt ops i = some t → VRel G (a.tmps.getD t undef) (rs i)
  slotO : ∀ t, (∀ i, L i → dstAt ops i ≠ some t) → VRel G (a.tmps.getD t undef) (lk V (cs 0) t)
  le : G0.le G
  new : ∀ k x, G.B k = some x → G0.B k = some x ∨ ∃ i, L i ∧ k = key + 8 * i
  sim : Sim G (cs ops.size).st w base
  os : w.os = w0.os
  tape : w.tape = w0.tape
  output : w.output = w0.output
  hsize : w0.heap.size ≤ w.heap.size
  kept : ∀ j, j < w0.heap.size → (∀ k x, ((cs 0).st.get k).isSome → G0.B k = some x → x.1 ≠ j) → w.heap[j]? = w0.heap[j]?
  own : ∀ k x, ((cs ops.size).st.get k).isSome → G.B k = some x → w0.heap.size ≤ x.1 ∨ ∃ k0 x0, ((cs 0).st.get k0).isSome ∧ G0.B k0 = some x0 ∧ x0.1 = x.1
  fnew : ∀ b o u, G.F b o = some u → G0.F b o = some u ∨ w0.heap.size ≤ b ∨ ∃ k0 x0, ((cs 0).st.get k0).isSome ∧ G0.B k0 = some x0 ∧ x0.1 = b
  ful : ∀ i, L i → ((cs ops.size).st.get (key + 8 * i)).isSome → (G.B (key + 8 * i)).isSome
variable {base : Nat} {a0 : Act} {w0 : World}
theorem DInv.closed (D : DCtx P Gl V n modes cfg callE ops ml A key G0 cs rs) {L : Nat → Prop} {G : Ghost} {a : Act} {w : World} (I : DInv V n ops key base G0 a0 w0 cs rs L G a w) : ∀ i j, L i → j < ops.size → A i j → L j := by
  intro i
  induction i using Nat.strongRecOn with
  | ind i ih =>
    intro j hi hj hA
    have hin := I.inr i hi
    obtain ⟨o, mo, ho, hmo⟩ := D.mo hin
    obtain ⟨e, he, hb, hc⟩ := D.ahead i o j ho hj hA
    have hL := I.edges i o hi ho e he hb
    rcases hc with h | h
    · rw [← h]; exact hL
    · exact ih e.on (D.back i o ho e he hb) j hL hj h
/-- what an operation reads, whenever it runs -/
theorem DInv.read (D : DCtx P Gl V n modes cfg callE ops ml A key G0 cs rs) {L : Nat → Prop} {G : Ghost} {a : Act} {w : World} (I : DInv V n ops key base G0 a0 w0 cs rs L G a w) {j : Nat} {o : Oper} {mo : MOper} (ho : ops[j]? = some o) (hmo : ml[j]? = some mo) (hj : ¬ L j) (hr : ∀ e ∈ o.after, Region.binds .any e = true → L e.on) {t : Nat} (ht : t ∈ mo.reads) : VRel G (a.tmps.getD t undef) (lk V (cs j) t) := by
  have hjn : j < ops.size := (Array.getElem?_eq_some_iff.1 ho).1
  rcases D.slot t j (by omega) with ⟨i, hi, hd, hv⟩ | ⟨h1, h2⟩
  · have hL : L i := by
      rcases D.sees j i mo t hmo (by omega) hd ht with ⟨_, hA⟩ | ⟨hc, _⟩
      · obtain ⟨e, he, hb, hc⟩ := D.ahead j o i ho (by omega) hA
        rcases hc with h | h
        · rw [← h]; exact hr e he hb
        · exact I.closed D e.on i (hr e he hb) (by omega) h
      · omega
    rcases hv with hv | hv
    · rw [hv]; exact I.slotW i t hL hd
    · rw [hv]; exact .und _
  · rw [h2]
    refine I.slotO t ?_
    intro i hi hd
    have hin := I.inr i hi
    rcases D.sees j i mo t hmo hin hd ht with ⟨hc, _⟩ | ⟨_, hA⟩
    · exact h1 i hc hd
    · exact hj (I.closed D i j hi hjn hA)
theorem getD_put {a : Act} {n : Nat} (hn : n ≤ a.tmps.size) {t : Nat} (ht : t < n) {v : Value} (t' : Nat) : (a.put (some t) v).tmps.getD t' undef = if t = t' then v else a.tmps.getD t' undef := by
  simp only [Act.put, Array.getD_eq_getD_getElem?, Array.getElem?_setIfInBounds]
  by_cases e : t = t'
  · subst e; simp [show t < a.tmps.size by omega]
  · simp [e]
theorem cDst_lt {V : List Nat} {n t : Nat} {md : MDst} (h : cDst V n (some t) = some md) : t < n := by
  simp only [cDst] at h
  split at h
  · assumption
  · simp at h
/-- behind an operation -/
theorem DInv.after (D : DCtx P Gl V n modes cfg callE ops ml A key G0 cs rs) {L : Nat → Prop} {G : Ghost} {a : Act} {w : World} (I : DInv V n ops key base G0 a0 w0 cs rs L G a w) {j : Nat} {o : Oper} {mo : MOper} (ho : ops[j]? = some o) (hmo : ml[j]? = some mo) (hj : ¬ L j) (hr : ∀ e ∈ o.after, Region.binds .any e = true → L e.on)
    {v : Value} {G' : Ghost} {w' : World} (hv : VRel G' v (rs j)) (hst : Step base (fun k => k = key + 8 * j) G (cs j).st w G' (cs (j + 1)).st w') : DInv V n ops key base G0 a0 w0 cs rs (fun i => i = j ∨ L i) G' (a.put o.dst v) w' := by
  have hjn : j < ops.size := (Array.getElem?_eq_some_iff.1 ho).1
  have hda : dstAt ops j = o.dst := by simp [dstAt, ho]
  obtain ⟨hd, _, _⟩ := D.comp j o mo ho hmo
  have hGk : G.B (key + 8 * j) = none := by
    cases hx : G.B (key + 8 * j) with
    | none => rfl
    | some x =>
      rcases I.new _ x hx with h | ⟨i, hi, he⟩
      · rw [D.fresh _ (by omega)] at h; simp at h
      · exact absurd (by rw [show j = i by omega]; exact hi) hj
  have keep : ∀ t, o.dst ≠ some t → (a.put o.dst v).tmps.getD t undef = a.tmps.getD t undef := by
    intro t ht
    cases hod : o.dst with
    | none => rfl
    | some u =>
      rw [hod] at hd
      rw [getD_put I.size (cDst_lt hd), if_neg (fun e => ht (by rw [hod, e]))]
  have ownOK : ∀ k0 x0, ((cs j).st.get k0).isSome → G.B k0 = some x0 → w0.heap.size ≤ x0.1 ∨ ∃ k1 x1, ((cs 0).st.get k1).isSome ∧ G0.B k1 = some x1 ∧ x1.1 = x0.1 := by
    intro k0 x0 h0 hB
    refine I.own k0 x0 ?_ hB
    obtain ⟨y, hy⟩ := Option.isSome_iff_exists.1 h0
    rw [D.sub (by omega) hy]; rfl
  refine ⟨by rw [Act.put_size]; exact I.size, by rw [Act.put_defers']; exact I.defers, ?_, ?_, ?_, ?_, I.le.trans hst.le, ?_, ?_, hst.os.trans I.os, hst.tape.trans I.tape, hst.output.trans I.output, Nat.le_trans I.hsize hst.size, ?_, ?_, ?_, ?_⟩
  · rintro i o' (rfl | hi) ho' e he hb
    · rw [ho] at ho'; cases ho'; exact .inr (hr e he hb)
    · exact .inr (I.edges i o' hi ho' e he hb)
  · rintro i (rfl | hi)
    · exact hjn
    · exact I.inr i hi
  · rintro i t (rfl | hi) hdt
    · rw [hda] at hdt
      rw [hdt] at hd ⊢
      rw [getD_put I.size (cDst_lt hd), if_pos rfl]; exact hv
    · have hne : o.dst ≠ some t := by
        intro e
        have := D.lone i j t (I.inr i hi) hjn hdt (by rw [hda]; exact e)
        subst this; exact hj hi
      rw [keep t hne]; exact (I.slotW i t hi hdt).mono hst.le
  · intro t ht
    rw [keep t (by rw [← hda]; exact ht j (.inl rfl))]
    exact (I.slotO t (fun i hi => ht i (.inr hi))).mono hst.le
  · intro k x hx
    rcases hst.new k x hx with h | h
    · rcases I.new k x h with h2 | ⟨i, hi, he⟩
      · exact .inl h2
      · exact .inr ⟨i, .inr hi, he⟩
    · exact .inr ⟨j, .inl rfl, h⟩
  · exact Sim.merge I.sim (fun k x hx => D.sub (by omega) hx) hst hGk (D.at_key hjn) (fun k hk => D.get1 hjn hk)
  · intro q hq hk
    rw [hst.kept q (Nat.lt_of_lt_of_le hq I.hsize) ?_]
    · exact I.kept q hq hk
    · intro k x hx hB e
      rcases ownOK k x hx hB with h | ⟨k1, x1, c, d, e'⟩
      · omega
      · exact hk k1 x1 c d (by omega)
  · intro k x hx hB
    by_cases hkk : k = key + 8 * j
    · subst hkk
      rw [D.at_key hjn] at hx
      rcases hst.own _ x hx hB with h | ⟨k0, x0, c, d, e⟩
      · exact .inl (Nat.le_trans I.hsize h)
      · rcases ownOK k0 x0 c d with h | ⟨k1, x1, c1, d1, e1⟩
        · exact .inl (by omega)
        · exact .inr ⟨k1, x1, c1, d1, by omega⟩
    · rcases hst.new k x hB with h | h
      · exact I.own k x hx h
      · exact absurd h hkk
  · intro b q u hu
    rcases hst.fnew b q u hu with h | h | ⟨k0, x0, c, d, e⟩
    · exact I.fnew b q u h
    · exact .inr (.inl (Nat.le_trans I.hsize h))
    · rcases ownOK k0 x0 c d with h | ⟨k1, x1, c1, d1, e1⟩
      · exact .inr (.inl (by omega))
      · exact .inr (.inr ⟨k1, x1, c1, d1, by omega⟩)
  · rintro i (rfl | hi) hs
    · rw [D.at_key hjn] at hs
      rcases hst.ful _ hs with h | h
      · rw [D.newN (by omega) (Nat.le_refl _)] at h; simp at h
      · exact h
    · obtain ⟨x, hx⟩ := Option.isSome_iff_exists.1 (I.ful i hi hs)
      rw [hst.le.B _ x hx]; rfl
/-- one more -/
theorem DInv.one (hcfg : CfgOK P Gl cfg) (hE : CallOK P Gl callE) (D : DCtx P Gl V n modes cfg callE ops ml A key G0 cs rs) {L : Nat → Prop} {G : Ghost} {a : Act} {w : World} (I : DInv V n ops key base G0 a0 w0 cs rs L G a w) {j : Nat} {o : Oper} (ho : ops[j]? = some o) (hj : ¬ L j) (hr : ∀ e ∈ o.after, Region.binds .any e = true → L e.on)
    {Q : Exit → Act → World → Prop} {K : Act → World → Prop} (hK : ∀ a' w' G', DInv V n ops key base G0 a0 w0 cs rs (fun i => i = j ∨ L i) G' a' w' → K a' w') : wpOp P ops Q j K a w := by
  have hjn : j < ops.size := (Array.getElem?_eq_some_iff.1 ho).1
  obtain ⟨o', mo, ho', hmo⟩ := D.mo hjn
  rw [ho] at ho'; cases ho'
  obtain ⟨hd, hg, hop⟩ := D.comp j o mo ho hmo
  have hread : ∀ x y, cArg V x = some y → (∀ t, y.slot = some t → t ∈ mo.reads) → VRel G (a.eval x) ((cs j).rd y) := by
    intro x y hy hs
    cases x with
    | tmp t =>
      simp only [cArg, Option.some.injEq] at hy
      subst hy
      rw [lk_rd]
      exact I.read D ho hmo hj hr (hs t (by split <;> rfl))
    | const v =>
      simp only [cArg, Option.map_eq_some_iff] at hy
      obtain ⟨p, hp, rfl⟩ := hy
      exact constP_rel hp
    | global g => simp [cArg] at hy
    | func f =>
      simp only [cArg, Option.some.injEq] at hy
      subst hy
      exact .fn f #[] [] rfl (fun i v p h => by simp at h)
  have hwant : ∀ b, guardP (cs j) mo.guard = some b → Region.wanted o (yielded ops a.tmps) = b := by
    intro b hb
    refine guard_ok' (G := G) hg ?_ I.size hb
    intro y b' hgy x hx
    refine hread x y hx ?_
    intro t ht
    unfold MOper.reads
    rw [hgy]
    exact List.mem_filterMap.2 ⟨y, by simp, ht⟩
  unfold wpOp
  simp only [ho]
  rcases D.step j mo hmo with ⟨hgd, st, hev, hc⟩ | ⟨hgd, hrj, hc⟩
  · rw [hwant true hgd, if_pos rfl]
    rcases hop with hbad | ⟨m, hcop, hpc, hq⟩
    · rw [hbad] at hev; simp [evOp] at hev
    · left
      have hst : (cs (j + 1)).st = st := by rw [hc, wr_st]
      have hkeyN : G.B (key + 8 * j) = none := by
        cases hx : G.B (key + 8 * j) with
        | none => rfl
        | some x =>
          rcases I.new _ x hx with h | ⟨i, hi, he⟩
          · rw [D.fresh _ (by omega)] at h; simp at h
          · exact absurd (by rw [show j = i by omega]; exact hi) hj
      have hcnt : ∀ k, (cs j).st.cnt ≤ k → G.B k = none := by
        intro k hk
        have h1 := D.cntEq j (by omega)
        have h2 := D.cnt
        cases hx : G.B k with
        | none => rfl
        | some x =>
          rcases I.new _ x hx with h | ⟨i, hi, he⟩
          · rw [D.fresh _ (by omega)] at h; simp at h
          · have := I.inr i hi; omega
      -- what it does not read does not count
      let ρ : Arg → PV := fun y => match y.slot with
        | none => (cs j).rd y
        | some t => if t ∈ mo.reads then (cs j).rd y else .und
      have hρ : ∀ x y, cArg V x = some y → VRel G (a.eval x) (ρ y) := by
        intro x y hy
        show VRel G (a.eval x) (match y.slot with | none => (cs j).rd y | some t => if t ∈ mo.reads then (cs j).rd y else .und)
        split
        · rename_i hn
          exact hread x y hy (fun t ht => by rw [hn] at ht; simp at ht)
        · rename_i t ht
          split
          · rename_i hm
            exact hread x y hy (fun t' ht' => by rw [ht] at ht'; cases ht'; exact hm)
          · exact .und _
      have hev' : evOp cfg callE ρ (cs j).st (key + 8 * j) mo.op = some (rs j, st) := by
        rw [← hev]
        refine evOp_congr _ ?_
        intro y hy
        show (match y.slot with | none => (cs j).rd y | some t => if t ∈ mo.reads then (cs j).rd y else .und) = _
        split
        · rfl
        · rename_i t ht
          rw [if_pos]
          unfold MOper.reads
          exact List.mem_filterMap.2 ⟨y, List.mem_append_left _ hy, ht⟩
      have hs : Sim G (cs j).st w base := I.sim.less (fun k x hx => D.sub (by omega) hx)
      refine evOp_q hcfg hE hcop hpc hq hs (fun b o u hu => I.le.F b o u (D.full.1 b o u hu)) hρ hkeyN hcnt hev' _ _ ?_
      intro v w' G' hv hstep
      refine hK _ _ G' (I.after D ho hmo hj hr hv ?_)
      rw [hst]; exact hstep
  · rw [hwant false hgd, if_neg (by simp)]
    have hst : (cs (j + 1)).st = (cs j).st := by rw [hc, wr_st]
    refine hK _ _ G (I.after D ho hmo hj hr (v := undef) (by rw [hrj]; exact undef_rel G) ?_)
    rw [hst]
    exact Step.refl (I.sim.less (fun k x hx => D.sub (by omega) hx))
end
end Go.Pe
