/-
  Regions in an open order: every order. No condition; nothing of the program.
-/
import Derived.Test.YtaepgkghgcchnaaPeCg
set_option linter.unusedVariables false
set_option linter.unusedSimpArgs false
namespace Go.Pe
open Go Go.Am Go.RowKit

/-- which are listed -/
def LS (l : Array Bool) (i : Nat) : Prop := l.getD i false = true
theorem ls_set {l : Array Bool} {j : Nat} (hj : j < l.size) (i : Nat) : LS (l.setIfInBounds j true) i ↔ i = j ∨ LS l i := by
  unfold LS
  by_cases e : j = i
  · subst e; simp [hj]
  · simp only [Array.getD_eq_getD_getElem?, Array.getElem?_setIfInBounds, if_neg e]
    constructor
    · exact fun h => .inr h
    · rintro (h | h)
      · exact absurd h.symm e
      · exact h
theorem count_put {l : Array Bool} {j : Nat} (hj : l[j]? = some false) : (l.setIfInBounds j true).count false + 1 = l.count false := by
  obtain ⟨hlt, hv⟩ := Array.getElem?_eq_some_iff.1 hj
  rw [Array.setIfInBounds, dif_pos hlt, Array.count_set]
  have h1 : 0 < l.count false := Array.count_pos_iff.2 (by rw [← hv]; exact Array.getElem_mem hlt)
  simp only [hv]
  simp
  omega
theorem DInv.congr {V : List Nat} {n : Nat} {ops : Array Oper} {key base : Nat} {G0 : Ghost} {a0 : Act} {w0 : World} {cs : Nat → Loc} {rs : Nat → PV} {L L' : Nat → Prop} {G : Ghost} {a : Act} {w : World} (h : DInv V n ops key base G0 a0 w0 cs rs L G a w) (e : ∀ i, L' i ↔ L i) : DInv V n ops key base G0 a0 w0 cs rs L' G a w := by
  have : L' = L := funext fun i => propext (e i)
  rw [this]; exact h
theorem all_listed {P : Program} {Gl : Gmap} {V : List Nat} {n : Nat} {modes : FuncId → Option Bool} {cfg : Cfg} {callE : CallE} {ops : Array Oper} {ml : List MOper} {A : Nat → Nat → Prop} {key : Nat} {G0 : Ghost} {cs : Nat → Loc} {rs : Nat → PV} (D : DCtx P Gl V n modes cfg callE ops ml A key G0 cs rs) {l : Array Bool} (hl : l.size = ops.size) (hr : Region.ready .any ops l = []) : ∀ i, i < ops.size → LS l i := by
  intro i
  induction i using Nat.strongRecOn with
  | ind i ih =>
    intro hi
    by_cases h : LS l i
    · exact h
    · exfalso
      have : i ∈ Region.ready .any ops l := by
        rw [mem_ready]
        refine ⟨?_, ops[i], Array.getElem?_eq_getElem hi, ?_⟩
        · unfold LS at h
          have h2 : i < l.size := by omega
          simp only [Array.getD_eq_getD_getElem?, Array.getElem?_eq_getElem h2, Option.getD_some] at h ⊢
          simpa using h
        · intro e he hb
          have hlt := D.back i _ (Array.getElem?_eq_getElem hi) e he hb
          exact ih e.on hlt (by omega)
      rw [hr] at this; simp at this
theorem any_sound {P : Program} {Gl : Gmap} {V : List Nat} {n : Nat} {modes : FuncId → Option Bool} {cfg : Cfg} (hcfg : CfgOK P Gl cfg) {callE : CallE} (hE : CallOK P Gl callE) {ops : Array Oper} {ml : List MOper} {A : Nat → Nat → Prop} {key : Nat} {G0 : Ghost} {cs : Nat → Loc} {rs : Nat → PV} (D : DCtx P Gl V n modes cfg callE ops ml A key G0 cs rs)
    {base : Nat} {a0 : Act} {w0 : World} {Q : Exit → Act → World → Prop} (hQ : ∀ a w G, DInv V n ops key base G0 a0 w0 cs rs (fun i => i < ops.size) G a w → Q .normal a w) :
    ∀ (fuel : Nat) (l : Array Bool) (G : Ghost) (a : Act) (w : World), l.size = ops.size → l.count false = fuel → DInv V n ops key base G0 a0 w0 cs rs (LS l) G a w → wpAny P .any ops Q fuel l a w := by
  have fin : ∀ (l : Array Bool) (G : Ghost) (a : Act) (w : World), l.size = ops.size → DInv V n ops key base G0 a0 w0 cs rs (LS l) G a w → Region.ready .any ops l = [] → Q .normal a w := by
    intro l G a w hl I hr
    refine hQ a w G (I.congr fun i => ⟨fun h => all_listed D hl hr i h, fun h => I.inr i h⟩)
  intro fuel
  induction fuel with
  | zero =>
    intro l G a w hl hc I
    have hr : Region.ready .any ops l = [] := by
      cases hx : Region.ready .any ops l with
      | nil => rfl
      | cons i r =>
        exfalso
        have hi : i ∈ Region.ready .any ops l := by rw [hx]; simp
        rw [mem_ready] at hi
        obtain ⟨h0, o, ho, _⟩ := hi
        have hlt : i < l.size := by rw [hl]; exact (Array.getElem?_eq_some_iff.1 ho).1
        simp only [Array.getD_eq_getD_getElem?, Array.getElem?_eq_getElem hlt, Option.getD_some] at h0
        have : 0 < l.count false := Array.count_pos_iff.2 (by rw [← h0]; exact Array.getElem_mem hlt)
        omega
    exact ⟨hr, fin l G a w hl I hr⟩
  | succ fuel ih =>
    intro l G a w hl hc I
    refine ⟨fin l G a w hl I, ?_⟩
    intro i hi
    rw [mem_ready] at hi
    obtain ⟨h0, o, ho, he⟩ := hi
    have hlt : i < l.size := by rw [hl]; exact (Array.getElem?_eq_some_iff.1 ho).1
    have h0' : l[i]? = some false := by
      simp only [Array.getD_eq_getD_getElem?, Array.getElem?_eq_getElem hlt, Option.getD_some] at h0
      rw [Array.getElem?_eq_getElem hlt, h0]
    refine I.one hcfg hE D ho ?_ (fun e h hb => he e h hb) ?_
    · unfold LS
      simp [h0']
    · intro a' w' G' I'
      refine ih _ G' a' w' (by simp [hl]) ?_ (I'.congr fun k => ls_set hlt k)
      have := count_put h0'
      omega
theorem draw_sound {P : Program} {Gl : Gmap} {V : List Nat} {n : Nat} {modes : FuncId → Option Bool} {cfg : Cfg} (hcfg : CfgOK P Gl cfg) {callE : CallE} (hE : CallOK P Gl callE) {ops : Array Oper} {ml : List MOper} (hml : mapO (cOper P V n modes ops) ops.toList = some ml) {masks : List Nat} (hdo : drawOK ops.toList (ml.map toQuiet) masks = true)
    {base key : Nat} {G : Ghost} {a : Act} {w : World} {c c' : Loc} (hL : LocRel V G a c) (hn : n ≤ a.tmps.size) (hs : Sim G c.st w base) (hfu : Full Gl G c.st) (hk : ∀ k, key ≤ k → G.B k = none) (hcnt : key + 8 * ops.size ≤ c.st.cnt) (he : evOps cfg callE (ml.map toQuiet) key c = some c')
    {Q : Exit → Act → World → Prop} (hQ : ∀ a' w' G', LocRel V G' a' c' → n ≤ a'.tmps.size → a'.defers = a.defers → c.st.cnt = c'.st.cnt → Step base (fun k => key ≤ k ∧ k < key + 8 * ops.size) G c.st w G' c'.st w' → Q .normal a' w') :
    wpAny P .any ops Q ops.size (Array.replicate ops.size false) a w := by
  unfold drawOK at hdo
  simp only [Bool.and_eq_true] at hdo
  obtain ⟨hdo1, hdo2⟩ := hdo
  unfold drawOK0 at hdo2
  obtain ⟨cs, rs, h0, hN, hst⟩ := evOps_seq _ _ _ _ he
  have hlen0 := (mapO_some hml).1
  have hlen : (ml.map toQuiet).length = ops.size := by simpa using hlen0
  have hD : ∀ i, i < ops.size → ∀ o mo, ops[i]? = some o → (ml.map toQuiet)[i]? = some mo → quietB mo.op = true ∧ (∀ e ∈ o.after, Region.binds .any e = true → e.on < i) ∧
      (∀ j, j < ops.size → aheadB masks i j = true → ∃ e ∈ o.after, Region.binds .any e = true ∧ (e.on = j ∨ aheadB masks e.on j = true)) ∧
      (∀ j, j < ops.size → ∀ mj, (ml.map toQuiet)[j]? = some mj → ∀ t, mj.dst.slot = some t → (i = j ∨ mo.dst.slot ≠ some t) ∧ (t ∈ mo.reads → (j < i ∧ aheadB masks i j = true) ∨ (i < j ∧ aheadB masks j i = true))) := by
    intro i hi o mo ho hmo
    have h := List.all_eq_true.1 hdo2 i (by simpa using hi)
    have ho' : ops.toList[i]? = some o := by simpa using ho
    rw [ho', hmo] at h
    simp only [Bool.and_eq_true] at h
    obtain ⟨⟨h2, h3⟩, h4⟩ := h
    refine ⟨List.all_eq_true.1 hdo1 mo (List.mem_of_getElem? hmo), ?_, ?_, ?_⟩
    · intro e he hb
      have := List.all_eq_true.1 h2 e (by simpa using he)
      simpa [hb] using this
    · intro j hj hA
      have := List.all_eq_true.1 h3 j (by simpa using hj)
      simp only [hA, Bool.not_true, Bool.false_or, List.any_eq_true, Bool.and_eq_true, Bool.or_eq_true, beq_iff_eq] at this
      obtain ⟨e, he, hb, hc⟩ := this
      exact ⟨e, by simpa using he, hb, hc⟩
    · intro j hj mj hmj t ht
      have := List.all_eq_true.1 h4 j (by simpa using hj)
      rw [hmj] at this
      simp only [ht, Bool.and_eq_true, Bool.or_eq_true, decide_eq_true_eq, Bool.not_eq_true', bne_iff_ne] at this
      obtain ⟨h5, h6⟩ := this
      refine ⟨h5, fun hr => ?_⟩
      rcases h6 with (h6 | h6) | h6
      · have : mo.reads.contains t = true := by simpa using hr
        rw [this] at h6; simp at h6
      · exact .inl h6
      · exact .inr h6
  have hcomp : ∀ (i : Nat) (o : Oper) (mo : MOper), ops[i]? = some o → (ml.map toQuiet)[i]? = some mo → cDst V n o.dst = some mo.dst ∧ cGuard V n ops o.guard = some mo.guard ∧ (mo.op = .bad ∨ ∃ m, cOp P V modes o.op = some m ∧ (m.plain = true ∨ isCallOp o.op = true) ∧ ((mo.op = m ∧ quietB m = true) ∨ ∃ f l, m = .call f false l ∧ mo.op = .callq f l)) := by
    intro i o mo ho hmo
    rw [List.getElem?_map, Option.map_eq_some_iff] at hmo
    obtain ⟨m0, hm0, rfl⟩ := hmo
    obtain ⟨hd, hg, hop⟩ := cOper_some ((mapO_some hml).2 i o m0 (by simpa using ho) hm0)
    obtain ⟨d0, op0, g0⟩ := m0
    unfold toQuiet
    split
    · rename_i f args heq
      simp only [] at heq
      refine ⟨hd, hg, ?_⟩
      rcases hop with h | ⟨h1, h2⟩
      · simp only [] at h; rw [h] at heq; simp at heq
      · right
        refine ⟨_, h1, h2, .inr ⟨f, args, heq, rfl⟩⟩
    · split
      · rename_i hq
        refine ⟨hd, hg, ?_⟩
        rcases hop with h | ⟨h1, h2⟩
        · exact .inl h
        · exact .inr ⟨_, h1, h2, .inl ⟨rfl, hq⟩⟩
      · exact ⟨hd, hg, .inl rfl⟩
  have hdst : ∀ i, i < ops.size → ∃ o mo, ops[i]? = some o ∧ (ml.map toQuiet)[i]? = some mo ∧ mo.dst.slot = dstAt ops i := by
    intro i hi
    refine ⟨ops[i], (ml.map toQuiet)[i]'(by rw [hlen]; exact hi), Array.getElem?_eq_getElem hi, List.getElem?_eq_getElem _, ?_⟩
    obtain ⟨hd, _, _⟩ := hcomp i _ _ (Array.getElem?_eq_getElem hi) (List.getElem?_eq_getElem (by rw [hlen]; exact hi))
    rw [dst_slot hd]; simp [dstAt, hi]
  have D : DCtx P Gl V n modes cfg callE ops (ml.map toQuiet) (fun i j => aheadB masks i j = true) key G cs rs := by
    have lt : ∀ (i : Nat) (o : Oper), ops[i]? = some o → i < ops.size := fun i o h => (Array.getElem?_eq_some_iff.1 h).1
    have lt2 : ∀ (i : Nat) (mo : MOper), (ml.map toQuiet)[i]? = some mo → i < ops.size := fun i o h => by rw [← hlen]; exact (List.getElem?_eq_some_iff.1 h).1
    refine ⟨hlen, hcomp, hst, ?_, ?_, ?_, ?_, ?_, by rw [h0]; exact hfu, hk, by rw [h0]; exact hcnt⟩
    · intro i mo hmo
      have hi := lt2 i mo hmo
      exact (hD i hi _ mo (Array.getElem?_eq_getElem hi) hmo).1
    · intro i o ho e he hb
      have hi := lt i o ho
      obtain ⟨_, mo, _, hmo, _⟩ := hdst i hi
      exact (hD i hi o mo ho hmo).2.1 e he hb
    · intro i o j ho hj hA
      have hi := lt i o ho
      obtain ⟨_, mo, _, hmo, _⟩ := hdst i hi
      exact (hD i hi o mo ho hmo).2.2.1 j hj hA
    · intro i j t hi hj hti htj
      obtain ⟨oi, mi, hoi, hmi, hsi⟩ := hdst i hi
      obtain ⟨oj, mj, hoj, hmj, hsj⟩ := hdst j hj
      rcases ((hD i hi oi mi hoi hmi).2.2.2 j hj mj hmj t (by rw [hsj, htj])).1 with h | h
      · exact h
      · exact absurd (by rw [hsi, hti]) h
    · intro i j mo t hmo hj htj hr
      have hi := lt2 i mo hmo
      obtain ⟨oj, mj, hoj, hmj, hsj⟩ := hdst j hj
      exact ((hD i hi _ mo (Array.getElem?_eq_getElem hi) hmo).2.2.2 j hj mj hmj t (by rw [hsj, htj])).2 hr
  have hls : ∀ i, ¬ LS (Array.replicate ops.size false) i := by
    intro i h
    unfold LS at h
    simp [Array.getD_eq_getD_getElem?, Array.getElem?_replicate] at h
    split at h <;> simp at h
  rw [hlen] at hN
  subst h0
  have hsN : Sim G (cs ops.size).st w base := by
    -- what is new has no block yet
    have get : ∀ k x y, (cs ops.size).st.get k = some x → G.B k = some y → (cs 0).st.get k = some x := by
      intro k x y hx hy
      rw [← hx]
      refine (D.getN ops.size 0 k (by omega) (Nat.le_refl _) ?_).symm
      rintro m _ _ rfl
      rw [hk _ (by omega)] at hy; simp at hy
    have get' : ∀ k y, ((cs ops.size).st.get k).isSome → G.B k = some y → ((cs 0).st.get k).isSome := by
      intro k y hx hy
      obtain ⟨x, hx⟩ := Option.isSome_iff_exists.1 hx
      rw [get k x y hx hy]; rfl
    exact ⟨hs.bas, hs.frz, fun k l z b s hg hB => hs.cells k l z b s (get k _ _ hg hB) hB, fun k l b s hg hB => hs.frzd k l b s (get k _ _ hg hB) hB, fun k l b s hg hB => hs.free k l b s (get k _ _ hg hB) hB,
      fun k k' x x' h1 h2 hB hB' e => hs.inj k k' x x' (get' k x h1 hB) (get' k' x' h2 hB') hB hB' e, fun k x h1 hB => hs.low k x (get' k x h1 hB) hB, fun k es b s hg hB => hs.mps k es b s (get k _ _ hg hB) hB⟩
  refine any_sound hcfg hE D (base := base) (a0 := a) (w0 := w) ?_ _ _ G a w (by simp) (by simp) ?_
  · intro a' w' G' I
    refine hQ a' w' G' ?_ I.size I.defers (by rw [← hN]; exact (D.cntEq ops.size (Nat.le_refl _)).symm) ?_
    · have hlk : ∀ t, VRel G' (a'.tmps.getD t undef) (lk V c' t) := by
        intro t
        rw [← hN]
        rcases D.slot t ops.size (Nat.le_refl _) with ⟨i, hi, hd, hv⟩ | ⟨h1, h2⟩
        · rcases hv with hv | hv
          · rw [hv]; exact I.slotW i t hi hd
          · rw [hv]; exact .und _
        · rw [h2]; exact I.slotO t (fun i hi => h1 i hi)
      refine ⟨fun t ht => ?_, fun t ht => ?_⟩
      · have := hlk t
        unfold lk at this
        rwa [if_pos ht] at this
      · have := hlk t
        unfold lk at this
        rwa [ht, if_neg (by simp)] at this
    · rw [← hN]
      refine ⟨I.le, fun k x hx => ?_, I.sim, I.os, I.tape, I.output, I.hsize, I.kept, I.own, I.fnew, ?_⟩
      · rcases I.new k x hx with h | ⟨i, hi, rfl⟩
        · exact .inl h
        · right; omega
      · intro k hk'
        by_cases hx : ∃ i, i < ops.size ∧ k = key + 8 * i
        · obtain ⟨i, hi, rfl⟩ := hx
          exact .inr (I.ful i hi hk')
        · left
          rw [← D.getN ops.size 0 k (by omega) (Nat.le_refl _) (fun m _ hm e => hx ⟨m, hm, e⟩)]
          exact hk'
  · refine ⟨hn, rfl, fun i o h => absurd h (hls i), fun i h => absurd h (hls i), fun i t h => absurd h (hls i), fun t _ => ?_, .refl G, fun k x h => .inl h, hsN, rfl, rfl, rfl, Nat.le_refl _, fun _ _ _ => rfl, ?_, fun _ _ _ h => .inl h, fun i h => absurd h (hls i)⟩
    · unfold lk
      cases hV : V.contains t with
      | true => exact hL.1 t hV
      | false => exact hL.2 t hV
    · intro k x h1 hB
      right
      refine ⟨k, x, ?_, hB, rfl⟩
      rw [← D.getN ops.size 0 k (by omega) (Nat.le_refl _) ?_]
      · exact h1
      · rintro m _ _ rfl
        rw [hk _ (by omega)] at hB; simp at hB
end Go.Pe
