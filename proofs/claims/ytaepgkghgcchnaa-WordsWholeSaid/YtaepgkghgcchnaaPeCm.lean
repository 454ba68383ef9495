/-
  Regions in an open order where some write: the whole. No condition; nothing of the program.
-/
import Derived.Test.YtaepgkghgcchnaaPeCn
set_option linter.unusedVariables false
set_option linter.unusedSimpArgs false
namespace Go.Pe
open Go Go.Am Go.RowKit

theorem chain_sound {P : Program} {Gl : Gmap} {V : List Nat} {n : Nat} {modes : FuncId → Option Bool} {cfg : Cfg} (hcfg : CfgOK P Gl cfg) {callE : CallE} (hE : CallOK P Gl callE) {ops : Array Oper} {ml : List MOper} (hml : mapO (cOper P V n modes ops) ops.toList = some ml) {masks : List Nat} {sw : Option (Nat × Nat)} (hdo : chainOK ops.toList ml masks sw = true)
    {base key : Nat} {G : Ghost} {a : Act} {w : World} {c c' : Loc} (hL : LocRel V G a c) (hn : n ≤ a.tmps.size) (hs : Sim G c.st w base) (hfu : Full Gl G c.st) (hk : ∀ k, key ≤ k → G.B k = none) (hcnt : key + 8 * ops.size ≤ c.st.cnt) {tr : List (Loc × PV)} (he : evTr cfg callE ml key c = some (tr, c')) (hdyn : chainDyn cfg callE ml masks tr c' key = true) (hdyn2 : swapDyn cfg callE ml masks tr c' key sw = true)
    {Q : Exit → Act → World → Prop} (hQ : ∀ a' w' G', LocRel V G' a' c' → n ≤ a'.tmps.size → a'.defers = a.defers → c.st.cnt ≤ c'.st.cnt → Step base (fun k => key ≤ k ∧ k < c'.st.cnt) G c.st w G' c'.st w' → Q .normal a' w') :
    wpAny P .any ops Q ops.size (Array.replicate ops.size false) a w := by
  unfold chainOK at hdo
  simp only [Bool.and_eq_true] at hdo
  obtain ⟨⟨hdo2, hsok⟩, htot⟩ := hdo
  unfold drawOK0 at hdo2
  obtain ⟨cs, rs, h0, hN, htrl, htr, hst⟩ := evTr_seq _ _ _ _ _ he
  have hlen0 := (mapO_some hml).1
  have hlen : ml.length = ops.size := by simpa using hlen0
  have hD : ∀ i, i < ops.size → ∀ o mo, ops[i]? = some o → ml[i]? = some mo → (∀ e ∈ o.after, Region.binds .any e = true → e.on < i) ∧
      (∀ j, j < ops.size → aheadB masks i j = true → ∃ e ∈ o.after, Region.binds .any e = true ∧ (e.on = j ∨ aheadB masks e.on j = true)) ∧
      (∀ j, j < ops.size → ∀ mj, ml[j]? = some mj → ∀ t, mj.dst.slot = some t → (i = j ∨ mo.dst.slot ≠ some t) ∧ (t ∈ mo.reads → (j < i ∧ aheadB masks i j = true) ∨ (i < j ∧ aheadB masks j i = true))) := by
    intro i hi o mo ho hmo
    have h := List.all_eq_true.1 hdo2 i (by simpa using hi)
    have ho' : ops.toList[i]? = some o := by simpa using ho
    rw [ho', hmo] at h
    simp only [Bool.and_eq_true] at h
    obtain ⟨⟨h2, h3⟩, h4⟩ := h
    refine ⟨?_, ?_, ?_⟩
    · intro e he hb
      have := List.all_eq_true.1 h2 e (by simpa using he)
      simpa [hb] using this
    · intro j hj hA
      have := List.all_eq_true.1 h3 j (by simpa using hj)
      simp only [hA, Bool.not_true, Bool.false_or, List.any_eq_true, Bool.and_eq_true, Bool.or_eq_true, beq_iff_eq] at this
      obtain ⟨e, he, hb, hc⟩ := this
      exact ⟨e, by simpa using he, hb, hc⟩
    · intro j hj mj hmj t ht
      have := List.all_eq_true.1 h4 j (by simpa using hj)
      rw [hmj] at this
      simp only [ht, Bool.and_eq_true, Bool.or_eq_true, decide_eq_true_eq, Bool.not_eq_true', bne_iff_ne] at this
      obtain ⟨h5, h6⟩ := this
      refine ⟨h5, fun hr => ?_⟩
      rcases h6 with (h6 | h6) | h6
      · have : mo.reads.contains t = true := by simpa using hr
        rw [this] at h6; simp at h6
      · exact .inl h6
      · exact .inr h6
  have hcomp : ∀ (i : Nat) (o : Oper) (mo : MOper), ops[i]? = some o → ml[i]? = some mo → cDst V n o.dst = some mo.dst ∧ cGuard V n ops o.guard = some mo.guard ∧ (mo.op = .bad ∨ (cOp P V modes o.op = some mo.op ∧ (mo.op.plain = true ∨ isCallOp o.op = true))) := by
    intro i o mo ho hmo
    exact cOper_some ((mapO_some hml).2 i o mo (by simpa using ho) hmo)
  have hdst : ∀ i, i < ops.size → ∃ o mo, ops[i]? = some o ∧ ml[i]? = some mo ∧ mo.dst.slot = dstAt ops i := by
    intro i hi
    refine ⟨ops[i], ml[i]'(by rw [hlen]; exact hi), Array.getElem?_eq_getElem hi, List.getElem?_eq_getElem _, ?_⟩
    obtain ⟨hd, _, _⟩ := hcomp i _ _ (Array.getElem?_eq_getElem hi) (List.getElem?_eq_getElem (by rw [hlen]; exact hi))
    rw [dst_slot hd]; simp [dstAt, hi]
  subst h0
  have D : CCtx P Gl V n modes cfg callE ops ml (fun i j => aheadB masks i j = true) key G cs rs := by
    have lt : ∀ (i : Nat) (o : Oper), ops[i]? = some o → i < ops.size := fun i o h => (Array.getElem?_eq_some_iff.1 h).1
    have lt2 : ∀ (i : Nat) (mo : MOper), ml[i]? = some mo → i < ops.size := fun i o h => by rw [← hlen]; exact (List.getElem?_eq_some_iff.1 h).1
    refine ⟨hlen, hcomp, hst, ?_, ?_, ?_, ?_, hfu, hk, hcnt⟩
    · intro i o ho e he hb
      have hi := lt i o ho
      obtain ⟨_, mo, _, hmo, _⟩ := hdst i hi
      exact (hD i hi o mo ho hmo).1 e he hb
    · intro i o j ho hj hA
      have hi := lt i o ho
      obtain ⟨_, mo, _, hmo, _⟩ := hdst i hi
      exact (hD i hi o mo ho hmo).2.1 j hj hA
    · intro i j t hi hj hti htj
      obtain ⟨oi, mi, hoi, hmi, hsi⟩ := hdst i hi
      obtain ⟨oj, mj, hoj, hmj, hsj⟩ := hdst j hj
      rcases ((hD i hi oi mi hoi hmi).2.2 j hj mj hmj t (by rw [hsj, htj])).1 with h | h
      · exact h
      · exact absurd (by rw [hsi, hti]) h
    · intro i j mo t hmo hj htj hr
      have hi := lt2 i mo hmo
      obtain ⟨oj, mj, hoj, hmj, hsj⟩ := hdst j hj
      exact ((hD i hi _ mo (Array.getElem?_eq_getElem hi) hmo).2.2 j hj mj hmj t (by rw [hsj, htj])).2 hr
  have hnew0 : ∀ m, (cs 0).st.get (key + 8 * m) = none := by
    intro m
    cases hx : (cs 0).st.get (key + 8 * m) with
    | none => rfl
    | some x =>
      have := hfu.2 (key + 8 * m) (by rw [hx]; rfl)
      rw [hk _ (by omega)] at this; simp at this
  rw [hlen] at hN
  have T : TCtx cfg callE ops.size ml masks tr c' key sw cs rs := by
    refine ⟨hlen, fun i hi => htr i (by rw [hlen]; exact hi), by rw [htrl, hlen], hN, hst, hnew0, hdyn, ?_⟩
    intro i j hij hj hi hjq
    have h := List.all_eq_true.1 (List.all_eq_true.1 htot i (by simp; omega)) j (by simpa using hj)
    simpa [hij, hi, hjq, beq_iff_eq] using h
  have hls : ∀ i, ¬ LS (Array.replicate ops.size false) i := by
    intro i h
    unfold LS at h
    simp [Array.getD_eq_getD_getElem?, Array.getElem?_replicate] at h
    split at h <;> simp at h
  obtain ⟨t0, _, ht0, htc0, hq0⟩ := next_ex ml ops.size ops.size 0 (by omega)
  obtain ⟨al1, al2⟩ := T.along t0 0 (by omega) ht0 hq0
  have get : ∀ k x, (sig ml tr c' key t0).get k = some x → (cs 0).st.get k = some x ∨ ∃ q, q < ops.size ∧ quietAt ml q = true ∧ k = key + 8 * q := by
    intro k x hx
    rcases T.sigC ht0 hx with h | ⟨q, q1, q2, q3, q4, _⟩
    · by_cases hm : ∃ m, m < t0 ∧ k = key + 8 * m
      · obtain ⟨m, m1, rfl⟩ := hm
        exact .inr ⟨m, by omega, hq0 m (by omega) m1, rfl⟩
      · left
        rw [← al2 k (fun m _ b e => hm ⟨m, b, e⟩)]
        exact h
    · exact .inr ⟨q, q1, q3, q4⟩
  have getB : ∀ k x y, (sig ml tr c' key t0).get k = some x → G.B k = some y → (cs 0).st.get k = some x := by
    intro k x y hx hy
    rcases get k x hx with h | ⟨q, _, _, rfl⟩
    · exact h
    · rw [hk _ (by omega)] at hy; simp at hy
  have getB' : ∀ k y, ((sig ml tr c' key t0).get k).isSome → G.B k = some y → ((cs 0).st.get k).isSome := by
    intro k y hx hy
    obtain ⟨x, hx⟩ := Option.isSome_iff_exists.1 hx
    rw [getB k x y hx hy]; rfl
  have hs0 : Sim G (sig ml tr c' key t0) w base :=
    ⟨hs.bas, hs.frz, fun k l z b s hg hB => hs.cells k l z b s (getB k _ _ hg hB) hB, fun k l b s hg hB => hs.frzd k l b s (getB k _ _ hg hB) hB, fun k l b s hg hB => hs.free k l b s (getB k _ _ hg hB) hB,
      fun k k' x x' h1 h2 hB hB' e => hs.inj k k' x x' (getB' k x h1 hB) (getB' k' x' h2 hB') hB hB' e, fun k x h1 hB => hs.low k x (getB' k x h1 hB) hB, fun k es b s hg hB => hs.mps k es b s (getB k _ _ hg hB) hB⟩
  refine cany_sound hcfg hE D (posSys T hsok hdyn2) (base := base) (a0 := a) (w0 := w) ?_ _ _ ⟨some t0, ht0, htc0⟩ G a w (by simp) (by simp) ?_
  · rintro ⟨x, hx⟩ a' w' G' I
    have hxN : x = some ops.size := by
      cases x with
      | some t =>
        rcases hx.2 with e | e
        · rw [e]
        · by_cases e2 : t < ops.size
          · have := (I.pos t e2 e).2 e2
            simp [dnX] at this
          · have := hx.1
            rw [show t = ops.size by omega]
      | none =>
        exfalso
        cases sw with
        | none => simp at hx
        | some ij =>
          obtain ⟨i, j⟩ := ij
          simp only [swapOK, Bool.and_eq_true, decide_eq_true_eq, Bool.not_eq_true'] at hsok
          obtain ⟨⟨⟨⟨⟨⟨o1, o2⟩, o3⟩, o4⟩, o5⟩, o6⟩, o7⟩ := hsok
          have := (I.pos i (by omega) o3).2 (by omega)
          simp [dnX] at this
    subst hxN
    have hcn : (sig ml tr c' key ops.size).cnt = c'.st.cnt := by rw [T.sigN (Nat.le_refl _), hN]
    have hfwd : ∀ k y, c'.st.get k = some y → (sig ml tr c' key ops.size).get k = some y := fun k y h => T.sigA (Nat.le_refl _) (by rw [hN]; exact h)
    have hfwd' : ∀ k, (c'.st.get k).isSome → ((sig ml tr c' key ops.size).get k).isSome := by
      intro k h
      obtain ⟨y, hy⟩ := Option.isSome_iff_exists.1 h
      rw [hfwd k y hy]; rfl
    have hle := I.cntle
    simp only [sgX] at hle
    rw [hcn] at hle
    refine hQ a' w' G' ?_ I.size I.defers hle ?_
    · have hlk : ∀ t, VRel G' (a'.tmps.getD t undef) (lk V c' t) := by
        intro t
        rw [← hN]
        rcases D.slot t ops.size (Nat.le_refl _) with ⟨i, hi, hd, hv⟩ | ⟨h1, h2⟩
        · rcases hv with hv | hv
          · rw [hv]; exact I.slotW i t hi hd
          · rw [hv]; exact .und _
        · rw [h2]; exact I.slotO t (fun i hi => h1 i hi)
      refine ⟨fun t ht => ?_, fun t ht => ?_⟩
      · have := hlk t
        unfold lk at this
        rwa [if_pos ht] at this
      · have := hlk t
        unfold lk at this
        rwa [ht, if_neg (by simp)] at this
    · refine ⟨I.le, fun k x hx => ?_, I.sim.less hfwd, I.os, I.tape, I.output, I.hsize, I.kept, fun k x h1 h2 => I.own k x (hfwd' k h1) h2, I.fnew, fun k hk' => ?_⟩
      · rcases I.new k x hx with h | ⟨i, hi, rfl⟩ | ⟨h, h2⟩
        · exact .inl h
        · right; omega
        · right
          simp only [sgX] at h2
          rw [hcn] at h2
          omega
      · rcases I.ful k (hfwd' k hk') with h | h | ⟨q, h1, _, h3, _⟩
        · exact .inl h
        · exact .inr h
        · exact absurd h1 h3
  · refine ⟨hn, rfl, fun i o h => absurd h (hls i), fun i h => absurd h (hls i), fun i t h => absurd h (hls i), fun t _ => ?_, ?_, .refl G, fun k x h => .inl h, ?_, hs0, rfl, rfl, rfl, Nat.le_refl _, fun _ _ _ => rfl, ?_, fun _ _ _ h => .inl h, ?_⟩
    · unfold lk
      cases hV : V.contains t with
      | true => exact hL.1 t hV
      | false => exact hL.2 t hV
    · intro v hv hvq
      refine ⟨fun h => ?_, fun h => absurd h (hls v)⟩
      simp only [dnX, decide_eq_true_eq] at h
      have := hq0 v (by omega) h
      rw [hvq] at this; simp at this
    · show _ ≤ (sig ml tr c' key t0).cnt
      rw [T.sigN ht0, al1]; exact Nat.le_refl _
    · intro k x h1 hB
      exact .inr ⟨k, x, getB' k x h1 hB, hB, rfl⟩
    · intro k h1
      obtain ⟨x, hx⟩ := Option.isSome_iff_exists.1 h1
      rcases get k x hx with h | ⟨q, q1, q2, q3⟩
      · left; rw [h]; rfl
      · exact .inr (.inr ⟨q, q1, q2, hls q, q3⟩)
end Go.Pe
