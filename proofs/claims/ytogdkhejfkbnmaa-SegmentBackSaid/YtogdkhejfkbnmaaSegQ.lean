/-
  Segments: frames one behind the other, and amanuensislaw04.segmented. No condition.
-/
import Derived.Test.YtogdkhejfkbnmaaSegI
import Derived.Test.YtogdkhejfkbnmaaSegJ
set_option linter.unusedVariables false
set_option linter.unusedSimpArgs false
namespace Go.Pe
open Go Go.Am Go.RowKit

def goodF (c : List Ev) : Prop := 1 ≤ c.length ∧ c.length ≤ 4096 ∧ ∀ e ∈ c, EvIn e
theorem readL_none {b : List UInt8} {a : Nat} (ha : a ≤ b.length) (h : ∀ l rest, goodF l → b.drop a ≠ frameL l ++ rest) : ∃ e, readL b (a : Int) = .inr e := by
  cases hr : readL b (a : Int) with
  | inr e => exact ⟨e, rfl⟩
  | inl p =>
    obtain ⟨l, n⟩ := p
    obtain ⟨a0, rest, h1, h2, h3, h4, h5, h6, _⟩ := readL_inv hr
    have h1' : a0 = a := by omega
    subst h1'
    exact absurd h6 (h l rest ⟨h3, h4, h5⟩)
theorem no_frame_nil {l : List Ev} {rest : List UInt8} : ([] : List UInt8) ≠ frameL l ++ rest := by
  intro h
  have := congrArg List.length h
  have hp := frame_pos l
  rw [List.length_append, List.length_nil] at this
  omega
theorem no_frame_zero {l : List Ev} (hl : goodF l) {r rest : List UInt8} : 0 :: r ≠ frameL l ++ rest := by
  intro h
  have hl0 : l ≠ [] := by intro e; have := hl.1; rw [e] at this; simp at this
  have h6 := bodyL_ge hl0
  have hle := bodyL_le hl.2.1
  rw [frameL_split, List.append_assoc] at h
  have h0 : varint 0 = [0] := by decide +kernel
  have h1 := parse_varint (n := 0) (by decide) r
  rw [h0] at h1
  have h2 : ([0] ++ r : List UInt8) = varint (bodyL l).length ++ (bodyL l ++ be4 (crc (bodyL l)) ++ rest) := h
  rw [h2, parse_varint (by omega)] at h1
  have := (Prod.mk.inj h1).1
  omega
theorem no_frame_cut {c l : List Ev} (hc : c.length ≤ 4096) (hl : goodF l) {k : Nat} (hk : k < (frameL c).length) {rest : List UInt8} : (frameL c).take k ≠ frameL l ++ rest := by
  intro h
  have h1 := readL_cut hc hk
  have h2 := readL_frame hl.1 hl.2.1 hl.2.2 (b := (frameL c).take k) (rest := rest) (a := 0) (by rw [List.drop_zero]; exact h) (Nat.zero_le _)
  rw [show ((0 : Nat) : Int) = 0 from rfl, h1] at h2
  simp at h2
theorem framesL_of {b : List UInt8} : ∀ (cs : List (List Ev)) {f a : Nat} {acc : List Ev} {rest : List UInt8}, (∀ c ∈ cs, goodF c) → b.drop a = (cs.map frameL).flatten ++ rest → a ≤ b.length → cs.length < f → (∃ e, readL b ((a + ((cs.map frameL).flatten).length : Nat) : Int) = .inr e) → framesL b f a acc = (acc ++ cs.flatten, ((a + ((cs.map frameL).flatten).length : Nat) : Int))
  | [], f, a, acc, rest, _, _, _, hf, he => by
    obtain ⟨f, rfl⟩ : ∃ g, f = g + 1 := ⟨f - 1, by omega⟩
    obtain ⟨e, he⟩ := he
    have h0 : a + (([] : List (List Ev)).map frameL).flatten.length = a := by simp
    rw [h0] at he ⊢
    unfold framesL
    rw [he]; simp
  | c :: cs, f, a, acc, rest, hg, hd, ha, hf, he => by
    have hl : (c :: cs).length = cs.length + 1 := rfl
    obtain ⟨f, rfl⟩ : ∃ g, f = g + 1 := ⟨f - 1, by omega⟩
    obtain ⟨g1, g2, g3⟩ := hg c List.mem_cons_self
    have hd' : b.drop a = frameL c ++ ((cs.map frameL).flatten ++ rest) := by rw [hd]; simp
    have hr := readL_frame g1 g2 g3 hd' ha
    have hfl : a + ((c :: cs).map frameL).flatten.length = a + (frameL c).length + (cs.map frameL).flatten.length := by simp [Nat.add_assoc]
    rw [hfl] at he ⊢
    have ih := framesL_of cs (f := f) (a := a + (frameL c).length) (acc := acc ++ c) (rest := rest) (fun x hx => hg x (List.mem_cons_of_mem _ hx)) (drop_more hd') (drop_le hd' ha) (by omega) he
    unfold framesL
    rw [hr]
    simp only []
    rw [ih]
    simp
def chunks (each : Nat) : Nat → List Ev → List (List Ev)
  | 0, _ => []
  | f + 1, l => if l = [] then [] else l.take each :: chunks each f (l.drop each)
theorem chunks_flat {each : Nat} (h : 1 ≤ each) : ∀ (f : Nat) (l : List Ev), l.length ≤ f → (chunks each f l).flatten = l
  | 0, l, hl => by
    have : l = [] := List.length_eq_zero_iff.1 (by omega)
    subst this; rfl
  | f + 1, l, hl => by
    unfold chunks
    by_cases h0 : l = []
    · rw [if_pos h0, h0]; rfl
    · rw [if_neg h0, List.flatten_cons, chunks_flat h f _ (by rw [List.length_drop]; have := List.length_pos_iff.2 h0; omega), List.take_append_drop]
theorem chunks_good {each : Nat} (h : 1 ≤ each) (h2 : each ≤ 4096) : ∀ (f : Nat) {l : List Ev}, (∀ e ∈ l, EvIn e) → ∀ c ∈ chunks each f l, goodF c
  | 0, l, _ => by simp [chunks]
  | f + 1, l, hE => by
    unfold chunks
    by_cases h0 : l = []
    · rw [if_pos h0]; simp
    · rw [if_neg h0]
      intro c hc
      rcases List.mem_cons.1 hc with rfl | hc
      · have := List.length_pos_iff.2 h0
        exact ⟨by rw [List.length_take]; omega, by rw [List.length_take]; omega, fun e he => hE e (List.mem_of_mem_take he)⟩
      · exact chunks_good h h2 f (fun e he => hE e (List.mem_of_mem_drop he)) c hc
theorem chunks_len {each : Nat} : ∀ (f : Nat) (l : List Ev), (chunks each f l).length ≤ f
  | 0, l => by simp [chunks]
  | f + 1, l => by
    unfold chunks
    split
    · simp
    · have := chunks_len (each := each) f (l.drop each)
      rw [List.length_cons]; omega
def segB (n : Nat) (cs : List (List Ev)) : List UInt8 := headB n ++ (cs.map frameL).flatten
theorem scan_seg {n : Nat} (hn : n ≤ 4611686018427387904) {cs : List (List Ev)} (hg : ∀ c ∈ cs, goodF c) {rest : List UInt8} (hr : ∀ l r, goodF l → rest ≠ frameL l ++ r) : scanR (segB n cs ++ rest) = .inl (n, cs.flatten, ((segB n cs).length : Int)) := by
  have hh := headR_B hn ((cs.map frameL).flatten ++ rest)
  have hs : segB n cs ++ rest = headB n ++ ((cs.map frameL).flatten ++ rest) := by unfold segB; rw [List.append_assoc]
  have hsl : (segB n cs).length = (headB n).length + ((cs.map frameL).flatten).length := by unfold segB; rw [List.length_append]
  rw [hs]
  unfold scanR
  rw [hh]
  simp only []
  rw [if_neg (by simp)]
  generalize hB : headB n ++ ((cs.map frameL).flatten ++ rest) = B
  have hd : B.drop (headB n).length = (cs.map frameL).flatten ++ rest := by rw [← hB, List.drop_left]
  have ha : (headB n).length ≤ B.length := by rw [← hB, List.length_append]; omega
  have hcl : cs.length < B.length + 1 := by
    have : cs.length ≤ ((cs.map frameL).flatten).length := by
      clear hd hB hs hsl hh hg
      induction cs with
      | nil => simp
      | cons c cs ih =>
        have := frame_pos c
        simp only [List.length_cons, List.map_cons, List.flatten_cons, List.length_append]
        omega
    rw [← hB]; simp only [List.length_append]; omega
  have he : ∃ e, readL B (((headB n).length + ((cs.map frameL).flatten).length : Nat) : Int) = .inr e := by
    refine readL_none (by rw [← hB]; simp only [List.length_append]; omega) fun l r hl => ?_
    rw [← List.drop_drop, hd, List.drop_left]
    exact hr l r hl
  rw [framesL_of cs hg hd ha hcl he, hsl, List.nil_append]
end Go.Pe
set_option linter.unusedVariables false
set_option linter.unusedSimpArgs false
namespace Go.Pe
open Go Go.Am Go.RowKit

theorem frameL_le {l : List Ev} (h : l.length ≤ 4096) : (frameL l).length ≤ 168000 := by
  have h1 := bodyL_le h
  have h2 := varint_le (bodyL l).length
  rw [frameL_len]; omega
theorem slice_evs {l : List Ev} {i m : Nat} (h1 : i ≤ m) (h2 : m ≤ l.length) : sliceP 5 (some (.i .i64 (i : Int))) (some (.i .i64 (m : Int))) (.fsl l.length (evsC l)) = some (.fsl (m - i) (((evsC l).drop (i * 5)).take ((m - i) * 5))) := by
  have hb1 : bound (some (.i .i64 (m : Int))) l.length l.length = some m := by
    show (if _ then _ else _) = _
    rw [if_pos (by omega)]; rfl
  have hb2 : bound (some (.i .i64 (i : Int))) 0 m = some i := by
    show (if _ then _ else _) = _
    rw [if_pos (by omega)]; rfl
  unfold sliceP
  simp only [hb1, hb2]
  rw [if_pos (evsC_len l)]
theorem flat_len : ∀ (cs : List (List Ev)), (∀ c ∈ cs, goodF c) → ((cs.map frameL).flatten).length ≤ 168000 * cs.length
  | [], _ => by simp
  | c :: cs, h => by
    have h1 := frameL_le (h c List.mem_cons_self).2.1
    have ih := flat_len cs fun x hx => h x (List.mem_cons_of_mem _ hx)
    simp only [List.map_cons, List.flatten_cons, List.length_append, List.length_cons]
    omega
set_option maxHeartbeats 8000000 in
set_option maxRecDepth 100000 in
theorem segmented_ev {cfg : Cfg} (hcfg : cfg.ext = extS4) (hf : cfg.fn 33 = some m33) {l : List Ev} {n each : Nat} (hn : n ≤ 4611686018427387904) (hl : l.length ≤ 300) (hE : ∀ e ∈ l, EvIn e) (he1 : 1 ≤ each) (he2 : each ≤ 9) {fuel : Nat} (hfu : 400 ≤ fuel) :
    ∃ r st', evFn cfg (fuel + 1) 33 [.i .i64 (n : Int), .fsl l.length (evsC l), .i .i64 (each : Int)] { sto := .leaf, cnt := 1 } = some (r, st') ∧ closeRes st' r = some (.tup [.osl 1 (segB n (chunks each l.length l)).length (ofBytes (segB n (chunks each l.length l))), .b true]) := by
  refine evFn_W hf ?_
  unfold m33
  refine Za (fun x => x.env.get 0 = .i .i64 (n : Int) ∧ x.env.get 1 = .fsl l.length (evsC l) ∧ x.env.get 2 = .i .i64 (each : Int)) ?_ ?_
  · simp (disch := first | omega | rfl | assumption) only [↓Z0, ↓Xp, ↓Xt, Xq, Xc, binP, ofCells, Nat.reduceAdd, Nat.reduceMul, Nat.reduceLT, Nat.reduceEqDiff, reduceIte, Xm, Nat.reduceLeDiff, Xa, Xn, putArgs]
    (repeat' (first | exact True.intro | rfl | assumption | omega | apply And.intro | exact St.get_putk _ _ _ | refine ⟨_, rfl, ?_⟩))
  rintro ⟨env, ⟨sto, c⟩⟩ ⟨g0, g1, g2⟩
  simp only at g0 g1 g2
  rw [Z0]
  simp (disch := first | omega | rfl | assumption) only [↓Xp, ↓Xt, Xq, Xc, binP, ofCells, Nat.reduceAdd, Nat.reduceMul, Nat.reduceLT, Nat.reduceEqDiff, reduceIte, Xa, Xn, unP, len_f, len_n, len_r, Xm, Nat.reduceLeDiff, g0, g1, g2]
  refine WV_callT (deepL_flat rfl) (s_head hcfg hn) (OutV.osl _ _ _) rfl rfl (clO_bytes _) (by rw [len_ofBytes, Nat.mul_one]) (by first | omega | (simp only [Z0L_, Z0M_, Nat.add_assoc, Nat.reduceAdd]; omega) | (simp only; omega)) ?_
  intro h st1 o1 q1 c1 f1
  simp only at c1
  simp (disch := first | omega | rfl | assumption) only [↓Xp, ↓Xt, Xq, Xc, binP, ofCells, Nat.reduceAdd, Nat.reduceMul, Nat.reduceLT, Nat.reduceEqDiff, reduceIte, Xa, Xn, unP, len_f, len_n, len_r, Xm, Nat.reduceLeDiff, g0, g1, g2, List.nil_append]
  obtain ⟨F, hF⟩ : ∃ F, segB n (chunks each l.length l) = F := ⟨_, rfl⟩
  have hFl : F.length ≤ 60000000 := by
    have h1 := flat_len _ (chunks_good he1 (by omega) l.length hE)
    have h2 := @chunks_len each l.length l
    have h3 := @headB_len n
    rw [← hF]
    unfold segB
    rw [List.length_append]; omega
  rw [hF]
  refine Za (fun x => ∃ w, x.env.get 8 = w ∧ x.env.get 9 = .i .i64 0 ∧ Own x.st 1 w F.length (ofBytes F)) ?_ ?_
  · rw [Z0]
    simp (disch := first | omega | rfl | assumption) only [↓Xp, ↓Xt, Xq, Xc, binP, ofCells, Nat.reduceAdd, Nat.reduceMul, Nat.reduceLT, Nat.reduceEqDiff, reduceIte, Xa, Xn, unP, len_f, len_n, len_r, Xm, Nat.reduceLeDiff, g0, g1, g2]
    refine Z9 (k := l.length - 0) (fun d x => ∃ (i f : Nat) (w : PV) (B : List UInt8), d = l.length - i ∧ i ≤ l.length + 9 ∧ l.length - i ≤ f ∧ B ++ ((chunks each f (l.drop i)).map frameL).flatten = F ∧ x.env.get 1 = .fsl l.length (evsC l) ∧ x.env.get 2 = .i .i64 (each : Int) ∧ x.env.get 8 = w ∧ x.env.get 9 = .i .i64 0 ∧ x.env.get 10 = .i .i64 (i : Int) ∧ Own x.st 1 w B.length (ofBytes B)) ?_ ?_ (by omega)
    · skip
      clear g0 g1 g2
      rintro d ⟨env, ⟨sto, c⟩⟩ ⟨i, f, w, B, rfl, hi, hf2, hB, g1, g2, g8, g9, g10, o8⟩
      simp only at g1 g2 g8 g9 g10
      have hBl : B.length ≤ F.length := by
        have := congrArg List.length hB
        rw [List.length_append] at this
        omega
      by_cases hlt : i < l.length
      · obtain ⟨f, rfl⟩ : ∃ g, f = g + 1 := ⟨f - 1, by omega⟩
        have hne : l.drop i ≠ [] := fun e => by
          have := congrArg List.length e
          rw [List.length_drop, List.length_nil] at this
          omega
        unfold chunks at hB
        rw [if_neg hne, List.drop_drop] at hB
        obtain ⟨C, hC⟩ : ∃ C, (l.drop i).take each = C := ⟨_, rfl⟩
        have hCl : C.length = min each (l.length - i) := by rw [← hC, List.length_take, List.length_drop]
        rw [hC] at hB
        simp only [List.map_cons, List.flatten_cons] at hB
        have hsl := slice_evs (l := l) (i := i) (m := min (i + each) l.length) (by omega) (by omega)
        have hce : ((evsC l).drop (i * 5)).take ((min (i + each) l.length - i) * 5) = evsC C := by
          rw [evsC_drop5, evsC_take, ← hC]
          congr 1
          by_cases h : i + each ≤ l.length
          · rw [show min (i + each) l.length - i = each by omega]
          · rw [show min (i + each) l.length - i = l.length - i by omega, List.take_of_length_le (by rw [List.length_drop]; omega), List.take_of_length_le (by rw [List.length_drop]; omega)]
        rw [hce, show min (i + each) l.length - i = C.length by omega] at hsl
        have hC0 : C ≠ [] := fun e => by rw [e] at hCl; simp at hCl; omega
        have hBC : B.length + (frameL C).length ≤ F.length := by
          have := congrArg List.length hB
          simp only [List.length_append] at this
          omega
        have hmin : minP (.i .i64 ((i + each : Nat) : Int)) [.i .i64 (l.length : Int)] = some (.i .i64 ((min (i + each) l.length : Nat) : Int)) := by
          unfold minP
          rw [if_pos rfl]
          unfold minP
          congr 2
          split <;> omega
        simp (disch := first | omega | rfl | assumption) only [↓Xp, ↓Xt, Xq, Xc, binP, ofCells, Nat.reduceAdd, Nat.reduceMul, Nat.reduceLT, Nat.reduceEqDiff, reduceIte, Xa, Xn, unP, len_f, len_n, len_r, ↓Z0, g1, g2, g8, g9, g10, hmin, hsl]
        refine WV_callT (deepL_flat rfl) (s_frame hcfg hC0 (by omega)) (OutV.osl _ _ _) rfl rfl (clO_bytes _) (by rw [len_ofBytes, Nat.mul_one]) (by first | omega | (simp only [Z0L_, Z0M_, Nat.add_assoc, Nat.reduceAdd]; omega) | (simp only; omega)) ?_
        intro v st2 o2 q2 c2 f2
        simp only at c2
        have o8' := o8.over f2 rfl (by simp only; omega) (by simp only; omega)
        have hco := fun N (hN : st2.cnt ≤ N) => (o2.cnt (c' := N) hN).cells
        have hone := one_ofBytes (frameL C)
        simp (disch := first | omega | rfl | assumption) only [↓Xp, ↓Xt, Xq, Xc, binP, ofCells, Nat.reduceAdd, Nat.reduceMul, Nat.reduceLT, Nat.reduceEqDiff, reduceIte, Xa, Xn, unP, len_f, len_n, len_r, Xm, Nat.reduceLeDiff, List.nil_append, hco, hone]
        refine WV_appO (o8'.cnt (by omega)) (by first | omega | (simp only [Z0L_, Z0M_, Nat.add_assoc, Nat.reduceAdd]; omega) | (simp only; omega)) (fun h => by have := o8'.lt _ h; omega) (by rw [len_ofBytes, Nat.mul_one]) (by decide) (by unfold maxBytes; omega) ?_
        intro v2 st3 o3 c3 q3 f3
        refine ⟨l.length - (i + each), by omega, i + each, f, v2, B ++ frameL C, rfl, by omega, by omega, by rw [List.append_assoc]; exact hB, rfl, rfl, ?_⟩
        have hap : ofBytes (B ++ frameL C) = ofBytes B ++ ofBytes (frameL C) := by unfold ofBytes; rw [List.map_append]
        rw [List.length_append, hap]
        exact o3.cnt (by omega)
      · simp (disch := first | omega | rfl | assumption) only [↓Z0, ↓Xp, ↓Xt, Xq, Xc, binP, ofCells, Nat.reduceAdd, Nat.reduceMul, Nat.reduceLT, Nat.reduceEqDiff, reduceIte, Xm, Nat.reduceLeDiff, Xa, Xn, unP, len_f, len_n, len_r, g1, g2, g8, g9, g10]
        have hB' : B = F := by
          rw [← hB, List.drop_eq_nil_of_le (by omega)]
          cases f <;> simp [chunks]
        subst hB'
        exact ⟨w, rfl, o8.cnt (by omega)⟩
    · refine ⟨0, l.length, h, headB n, rfl, by omega, by omega, by rw [List.drop_zero]; exact hF, ?_⟩
      simp only [Env.get_put, Nat.reduceEqDiff, if_false, if_true, g0, g1, g2]
      exact ⟨by first | trivial | exact g1, by first | trivial | exact g2, by first | trivial | rfl, by first | trivial | rfl, by first | trivial | rfl, o1.cnt (by omega)⟩
  clear g0 g1 g2
  rintro ⟨env, ⟨sto, c⟩⟩ ⟨w, g8, g9, o8⟩
  simp only at g8 g9
  have hF0 : 0 < F.length := by
    rw [← hF]
    unfold segB headB
    rw [List.length_append, sealB_len]; omega
  obtain ⟨k, rfl⟩ : ∃ k, w = .rsl k 1 0 F.length := by
    rcases o8 with ⟨_, h0, _⟩ | ⟨k, h1, _⟩
    · omega
    · exact ⟨k, h1⟩
  simp (disch := first | omega | rfl | assumption) only [↓Z0, ↓Xp, ↓Xt, Xq, Xc, binP, ofCells, Nat.reduceAdd, Nat.reduceMul, Nat.reduceLT, Nat.reduceEqDiff, reduceIte, Xm, Nat.reduceLeDiff, Xa, Xn, unP, len_f, len_n, len_r, g8, g9]
  refine ⟨nofun, _, rfl, ?_⟩
  simp only [tupV, ↓Z0, ↓Xp, ↓Xt, Xq, Xc, binP, ofCells, Nat.reduceAdd, Nat.reduceMul, Nat.reduceLT, Nat.reduceEqDiff, reduceIte]
  exact close_tupO (pre := []) (post := [.b true]) (o8.cnt (by omega)) rfl rfl (clO_bytes F) (by decide)
end Go.Pe
