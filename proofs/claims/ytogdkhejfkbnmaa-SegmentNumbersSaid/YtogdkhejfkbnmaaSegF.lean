/-
  Segments: a segment scanned, by the interpreter of plain data. No condition.
-/
import Derived.Test.YtogdkhejfkbnmaaSegE
import Derived.Test.YtogdkhejfkbnmaaEvtAs
set_option linter.unusedVariables false
set_option linter.unusedSimpArgs false
namespace Go.Pe
open Go Go.Am Go.RowKit

def framesL (b : List UInt8) : Nat → Int → List Ev → List Ev × Int
  | 0, a, acc => (acc, a)
  | f + 1, a, acc => match readL b a with
    | .inl (l, a') => framesL b f a' (acc ++ l)
    | .inr _ => (acc, a)
def scanR (b : List UInt8) : Sum (Nat × List Ev × Int) Int :=
  if (headR b).2.2 ≠ 0 then .inr (headR b).2.2 else .inl ((headR b).1, framesL b (b.length + 1) (headR b).2.1 [])
def evsO (l : List Ev) : PV := if l = [] then .nsl else .osl 5 l.length (evsC l)
def scanV (b : List UInt8) : PV := match scanR b with
  | .inl (n, L, a) => .tup [.i .i64 (n : Int), evsO L, .i .i64 a, .i .i64 0]
  | .inr e => .tup [.i .i64 0, .nsl, .i .i64 0, .i .i64 e]
theorem evsC_append (a b : List Ev) : evsC (a ++ b) = evsC a ++ evsC b := by simp [evsC]
theorem evsC_take : ∀ (l : List Ev) (m : Nat), (evsC l).take (m * 5) = evsC (l.take m)
  | [], m => by simp [evsC]
  | e :: r, 0 => by simp [evsC]
  | e :: r, m + 1 => by
    have h : evsC (e :: r) = evC e ++ evsC r := rfl
    have h2 : evsC ((e :: r).take (m + 1)) = evC e ++ evsC (r.take m) := rfl
    have h5 : (evC e).length = 5 := rfl
    rw [h, h2, show (m + 1) * 5 = (evC e).length + m * 5 by rw [h5]; omega, List.take_length_add_append, evsC_take r m]
theorem evsC_drop5 : ∀ (l : List Ev) (m : Nat), (evsC l).drop (m * 5) = evsC (l.drop m)
  | [], m => by simp [evsC]
  | e :: r, 0 => by simp
  | e :: r, m + 1 => by
    have h : evsC (e :: r) = evC e ++ evsC r := rfl
    have h5 : (evC e).length = 5 := rfl
    rw [h, show (m + 1) * 5 = (evC e).length + m * 5 by rw [h5]; omega, List.drop_length_add_append, evsC_drop5 r m]
    rfl
theorem pts_ge (l : List Ev) : ∀ X, 5 * l.length ≤ (pts X l).length := by
  induction l with
  | nil => intro X; simp
  | cons e r ih =>
    intro X
    have h1 := ih e
    have h2 := pt_len X e
    show 5 * (r.length + 1) ≤ (pt X e ++ pts e r).length
    rw [List.length_append]; omega
theorem frame_ge (l : List Ev) : l.length ≤ (frameL l).length := by
  have h1 := pts_ge l .zero
  have hb : bodyL l = varint l.length ++ pts .zero l := putsL_pts l _ _
  rw [frameL_len, hb, List.length_append]; omega
theorem frame_pos (l : List Ev) : 0 < (frameL l).length := by
  rw [frameL_len]; omega
theorem framesL_more (b : List UInt8) : ∀ (f g : Nat) (a : Nat) (acc : List Ev), b.length < f + a → f ≤ g → a ≤ b.length → framesL b f a acc = framesL b g a acc
  | 0, g, a, acc, h, _, ha => by omega
  | f + 1, g, a, acc, h, hg, ha => by
    obtain ⟨g, rfl⟩ : ∃ n, g = n + 1 := ⟨g - 1, by omega⟩
    unfold framesL
    cases hr : readL b (a : Int) with
    | inr e => rfl
    | inl p =>
      obtain ⟨l, a'⟩ := p
      obtain ⟨a0, rest, h1, h2, _, _, _, h6, rfl⟩ := readL_inv hr
      have h1' : a0 = a := by omega
      subst h1'
      have hp := frame_pos l
      exact framesL_more b f g _ _ (by omega) (by omega) (drop_le h6 h2)
set_option maxHeartbeats 8000000 in
set_option maxRecDepth 100000 in
theorem scan_ev {cfg : Cfg} (hf : cfg.fn 15 = some m15) (hx1 : cfg.ext 37 = some gHead) (hx2 : cfg.ext 38 = some gRead) {v : PV} {b : List UInt8} (hv : inL v = some b) (hb : b.length ≤ 1000000000000) {fuel : Nat} (hfu : b.length + 5 ≤ fuel) :
    ∃ r st', evFn cfg (fuel + 1) 15 [v] { sto := .leaf, cnt := 1 } = some (r, st') ∧ closeRes st' r = some (scanV b) := by
  refine evFn_W hf ?_
  unfold m15
  have ch : ∀ (st : St) (key : Nat), callStep (runPure cfg (evFn cfg fuel) 37) false st key [v] = some (.tup [.i .i64 ((headR b).1 : Int), .i .i64 (headR b).2.1, .i .i64 (headR b).2.2], st) := by
    intro st key
    refine callStep_flat (by simp only [List.all_cons, in_flat hv, List.all_nil, Bool.and_self]) ?_ rfl
    rw [runPure_ext hx1]
    unfold gHead
    simp only [hv]
    rw [if_pos (by omega)]
    rfl
  have hdv : ∀ st a, deepL st [v, .i .i64 a] = some [v, .i .i64 a] := fun st a => deepL_flat (by simp only [List.all_cons, in_flat hv, List.all_nil, Bool.and_self, Bool.true_and]; rfl)
  unfold scanV scanR
  have hhead := @headR_ok b
  generalize headR b = H at ch hhead ⊢
  obtain ⟨n, a0, e⟩ := H
  simp only at ch hhead ⊢
  by_cases h1 : e ≠ 0
  · rw [if_pos h1]
    simp (disch := first | omega | rfl | assumption) only [putArgs, ↓Z0, ↓Xp, ↓Xt, Xq, Xc, binP, ofCells, Nat.reduceAdd, Nat.reduceMul, Nat.reduceLT, Nat.reduceEqDiff, reduceIte, Xm, Nat.reduceLeDiff, Xa, Xn, ch]
    refine ⟨nofun, _, rfl, ?_⟩
    simp only [tupV, ↓Z0, ↓Xp, ↓Xt, Xq, Xc, binP, ofCells, Nat.reduceAdd, Nat.reduceMul, Nat.reduceLT, Nat.reduceEqDiff, reduceIte]
    exact closeRes_tup rfl
  rw [if_neg h1]
  have h1' : e = 0 := by simpa using h1
  obtain ⟨p, rfl, hpb⟩ := hhead h1'
  simp only
  refine Za (fun x => x.env.get 0 = v) ?_ ?_
  · simp (disch := first | omega | rfl | assumption) only [↓Z0, ↓Xp, ↓Xt, Xq, Xc, binP, ofCells, Nat.reduceAdd, Nat.reduceMul, Nat.reduceLT, Nat.reduceEqDiff, reduceIte, Xm, Nat.reduceLeDiff, Xa, Xn, putArgs]
    (repeat' (first | exact True.intro | rfl | assumption | omega | apply And.intro | exact St.get_putk _ _ _ | refine ⟨_, rfl, ?_⟩))
  rintro ⟨env, ⟨sto, c⟩⟩ g0
  simp only at g0
  refine Za (fun x => x.env.get 0 = v ∧ x.env.get 6 = .i .i64 (n : Int) ∧ x.env.get 7 = .i .i64 (p : Int) ∧ x.env.get 8 = .i .i64 e) ?_ ?_
  · simp (disch := first | omega | rfl | assumption) only [↓Z0, ↓Xp, ↓Xt, Xq, Xc, binP, ofCells, Nat.reduceAdd, Nat.reduceMul, Nat.reduceLT, Nat.reduceEqDiff, reduceIte, Xm, Nat.reduceLeDiff, Xa, Xn, g0, ch]
    (repeat' (first | exact True.intro | rfl | assumption | omega | apply And.intro | exact St.get_putk _ _ _ | refine ⟨_, rfl, ?_⟩))
  clear g0
  rintro ⟨env, ⟨sto, c⟩⟩ ⟨g0, g6, g7, g8⟩
  simp only at g0 g6 g7 g8
  refine Za (fun x => x.env.get 0 = v ∧ x.env.get 6 = .i .i64 (n : Int) ∧ x.env.get 7 = .i .i64 (p : Int)) ?_ ?_
  · simp (disch := first | omega | rfl | assumption) only [↓Z0, ↓Xp, ↓Xt, Xq, Xc, binP, ofCells, Nat.reduceAdd, Nat.reduceMul, Nat.reduceLT, Nat.reduceEqDiff, reduceIte, Xm, Nat.reduceLeDiff, Xa, Xn, g0, g6, g7, g8]
    (repeat' (first | exact True.intro | rfl | assumption | omega | apply And.intro | exact St.get_putk _ _ _ | refine ⟨_, rfl, ?_⟩))
  clear g0 g6 g7 g8
  rintro ⟨env, ⟨sto, c⟩⟩ ⟨g0, g6, g7⟩
  simp only at g0 g6 g7
  refine Za (fun x => x.env.get 0 = v ∧ x.env.get 6 = .i .i64 (n : Int) ∧ x.env.get 7 = .i .i64 (p : Int) ∧ x.env.get 9 = .nsl) ?_ ?_
  · simp (disch := first | omega | rfl | assumption) only [↓Z0, ↓Xp, ↓Xt, Xq, Xc, binP, ofCells, Nat.reduceAdd, Nat.reduceMul, Nat.reduceLT, Nat.reduceEqDiff, reduceIte, Xm, Nat.reduceLeDiff, Xa, Xn, g0, g6, g7]
    (repeat' (first | exact True.intro | rfl | assumption | omega | apply And.intro | exact St.get_putk _ _ _ | refine ⟨_, rfl, ?_⟩))
  clear g0 g6 g7
  rintro ⟨env, ⟨sto, c⟩⟩ ⟨g0, g6, g7, g9⟩
  simp only at g0 g6 g7 g9
  obtain ⟨RES, hRES⟩ : ∃ R, framesL b (b.length + 1) (p : Int) [] = R := ⟨_, rfl⟩
  rw [hRES]
  rw [Z2]
  refine Z9 (k := b.length - p) (fun d x => ∃ (a : Nat) (L : List Ev) (w : PV), a ≤ b.length ∧ d = b.length - a ∧ framesL b (b.length + 1) (a : Int) L = RES ∧ L.length ≤ a ∧ (L = [] → w = .nsl) ∧ x.env.get 0 = v ∧ x.env.get 6 = .i .i64 (n : Int) ∧ x.env.get 7 = .i .i64 (a : Int) ∧ x.env.get 9 = w ∧ Own x.st 5 w L.length (evsC L)) ?_ ⟨p, [], .nsl, hpb, rfl, hRES, by simp, fun _ => rfl, g0, g6, g7, g9, Own.nil _ _⟩ (by omega)
  clear g0 g6 g7 g9
  rintro d ⟨env, ⟨sto, c⟩⟩ ⟨a, L, w, ha, rfl, hR, hLl, hLn, g0, g6, g7, g9, o9⟩
  simp only at g0 g6 g7 g9
  rw [show framesL b (b.length + 1) (a : Int) L = _ from rfl] at hR
  unfold framesL at hR
  cases hr : readL b (a : Int) with
  | inr e2 =>
    rw [hr] at hR
    simp only at hR
    have he2 := readL_err hr
    have cr : ∀ (st : St) (key : Nat), callStep (runPure cfg (evFn cfg fuel) 38) false st key [v, .i .i64 (a : Int)] = some (.tup [.nsl, .i .i64 0, .i .i64 e2], st) := by
      intro st key
      refine callStep_gen (r := .tup [.nsl, .i .i64 0, .i .i64 e2]) (hdv st _) ?_ rfl
      rw [runPure_ext hx2]
      unfold gRead
      simp only [hv]
      rw [if_pos (by omega)]
      unfold readV
      rw [hr]
    simp (disch := first | omega | rfl | assumption) only [↓Z0, ↓Xp, ↓Xt, Xq, Xc, binP, ofCells, Nat.reduceAdd, Nat.reduceMul, Nat.reduceLT, Nat.reduceEqDiff, reduceIte, Xm, Nat.reduceLeDiff, Xa, Xn, g0, g6, g7, g9, cr]
    refine ⟨nofun, _, rfl, ?_⟩
    simp only [tupV, ↓Z0, ↓Xp, ↓Xt, Xq, Xc, binP, ofCells, Nat.reduceAdd, Nat.reduceMul, Nat.reduceLT, Nat.reduceEqDiff, reduceIte]
    subst hR
    have hcl := close_tupO (st := ⟨sto, c + 152⟩) (pre := [.i .i64 (n : Int)]) (post := [.i .i64 (a : Int), .i .i64 0]) (o9.cnt (by omega)) rfl rfl (clO_evs L) (by decide)
    have ho : outO w 5 L.length (evsC L) = evsO L := by
      rcases o9 with ⟨rfl, h0, _⟩ | ⟨k, rfl, _⟩
      · rw [List.length_eq_zero_iff.1 h0]; rfl
      · have hne : L ≠ [] := fun e => by have := hLn e; simp at this
        unfold outO evsO
        rw [if_neg hne]
    rw [ho] at hcl
    exact hcl
  | inl q =>
    obtain ⟨l, a'⟩ := q
    rw [hr] at hR
    simp only at hR
    obtain ⟨a1, rest, q1, q2, q3, q4, _, q6, rfl⟩ := readL_inv hr
    have q1' : a1 = a := by omega
    subst q1'
    have hp := frame_pos l
    have hge := frame_ge l
    have hle := drop_le q6 q2
    have gr : runPure cfg (evFn cfg fuel) 38 [v, .i .i64 (a1 : Int)] = some (.tup ([] ++ PV.osl 5 l.length (evsC l) :: [.i .i64 ((a1 + (frameL l).length : Nat) : Int), .i .i64 0])) := by
      rw [runPure_ext hx2]
      unfold gRead
      simp only [hv]
      rw [if_pos (by omega)]
      unfold readV
      rw [hr]
      rfl
    simp (disch := first | omega | rfl | assumption) only [↓Z0, ↓Xp, ↓Xt, Xq, Xc, binP, ofCells, Nat.reduceAdd, Nat.reduceMul, Nat.reduceLT, Nat.reduceEqDiff, reduceIte, Xa, Xn, g0, g6, g7, g9]
    refine WV_callT (hdv _ _) gr (OutV.osl _ _ _) rfl rfl (clO_evs l) (evsC_len l) (by first | omega | (simp only [Z0L_, Z0M_, Nat.add_assoc, Nat.reduceAdd]; omega) | (simp only; omega)) ?_
    intro v' st1 o1 k1 c1 f1
    simp only at c1
    have hoc := fun n => (show Own ⟨st1.sto, st1.cnt + n⟩ 5 v' l.length (evsC l) from o1.move (by simp only; omega) (fun _ _ _ => rfl)).cells
    have h1e := ev_one l
    simp (disch := first | omega | rfl | assumption) only [↓Z0, ↓Xp, ↓Xt, Xq, Xc, binP, ofCells, Nat.reduceAdd, Nat.reduceMul, Nat.reduceLT, Nat.reduceEqDiff, reduceIte, Xm, Nat.reduceLeDiff, Xa, Xn, g0, g6, g7, g9, List.nil_append, hoc, h1e]
    have hwl : ∀ j, j ∈ keyOf w → j < c := fun j hj => o9.lt j hj
    have hkk : c + 16 = c + 16 := rfl
    refine WV_appO (o9.move (by simp only; omega) ?_) (by first | omega | (simp only [Z0L_, Z0M_, Nat.add_assoc, Nat.reduceAdd]; omega) | (simp only; omega)) ?_ (evsC_len l) (by decide) (by unfold maxBytes; omega) ?_
    · intro j hj hc
      simp only at hc
      show st1.get j = _
      rw [f1 j (by omega)]; rfl
    · intro h
      have := hwl _ h
      omega
    intro v2 st2 o2 c2 _ _
    refine ⟨b.length - (a1 + (frameL l).length), by omega, a1 + (frameL l).length, L ++ l, v2, hle, rfl, ?_, ?_, ?_, rfl, rfl, ?_⟩
    · rw [← framesL_more b b.length (b.length + 1) _ _ (by omega) (by omega) hle]; exact hR
    · rw [List.length_append]; omega
    · intro h
      have := congrArg List.length h
      rw [List.length_append, List.length_nil] at this
      omega
    · rw [List.length_append, evsC_append]; exact o2
end Go.Pe
