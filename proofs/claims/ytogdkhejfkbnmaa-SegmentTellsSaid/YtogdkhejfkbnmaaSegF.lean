/-
 Segments: a segment scanned, by the interpreter of plain data. No condition.
-/
import Derived.Test.YtogdkhejfkbnmaaSegE
import Derived.Test.YtogdkhejfkbnmaaEvtAs
set_option linter.unusedVariables false
set_option linter.unusedSimpArgs false
set_option maxHeartbeats 8000000
set_option maxRecDepth 100000
namespace Go.Pe
open Go Go.Am Go.RowKit

def Nbw (b : List UInt8) : Nat → Int → List Ev → List Ev × Int
 | 0, a, acc => (acc, a)
 | f + 1, a, acc => match Nfx b a with
   | .inl (l, a') => Nbw b f a' (acc ++ l)
   | .inr _ => (acc, a)
def Nn0 (b : List UInt8) : Sum (Nat × List Ev × Int) Int :=
 if (NbM b).2.2 ≠ 0 then .inr (NbM b).2.2 else .inl ((NbM b).1, Nbw b (b.length + 1) (NbM b).2.1 [])
def Not (l : List Ev) : PV := if l = [] then .nsl else .osl 5 l.length (Nay l)
def NfK (b : List UInt8) : PV := match Nn0 b with
 | .inl (n, L, a) => .tup [.i .i64 (n : Int), Not L, .i .i64 a, .i .i64 0]
 | .inr e => .tup [.i .i64 0, .nsl, .i .i64 0, .i .i64 e]
theorem Ndq (a b : List Ev) : Nay (a ++ b) = Nay a ++ Nay b := by simp [Nay]
theorem NhD : ∀ (l : List Ev) (m : Nat), (Nay l).take (m * 5) = Nay (l.take m)
 | [], m => by simp [Nay]
 | e :: r, 0 => by simp [Nay]
 | e :: r, m + 1 => by
   have h : Nay (e :: r) = evC e ++ Nay r := rfl
   have h2 : Nay ((e :: r).take (m + 1)) = evC e ++ Nay (r.take m) := rfl
   have h5 : (evC e).length = 5 := rfl
   rw [h, h2, show (m + 1) * 5 = (evC e).length + m * 5 by rw [h5]; omega, List.take_length_add_append, NhD r m]
theorem Nd4 : ∀ (l : List Ev) (m : Nat), (Nay l).drop (m * 5) = Nay (l.drop m)
 | [], m => by simp [Nay]
 | e :: r, 0 => by simp
 | e :: r, m + 1 => by
   have h : Nay (e :: r) = evC e ++ Nay r := rfl
   have h5 : (evC e).length = 5 := rfl
   rw [h, show (m + 1) * 5 = (evC e).length + m * 5 by rw [h5]; omega, List.drop_length_add_append, Nd4 r m]
   rfl
theorem Nq9 (l : List Ev) : ∀ X, 5 * l.length ≤ (pts X l).length := by
 induction l with
 | nil => intro X; simp
 | cons e r ih =>
   intro X
   have h1 := ih e
   have h2 := NrO X e
   show 5 * (r.length + 1) ≤ (pt X e ++ pts e r).length
   rw [List.length_append]; omega
theorem Njs (l : List Ev) : l.length ≤ (Ncw l).length := by
 have h1 := Nq9 l .zero
 have hb : Nht l = Nah l.length ++ pts .zero l := Nhh l _ _
 rw [Nea, hb, List.length_append]; omega
theorem Nfa (l : List Ev) : 0 < (Ncw l).length := by
 rw [Nea]; omega
theorem NcX (b : List UInt8) : ∀ (f g : Nat) (a : Nat) (acc : List Ev), b.length < f + a → f ≤ g → a ≤ b.length → Nbw b f a acc = Nbw b g a acc
 | 0, g, a, acc, h, _, ha => by omega
 | f + 1, g, a, acc, h, hg, ha => by
   obtain ⟨g, rfl⟩ : ∃ n, g = n + 1 := ⟨g - 1, by omega⟩
   unfold Nbw
   cases hr : Nfx b (a : Int) with
   | inr e => rfl
   | inl p =>
     obtain ⟨l, a'⟩ := p
     obtain ⟨a0, rest, h1, h2, _, _, _, h6, rfl⟩ := NdJ hr
     have h1' : a0 = a := by omega
     subst h1'
     have hp := Nfa l
     exact NcX b f g _ _ (by omega) (by omega) (Ne6 h6 h2)
theorem NpR {cfg : Cfg} (hf : cfg.fn 15 = some m15) (hx1 : cfg.ext 37 = some Nmb) (hx2 : cfg.ext 38 = some NjZ) {v : PV} {b : List UInt8} (hv : inL v = some b) (hb : b.length ≤ 1000000000000) {fuel : Nat} (hfu : b.length + 5 ≤ fuel) :
 ∃ r st', NaB cfg (fuel + 1) 15 [v] { sto := .leaf, cnt := 1 } = some (r, st') ∧ Naq st' r = some (NfK b) := by
 refine Naw hf ?_
 unfold m15
 have ch : ∀ (st : St) (key : Nat), Naf (Nag cfg (NaB cfg fuel) 37) false st key [v] = some (.tup [.i .i64 ((NbM b).1 : Int), .i .i64 (NbM b).2.1, .i .i64 (NbM b).2.2], st) := by
  intro st key
  refine Nap (by simp only [List.all_cons, Na3 hv, List.all_nil, Bool.and_self]) ?_ rfl
  rw [Nad hx1]
  unfold Nmb
  simp only [hv]
  rw [if_pos (by omega)]
  rfl
 have hdv : ∀ st a, NaU st [v, .i .i64 a] = some [v, .i .i64 a] := fun st a => NaA (by simp only [List.all_cons, Na3 hv, List.all_nil, Bool.and_self, Bool.true_and]; rfl)
 unfold NfK Nn0
 have hhead := @Njp b
 generalize NbM b = H at ch hhead ⊢
 obtain ⟨n, a0, e⟩ := H
 simp only at ch hhead ⊢
 by_cases h1 : e ≠ 0
 ·rw [if_pos h1]
  simp (disch := first | omega | rfl | assumption) only [Nae, ↓Z0, ↓Xp, ↓Xt, Xq, Xc, Nac, Naa, Nat.reduceAdd, Nat.reduceMul, Nat.reduceLT, Nat.reduceEqDiff, reduceIte, Xm, Nat.reduceLeDiff, Xa, Xn, ch]
  refine ⟨nofun, _, rfl, ?_⟩
  simp only [Naz, ↓Z0, ↓Xp, ↓Xt, Xq, Xc, Nac, Naa, Nat.reduceAdd, Nat.reduceMul, Nat.reduceLT, Nat.reduceEqDiff, reduceIte]
  exact Nal rfl
 rw [if_neg h1]
 have h1' : e = 0 := by simpa using h1
 obtain ⟨p, rfl, hpb⟩ := hhead h1'
 simp only
 refine Za (fun x => x.env.get 0 = v) ?_ ?_
 ·simp (disch := first | omega | rfl | assumption) only [↓Z0, ↓Xp, ↓Xt, Xq, Xc, Nac, Naa, Nat.reduceAdd, Nat.reduceMul, Nat.reduceLT, Nat.reduceEqDiff, reduceIte, Xm, Nat.reduceLeDiff, Xa, Xn, Nae]
  (repeat' (first | exact True.intro | rfl | assumption | omega | apply And.intro | exact St.get_putk _ _ _ | refine ⟨_, rfl, ?_⟩))
 rintro ⟨env, ⟨sto, c⟩⟩ g0
 simp only at g0
 refine Za (fun x => x.env.get 0 = v ∧ x.env.get 6 = .i .i64 (n : Int) ∧ x.env.get 7 = .i .i64 (p : Int) ∧ x.env.get 8 = .i .i64 e) ?_ ?_
 ·simp (disch := first | omega | rfl | assumption) only [↓Z0, ↓Xp, ↓Xt, Xq, Xc, Nac, Naa, Nat.reduceAdd, Nat.reduceMul, Nat.reduceLT, Nat.reduceEqDiff, reduceIte, Xm, Nat.reduceLeDiff, Xa, Xn, g0, ch]
  (repeat' (first | exact True.intro | rfl | assumption | omega | apply And.intro | exact St.get_putk _ _ _ | refine ⟨_, rfl, ?_⟩))
 clear g0
 rintro ⟨env, ⟨sto, c⟩⟩ ⟨g0, g6, g7, g8⟩
 simp only at g0 g6 g7 g8
 refine Za (fun x => x.env.get 0 = v ∧ x.env.get 6 = .i .i64 (n : Int) ∧ x.env.get 7 = .i .i64 (p : Int)) ?_ ?_
 ·simp (disch := first | omega | rfl | assumption) only [↓Z0, ↓Xp, ↓Xt, Xq, Xc, Nac, Naa, Nat.reduceAdd, Nat.reduceMul, Nat.reduceLT, Nat.reduceEqDiff, reduceIte, Xm, Nat.reduceLeDiff, Xa, Xn, g0, g6, g7, g8]
  (repeat' (first | exact True.intro | rfl | assumption | omega | apply And.intro | exact St.get_putk _ _ _ | refine ⟨_, rfl, ?_⟩))
 clear g0 g6 g7 g8
 rintro ⟨env, ⟨sto, c⟩⟩ ⟨g0, g6, g7⟩
 simp only at g0 g6 g7
 refine Za (fun x => x.env.get 0 = v ∧ x.env.get 6 = .i .i64 (n : Int) ∧ x.env.get 7 = .i .i64 (p : Int) ∧ x.env.get 9 = .nsl) ?_ ?_
 ·simp (disch := first | omega | rfl | assumption) only [↓Z0, ↓Xp, ↓Xt, Xq, Xc, Nac, Naa, Nat.reduceAdd, Nat.reduceMul, Nat.reduceLT, Nat.reduceEqDiff, reduceIte, Xm, Nat.reduceLeDiff, Xa, Xn, g0, g6, g7]
  (repeat' (first | exact True.intro | rfl | assumption | omega | apply And.intro | exact St.get_putk _ _ _ | refine ⟨_, rfl, ?_⟩))
 clear g0 g6 g7
 rintro ⟨env, ⟨sto, c⟩⟩ ⟨g0, g6, g7, g9⟩
 simp only at g0 g6 g7 g9
 obtain ⟨RES, hRES⟩ : ∃ R, Nbw b (b.length + 1) (p : Int) [] = R := ⟨_, rfl⟩
 rw [hRES]
 rw [Z2]
 refine Z9 (k := b.length - p) (fun d x => ∃ (a : Nat) (L : List Ev) (w : PV), a ≤ b.length ∧ d = b.length - a ∧ Nbw b (b.length + 1) (a : Int) L = RES ∧ L.length ≤ a ∧ (L = [] → w = .nsl) ∧ x.env.get 0 = v ∧ x.env.get 6 = .i .i64 (n : Int) ∧ x.env.get 7 = .i .i64 (a : Int) ∧ x.env.get 9 = w ∧ Own x.st 5 w L.length (Nay L)) ?_ ⟨p, [], .nsl, hpb, rfl, hRES, by simp, fun _ => rfl, g0, g6, g7, g9, Own.nil _ _⟩ (by omega)
 clear g0 g6 g7 g9
 rintro d ⟨env, ⟨sto, c⟩⟩ ⟨a, L, w, ha, rfl, hR, hLl, hLn, g0, g6, g7, g9, o9⟩
 simp only at g0 g6 g7 g9
 rw [show Nbw b (b.length + 1) (a : Int) L = _ from rfl] at hR
 unfold Nbw at hR
 cases hr : Nfx b (a : Int) with
 | inr e2 =>
   rw [hr] at hR
   simp only at hR
   have he2 := Nhm hr
   have cr : ∀ (st : St) (key : Nat), Naf (Nag cfg (NaB cfg fuel) 38) false st key [v, .i .i64 (a : Int)] = some (.tup [.nsl, .i .i64 0, .i .i64 e2], st) := by
    intro st key
    refine Nas (r := .tup [.nsl, .i .i64 0, .i .i64 e2]) (hdv st _) ?_ rfl
    rw [Nad hx2]
    unfold NjZ
    simp only [hv]
    rw [if_pos (by omega)]
    unfold NfD
    rw [hr]
   simp (disch := first | omega | rfl | assumption) only [↓Z0, ↓Xp, ↓Xt, Xq, Xc, Nac, Naa, Nat.reduceAdd, Nat.reduceMul, Nat.reduceLT, Nat.reduceEqDiff, reduceIte, Xm, Nat.reduceLeDiff, Xa, Xn, g0, g6, g7, g9, cr]
   refine ⟨nofun, _, rfl, ?_⟩
   simp only [Naz, ↓Z0, ↓Xp, ↓Xt, Xq, Xc, Nac, Naa, Nat.reduceAdd, Nat.reduceMul, Nat.reduceLT, Nat.reduceEqDiff, reduceIte]
   subst hR
   have hcl := Nbj (st := ⟨sto, c + 152⟩) (pre := [.i .i64 (n : Int)]) (post := [.i .i64 (a : Int), .i .i64 0]) (o9.cnt (by omega)) rfl rfl (NbQ L) (by decide)
   have ho : NrE w 5 L.length (Nay L) = Not L := by
    rcases o9 with ⟨rfl, h0, _⟩ | ⟨k, rfl, _⟩
    ·rw [List.length_eq_zero_iff.1 h0]; rfl
    ·have hne : L ≠ [] := fun e => by have := hLn e; simp at this
     unfold NrE Not
     rw [if_neg hne]
   rw [ho] at hcl
   exact hcl
 | inl q =>
   obtain ⟨l, a'⟩ := q
   rw [hr] at hR
   simp only at hR
   obtain ⟨a1, rest, q1, q2, q3, q4, _, q6, rfl⟩ := NdJ hr
   have q1' : a1 = a := by omega
   subst q1'
   have hp := Nfa l
   have hge := Njs l
   have hle := Ne6 q6 q2
   have gr : Nag cfg (NaB cfg fuel) 38 [v, .i .i64 (a1 : Int)] = some (.tup ([] ++ PV.osl 5 l.length (Nay l) :: [.i .i64 ((a1 + (Ncw l).length : Nat) : Int), .i .i64 0])) := by
    rw [Nad hx2]
    unfold NjZ
    simp only [hv]
    rw [if_pos (by omega)]
    unfold NfD
    rw [hr]
    rfl
   simp (disch := first | omega | rfl | assumption) only [↓Z0, ↓Xp, ↓Xt, Xq, Xc, Nac, Naa, Nat.reduceAdd, Nat.reduceMul, Nat.reduceLT, Nat.reduceEqDiff, reduceIte, Xa, Xn, g0, g6, g7, g9]
   refine Nbs (hdv _ _) gr (OutV.osl _ _ _) rfl rfl (NbQ l) (NaI l) (by first | omega | (simp only [Z0L_, Nb2, Nat.add_assoc, Nat.reduceAdd]; omega) | (simp only; omega)) ?_
   intro v' st1 o1 k1 c1 f1
   simp only at c1
   have hoc := fun n => (show Own ⟨st1.sto, st1.cnt + n⟩ 5 v' l.length (Nay l) from o1.move (by simp only; omega) (fun _ _ _ => rfl)).cells
   have h1e := NjS l
   simp (disch := first | omega | rfl | assumption) only [↓Z0, ↓Xp, ↓Xt, Xq, Xc, Nac, Naa, Nat.reduceAdd, Nat.reduceMul, Nat.reduceLT, Nat.reduceEqDiff, reduceIte, Xm, Nat.reduceLeDiff, Xa, Xn, g0, g6, g7, g9, List.nil_append, hoc, h1e]
   have hwl : ∀ j, j ∈ keyOf w → j < c := fun j hj => o9.lt j hj
   have hkk : c + 16 = c + 16 := rfl
   refine NcO (o9.move (by simp only; omega) ?_) (by first | omega | (simp only [Z0L_, Nb2, Nat.add_assoc, Nat.reduceAdd]; omega) | (simp only; omega)) ?_ (NaI l) (by decide) (by unfold maxBytes; omega) ?_
   ·intro j hj hc
    simp only at hc
    show st1.get j = _
    rw [f1 j (by omega)]; rfl
   ·intro h
    have := hwl _ h
    omega
   intro v2 st2 o2 c2 _ _
   refine ⟨b.length - (a1 + (Ncw l).length), by omega, a1 + (Ncw l).length, L ++ l, v2, hle, rfl, ?_, ?_, ?_, rfl, rfl, ?_⟩
   ·rw [← NcX b b.length (b.length + 1) _ _ (by omega) (by omega) hle]; exact hR
   ·rw [List.length_append]; omega
   ·intro h
    have := congrArg List.length h
    rw [List.length_append, List.length_nil] at this
    omega
   ·rw [List.length_append, Ndq]; exact o2
end Go.Pe
