/-
 Trees: names, expressions, statements, objects, each by itself, by the interpreter of plain data. No condition.
-/
import Derived.Test.YtgnmmphmkoaicaaGreatDoorZWordsQ
import Derived.Test.YtgnmmphmkoaicaaGreatDoorZShelf
import Derived.Test.YtgnmmphmkoaicaaGreatDoorZPrgA
import Derived.Test.YtgnmmphmkoaicaaGreatDoorZPeB
set_option linter.unusedVariables false
set_option linter.unusedSimpArgs false
open Nat (reduceAdd reduceMul reduceLT reduceEqDiff reduceLeDiff)
namespace Go.Pe
open Go Go.Am Go.RowKit

theorem Ngy {Gl : Gmap} {m : Int} (hg : Gl 0 0 = some (.int .i64 m)) : CfgOK Go.Proofs.Tryz.prog Gl cfgW := by
 refine NeH NeZ ?_
 intro f g h
 unfold Npb at h
 split at h
 ·rename_i e; simp only [Sj] at h; subst h; subst e
  exact NfY hg fun s sub m w hs hm => Go.Proofs.Tryz.strings_Contains s sub m w hs hm
 ·split at h
  ·rename_i e; simp only [Sj] at h; subst h; subst e
   exact Nji fun s c w => Go.Proofs.Tryz.strings_Count_one s c w
  ·split at h
   ·rename_i e; simp only [Sj] at h; subst h; subst e
    exact Nfo fun s c w => Go.Proofs.Tryz.strings_IndexByte s c w
   ·simp at h
def Nk5 : FuncId → Option (List PV → Option PV) := fun f => if f = 52 then some gNext else none
theorem Njs {Gl : Gmap} {m : Int} (hg : Gl 0 0 = some (.int .i64 m)) : ∀ f g, Nk5 f = some g → Nbo Go.Proofs.Tryz.prog Gl f g := by
 intro f g h
 unfold Nk5 at h
 split at h
 ·rename_i e; simp only [Sj] at h; subst h; subst e
  exact Nfx (Ngy hg)
 ·cases h
noncomputable def cfgNx : Cfg := { fn := fun f => NcA f tblL, ext := Nk5 }
theorem Njc {Gl : Gmap} {m : Int} (hg : Gl 0 0 = some (.int .i64 m)) : CfgOK Go.Proofs.Tryz.prog Gl cfgNx := NeH NeZ (Njs hg)
theorem Nge {w : World} (h : w.ShapedOpen Go.Proofs.Tryz.prog) : ∃ m, w.cell? ⟨0, 0, none⟩ = some (.int .i64 m) := Go.Proofs.Tryz.laysM144.s1_3 w h
end Go.Pe
set_option maxHeartbeats 4000000
namespace Go.Pe
open Go Go.Am Go.RowKit

structure CfgC (cfg : Cfg) : Prop where
 nx : cfg.ext 52 = some gNext
 fn : ∀ f m, NcA f tblL = some m → cfg.fn f = some m
theorem Naq {cfg : Cfg} {f : FuncId} (hx : cfg.ext f = none) {fuel : Nat} {args : List PV} {r : PV} (ho : NaC args = (args, { sto := .leaf, cnt := 1 })) (hc : ∀ st, Na2 st r = some r) (h : ∃ r' st', Nay cfg fuel f args { sto := .leaf, cnt := 1 } = some (r', st') ∧ r' = r) : Naj cfg (Nay cfg fuel) f args = some r := by
 obtain ⟨r', st', h1, h2⟩ := h
 exact Nh0 hx ho ⟨r', st', h1, by rw [h2]; exact hc st'⟩
theorem Nio (text : List UInt8) (at0 : Int) : ∃ k s n l a e f g, gNext [.s text, .i .i64 at0] = some (.tup [.agg [.i .u8 k, .s s, .i .i64 n, .i .i64 l, .i .i64 a, .i .i64 e], .agg [.i .i64 f, .i .i64 g]]) := by
 have hw : ∀ k s n l a e, ∃ k' s' n' l' a' e' f g, some (Nee k s n l a e) = some (.tup [.agg [.i .u8 k', .s s', .i .i64 n', .i .i64 l', .i .i64 a', .i .i64 e'], .agg [.i .i64 f, .i .i64 g]]) := fun k s n l a e => ⟨k, s, n, l, a, e, 0, 0, rfl⟩
 have hf : ∀ x y, ∃ k' s' n' l' a' e' f g, some (NbH x y) = some (.tup [.agg [.i .u8 k', .s s', .i .i64 n', .i .i64 l', .i .i64 a', .i .i64 e'], .agg [.i .i64 f, .i .i64 g]]) := fun x y => ⟨0, [], 0, 0, 0, 0, x, y, rfl⟩
 unfold gNext Ndh
 simp only []
 repeat' split
 all_goals first | exact hw _ _ _ _ _ _ | exact hf _ _
theorem NiZ {cfg : Cfg} {callE : CallE} {n : Nat} {a b : MCode} {x : Now} {Q : MExit → Now → Prop} (h : ∀ K : Now → Prop, (∀ x', WC cfg callE n b x' Q → K x') → WC cfg callE n a x (Ngq Q K)) : WC cfg callE n (.seq a b) x Q := by
 rw [Z0]
 exact h _ fun _ h => h
def Nby (s : List UInt8) : Bool := match gNext [.s s, .i .i64 ((0 : Nat) : Int)] with
 | some (.tup [.agg [.i _ k, _, _, _, .i _ p, .i _ e], .agg [.i _ f, _]]) => f == 0 && (k == 2 && (IntKind.i64.wrap (e - p) == (s.length : Int)))
 | _ => false
theorem NlC {cfg : Cfg} (hf : cfg.fn 61 = some m61) (hn : cfg.ext 52 = some gNext) {fuel : Nat} {s : List UInt8} {st : St} :
 ∃ r st', Nay cfg (fuel + 1) 61 [.s s] st = some (r, st') ∧ r = .b (Nby s) := by
 refine Nau hf ?_
 delta m61 Qa Qr Qg Ql Qt Qn Qs Qk Qm Qh
 obtain ⟨k, t, n, l, p, e, f, g, hg⟩ := Nio s ((0 : Nat) : Int)
 have hN : Nby s = (f == 0 && (k == 2 && (IntKind.i64.wrap (e - p) == (s.length : Int)))) := by
  unfold Nby
  rw [hg]
 rw [hN]
 have hc : ∀ (st : St) (key : Nat), Nal (Naj cfg (Nay cfg fuel) 52) false st key [.s s, .i .i64 ((0 : Nat) : Int)] = some (.tup [.agg [.i .u8 k, .s t, .i .i64 n, .i .i64 l, .i .i64 p, .i .i64 e], .agg [.i .i64 f, .i .i64 g]], st) := fun st key =>
  Naw rfl (by rw [Na7 hn]; exact hg) rfl
 by_cases h1 : f = 0
 ·subst h1
  by_cases h2 : k = 2
  ·subst h2
   obtain ⟨q, hq⟩ : ∃ q, IntKind.i64.wrap (e - p) = q := ⟨_, rfl⟩
   rw [hq]
   simp (disch := first | omega | rfl | assumption) only [Nak, ↓Z0, ↓Xp, ↓Xt, Xq, Xc, Nae, Naa, reduceAdd, reduceMul, reduceLT, reduceEqDiff, reduceIte, Xm, reduceLeDiff, Xa, Xn, unP, Nab, Nac, Nad, hc, hq]
   refine ⟨nofun, _, rfl, ?_⟩
   simp only [Nas, ↓Z0, ↓Xp, ↓Xt, Xq, Xc, Nae, Naa, reduceAdd, reduceMul, reduceLT, reduceEqDiff, reduceIte]
  ·simp (disch := first | omega | rfl | assumption) only [Nak, ↓Z0, ↓Xp, ↓Xt, Xq, Xc, Nae, Naa, reduceAdd, reduceMul, reduceLT, reduceEqDiff, reduceIte, Xm, reduceLeDiff, Xa, Xn, unP, Nab, Nac, Nad, hc]
   refine ⟨nofun, _, rfl, ?_⟩
   simp only [Nas, ↓Z0, ↓Xp, ↓Xt, Xq, Xc, Nae, Naa, reduceAdd, reduceMul, reduceLT, reduceEqDiff, reduceIte]
   rfl
 ·simp (disch := first | omega | rfl | assumption) only [Nak, ↓Z0, ↓Xp, ↓Xt, Xq, Xc, Nae, Naa, reduceAdd, reduceMul, reduceLT, reduceEqDiff, reduceIte, Xm, reduceLeDiff, Xa, Xn, unP, Nab, Nac, Nad, hc]
  refine ⟨nofun, _, rfl, ?_⟩
  simp only [Nas, ↓Z0, ↓Xp, ↓Xt, Xq, Xc, Nae, Naa, reduceAdd, reduceMul, reduceLT, reduceEqDiff, reduceIte]
  rfl
theorem Ndr {cfg : Cfg} (hc : CfgC cfg) (hx : cfg.ext 61 = none) {fuel : Nat} (hfu : 1 ≤ fuel) (s : List UInt8) : Naj cfg (Nay cfg fuel) 61 [.s s] = some (.b (Nby s)) := by
 obtain ⟨n, rfl⟩ : ∃ n, fuel = n + 1 := ⟨fuel - 1, by omega⟩
 exact Naq hx rfl (fun _ => rfl) (NlC (hc.fn _ _ (by kernel_rfl)) hc.nx)
def argsN (o : Nat) : Nat := if o = 4 ∨ o = 17 ∨ o = 20 ∨ o = 23 then 1 else 0
def Nhn (o : Nat) : Bool := o == 3 || o == 4 || o == 11 || o == 21 || o == 22
def Nff (k : Nat) : Bool := k == 3 || k == 5 || k == 8 || k == 9
def ofN (o : Nat) : Nat := if o ≤ 4 then 1 else if o ≤ 8 then 2 else if o ≤ 11 then 3 else if o ≤ 14 then 4 else if o = 15 then 5 else if o = 16 then 6 else if o ≤ 19 then 7 else if o ≤ 21 then 8 else 9
theorem NkL {cfg : Cfg} (hf : cfg.fn 117 = some m117) {fuel o : Nat} {st : St} :
 ∃ r st', Nay cfg (fuel + 1) 117 [.i .u8 (o : Int)] st = some (r, st') ∧ r = .i .i64 (argsN o : Int) := by
 refine Nau hf ?_
 delta m117 Ql Qt Qk Qm argsN
 by_cases h1 : o = 4 <;> by_cases h2 : o = 17 <;> by_cases h3 : o = 20 <;> by_cases h4 : o = 23 <;> first | omega | skip
 all_goals
  simp (disch := first | omega | rfl | assumption) only [Nak, ↓Z0, ↓Xp, ↓Xt, Xq, Xc, Nae, Naa, reduceAdd, reduceMul, reduceLT, reduceEqDiff, reduceIte, Xm, reduceLeDiff, Xa, Xn, unP, Nab, Nac, Nad]
  refine ⟨nofun, _, rfl, ?_⟩
  simp only [Nas, ↓Z0, ↓Xp, ↓Xt, Xq, Xc, Nae, Naa, reduceAdd, reduceMul, reduceLT, reduceEqDiff, reduceIte]
  simp [h1, h2, h3, h4]
theorem Nlo {cfg : Cfg} (hf : cfg.fn 118 = some m118) {fuel o : Nat} {st : St} :
 ∃ r st', Nay cfg (fuel + 1) 118 [.i .u8 (o : Int)] st = some (r, st') ∧ r = .b (Nhn o) := by
 refine Nau hf ?_
 delta m118 Ql Qt Qm Nhn
 by_cases h1 : o = 3 <;> by_cases h2 : o = 4 <;> by_cases h3 : o = 11 <;> by_cases h4 : o = 21 <;> by_cases h5 : o = 22 <;> first | omega | skip
 all_goals
  simp (disch := first | omega | rfl | assumption) only [Nak, ↓Z0, ↓Xp, ↓Xt, Xq, Xc, Nae, Naa, reduceAdd, reduceMul, reduceLT, reduceEqDiff, reduceIte, Xm, reduceLeDiff, Xa, Xn, unP, Nab, Nac, Nad]
  refine ⟨nofun, _, rfl, ?_⟩
  simp only [Nas, ↓Z0, ↓Xp, ↓Xt, Xq, Xc, Nae, Naa, reduceAdd, reduceMul, reduceLT, reduceEqDiff, reduceIte]
  simp [h1, h2, h3, h4, h5]
theorem Njh {cfg : Cfg} (hf : cfg.fn 55 = some m55) {fuel o : Nat} {st : St} :
 ∃ r st', Nay cfg (fuel + 1) 55 [.i .u8 (o : Int)] st = some (r, st') ∧ r = .b (Nff o) := by
 refine Nau hf ?_
 delta m55 Ql Qt Qm Nff
 by_cases h1 : o = 3 <;> by_cases h2 : o = 5 <;> by_cases h3 : o = 8 <;> by_cases h4 : o = 9 <;> first | omega | skip
 all_goals
  simp (disch := first | omega | rfl | assumption) only [Nak, ↓Z0, ↓Xp, ↓Xt, Xq, Xc, Nae, Naa, reduceAdd, reduceMul, reduceLT, reduceEqDiff, reduceIte, Xm, reduceLeDiff, Xa, Xn, unP, Nab, Nac, Nad]
  refine ⟨nofun, _, rfl, ?_⟩
  simp only [Nas, ↓Z0, ↓Xp, ↓Xt, Xq, Xc, Nae, Naa, reduceAdd, reduceMul, reduceLT, reduceEqDiff, reduceIte]
  simp [h1, h2, h3, h4]
theorem Nn3 {cfg : Cfg} (hf : cfg.fn 123 = some m123) {fuel o : Nat} {st : St} :
 ∃ r st', Nay cfg (fuel + 1) 123 [.i .u8 (o : Int)] st = some (r, st') ∧ r = .i .u8 (ofN o : Int) := by
 refine Nau hf ?_
 delta m123 Qa Ql Qt Qm ofN
 by_cases h1 : o ≤ 4
 ·simp (disch := first | omega | rfl | assumption) only [Nak, ↓Z0, ↓Xp, ↓Xt, Xq, Xc, Nae, Naa, reduceAdd, reduceMul, reduceLT, reduceEqDiff, reduceIte, Xm, reduceLeDiff, Xa, Xn, unP, Nab, Nac, Nad]
  refine ⟨nofun, _, rfl, ?_⟩
  simp only [Nas, ↓Z0, ↓Xp, ↓Xt, Xq, Xc, Nae, Naa, reduceAdd, reduceMul, reduceLT, reduceEqDiff, reduceIte]
  all_goals simp [h1]
 by_cases h2 : o ≤ 8
 ·simp (disch := first | omega | rfl | assumption) only [Nak, ↓Z0, ↓Xp, ↓Xt, Xq, Xc, Nae, Naa, reduceAdd, reduceMul, reduceLT, reduceEqDiff, reduceIte, Xm, reduceLeDiff, Xa, Xn, unP, Nab, Nac, Nad]
  refine ⟨nofun, _, rfl, ?_⟩
  simp only [Nas, ↓Z0, ↓Xp, ↓Xt, Xq, Xc, Nae, Naa, reduceAdd, reduceMul, reduceLT, reduceEqDiff, reduceIte]
  all_goals simp [h1, h2]
 by_cases h3 : o ≤ 11
 ·simp (disch := first | omega | rfl | assumption) only [Nak, ↓Z0, ↓Xp, ↓Xt, Xq, Xc, Nae, Naa, reduceAdd, reduceMul, reduceLT, reduceEqDiff, reduceIte, Xm, reduceLeDiff, Xa, Xn, unP, Nab, Nac, Nad]
  refine ⟨nofun, _, rfl, ?_⟩
  simp only [Nas, ↓Z0, ↓Xp, ↓Xt, Xq, Xc, Nae, Naa, reduceAdd, reduceMul, reduceLT, reduceEqDiff, reduceIte]
  all_goals simp [h1, h2, h3]
 by_cases h4 : o ≤ 14
 ·simp (disch := first | omega | rfl | assumption) only [Nak, ↓Z0, ↓Xp, ↓Xt, Xq, Xc, Nae, Naa, reduceAdd, reduceMul, reduceLT, reduceEqDiff, reduceIte, Xm, reduceLeDiff, Xa, Xn, unP, Nab, Nac, Nad]
  refine ⟨nofun, _, rfl, ?_⟩
  simp only [Nas, ↓Z0, ↓Xp, ↓Xt, Xq, Xc, Nae, Naa, reduceAdd, reduceMul, reduceLT, reduceEqDiff, reduceIte]
  all_goals simp [h1, h2, h3, h4]
 by_cases h5 : o = 15
 ·simp (disch := first | omega | rfl | assumption) only [Nak, ↓Z0, ↓Xp, ↓Xt, Xq, Xc, Nae, Naa, reduceAdd, reduceMul, reduceLT, reduceEqDiff, reduceIte, Xm, reduceLeDiff, Xa, Xn, unP, Nab, Nac, Nad]
  refine ⟨nofun, _, rfl, ?_⟩
  simp only [Nas, ↓Z0, ↓Xp, ↓Xt, Xq, Xc, Nae, Naa, reduceAdd, reduceMul, reduceLT, reduceEqDiff, reduceIte]
  all_goals simp [h5]
 by_cases h6 : o = 16
 ·simp (disch := first | omega | rfl | assumption) only [Nak, ↓Z0, ↓Xp, ↓Xt, Xq, Xc, Nae, Naa, reduceAdd, reduceMul, reduceLT, reduceEqDiff, reduceIte, Xm, reduceLeDiff, Xa, Xn, unP, Nab, Nac, Nad]
  refine ⟨nofun, _, rfl, ?_⟩
  simp only [Nas, ↓Z0, ↓Xp, ↓Xt, Xq, Xc, Nae, Naa, reduceAdd, reduceMul, reduceLT, reduceEqDiff, reduceIte]
  all_goals simp [h6]
 by_cases h7 : o ≤ 19
 ·simp (disch := first | omega | rfl | assumption) only [Nak, ↓Z0, ↓Xp, ↓Xt, Xq, Xc, Nae, Naa, reduceAdd, reduceMul, reduceLT, reduceEqDiff, reduceIte, Xm, reduceLeDiff, Xa, Xn, unP, Nab, Nac, Nad]
  refine ⟨nofun, _, rfl, ?_⟩
  simp only [Nas, ↓Z0, ↓Xp, ↓Xt, Xq, Xc, Nae, Naa, reduceAdd, reduceMul, reduceLT, reduceEqDiff, reduceIte]
  all_goals simp [h1, h2, h3, h4, h5, h6, h7]
 by_cases h8 : o ≤ 21
 ·simp (disch := first | omega | rfl | assumption) only [Nak, ↓Z0, ↓Xp, ↓Xt, Xq, Xc, Nae, Naa, reduceAdd, reduceMul, reduceLT, reduceEqDiff, reduceIte, Xm, reduceLeDiff, Xa, Xn, unP, Nab, Nac, Nad]
  refine ⟨nofun, _, rfl, ?_⟩
  simp only [Nas, ↓Z0, ↓Xp, ↓Xt, Xq, Xc, Nae, Naa, reduceAdd, reduceMul, reduceLT, reduceEqDiff, reduceIte]
  all_goals simp [h1, h2, h3, h4, h5, h6, h7, h8]
 ·simp (disch := first | omega | rfl | assumption) only [Nak, ↓Z0, ↓Xp, ↓Xt, Xq, Xc, Nae, Naa, reduceAdd, reduceMul, reduceLT, reduceEqDiff, reduceIte, Xm, reduceLeDiff, Xa, Xn, unP, Nab, Nac, Nad]
  refine ⟨nofun, _, rfl, ?_⟩
  simp only [Nas, ↓Z0, ↓Xp, ↓Xt, Xq, Xc, Nae, Naa, reduceAdd, reduceMul, reduceLT, reduceEqDiff, reduceIte]
  all_goals simp [h1, h2, h3, h4, h5, h6, h7, h8]
def txC (l : List (List UInt8)) : List PV := l.map .s
theorem Nlv {st : St} {l : List (List UInt8)} {i : Nat} (h : i < l.length) : Na6 st 1 (.fptr ((txC l).drop i)) = some [.s l[i]] := by
 show cut? _ 0 1 = _
 unfold cut? txC
 rw [if_pos (by rw [List.length_drop, List.length_map]; omega), List.drop_zero, List.drop_eq_getElem_cons (by rw [List.length_map]; exact h), List.getElem_map]
 rfl
def NjI (x : List UInt8) : List (List UInt8) → Nat → Int
 | [], _ => -1
 | a :: r, i => if x = a then (i : Int) else NjI x r (i + 1)
theorem Nmw {cfg : Cfg} (hf : cfg.fn 54 = some m54) {fuel : Nat} {l : List (List UInt8)} {x : List UInt8} (hl : l.length ≤ 1000) (hfu : l.length + 2 ≤ fuel) {st : St} :
 ∃ r st', Nay cfg (fuel + 1) 54 [.fsl l.length (txC l), .s x] st = some (r, st') ∧ r = .i .i64 (NjI x l 0) := by
 refine Nau hf ?_
 delta m54 Qa Qr Ql Qt Qk Qm
 have hlen : (txC l).length = l.length := List.length_map _
 simp only [Nak]
 (try rw [Z0])
 (try simp (maxSteps := 2000000) (disch := first | omega | rfl | assumption) only [↓Xp, ↓Xt, Xq, Xc, Nae, Naa, reduceAdd, reduceMul, reduceLT, reduceEqDiff, reduceIte, Xa, Xn, unP, Nab, Nac, Nad, Xm, reduceLeDiff, Zan, Zao])
 refine NiZ fun K hK => ?_
 rw [Z0]
 simp (disch := first | omega | rfl | assumption) only [↓Xp, ↓Xt, Xq, Xc, Nae, Naa, reduceAdd, reduceMul, reduceLT, reduceEqDiff, reduceIte, Xa, Xn, unP, Nab, Nac, Nad, Xm, reduceLeDiff]
 refine Z9 (k := l.length - 0) (fun d y => ∃ i : Nat, d = l.length - i ∧ i ≤ l.length ∧ NjI x (l.drop i) i = NjI x l 0 ∧ y.env.get 0 = .fsl l.length (txC l) ∧ y.env.get 1 = .s x ∧ y.env.get 7 = .i .i64 (l.length : Int) ∧ y.env.get 8 = .i .i64 (i : Int)) ?_ ⟨0, rfl, by omega, rfl, rfl, rfl, rfl, rfl⟩ Zaa
 rintro d ⟨env, ⟨sto, c⟩⟩ ⟨i, rfl, hi, hx, g0, g1, g7, g8⟩
 simp only at g0 g1 g7 g8
 by_cases hlt : i < l.length
 ·have hld := fun st => Nlv (st := st) hlt
  rw [List.drop_eq_getElem_cons hlt] at hx
  rw [show NjI x (l[i] :: l.drop (i + 1)) i = if x = l[i] then (i : Int) else NjI x (l.drop (i + 1)) (i + 1) from rfl] at hx
  by_cases he : x = l[i]
  ·rw [if_pos he] at hx
   have hb : (x == l[i]) = true := by simpa using he
   simp (disch := first | omega | rfl | assumption) only [↓Z0, ↓Xp, ↓Xt, Xq, Xc, Nae, Naa, reduceAdd, reduceMul, reduceLT, reduceEqDiff, reduceIte, Xm, reduceLeDiff, Xa, Xn, unP, Nab, Nac, Nad, g0, g1, g7, g8, hld, hlen, hb]
   refine ⟨nofun, _, rfl, ?_⟩
   simp only [Nas, ↓Z0, ↓Xp, ↓Xt, Xq, Xc, Nae, Naa, reduceAdd, reduceMul, reduceLT, reduceEqDiff, reduceIte]
   rw [hx]
  ·rw [if_neg he] at hx
   have hb : (x == l[i]) = false := by simpa using he
   simp (disch := first | omega | rfl | assumption) only [↓Z0, ↓Xp, ↓Xt, Xq, Xc, Nae, Naa, reduceAdd, reduceMul, reduceLT, reduceEqDiff, reduceIte, Xm, reduceLeDiff, Xa, Xn, unP, Nab, Nac, Nad, g0, g1, g7, g8, hld, hlen, hb]
   exact ⟨l.length - (i + 1), by omega, i + 1, rfl, by omega, hx, rfl⟩
 ·simp (disch := first | omega | rfl | assumption) only [↓Z0, ↓Xp, ↓Xt, Xq, Xc, Nae, Naa, reduceAdd, reduceMul, reduceLT, reduceEqDiff, reduceIte, Xm, reduceLeDiff, Xa, Xn, unP, Nab, Nac, Nad, g0, g1, g7, g8]
  refine hK _ ?_
  rw [List.drop_of_length_le Zaa] at hx
  simp (disch := first | omega | rfl | assumption) only [↓Z0, ↓Xp, ↓Xt, Xq, Xc, Nae, Naa, reduceAdd, reduceMul, reduceLT, reduceEqDiff, reduceIte, Xm, reduceLeDiff, Xa, Xn, unP, Nab, Nac, Nad]
  refine ⟨nofun, _, rfl, ?_⟩
  simp only [Nas, ↓Z0, ↓Xp, ↓Xt, Xq, Xc, Nae, Naa, reduceAdd, reduceMul, reduceLT, reduceEqDiff, reduceIte]
  rw [← hx]; rfl
end Go.Pe
