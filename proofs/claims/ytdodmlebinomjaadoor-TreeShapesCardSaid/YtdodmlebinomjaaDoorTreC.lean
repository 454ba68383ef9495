/-
 Tree: a text among texts, a line's end again and again: told. No condition.
-/
import Derived.Test.YtdodmlebinomjaaDoorTreA
import Derived.Test.YtdodmlebinomjaaDoorPe9
set_option linter.unusedVariables false
set_option linter.unusedSimpArgs false
set_option maxHeartbeats 4000000
set_option maxRecDepth 100000
namespace Go.Pe
open Go Go.Am Go.RowKit

theorem Nik {cfg : Cfg} {callE : CallE} {n : Nat} {a b : MCode} {x : Now} {Q : MExit → Now → Prop} (h : ∀ K : Now → Prop, (∀ x', WC cfg callE n b x' Q → K x') → WC cfg callE n a x (Ne7 Q K)) : WC cfg callE n (.seq a b) x Q := by
 rw [Z0]
 exact h _ fun _ h => h
def txC (l : List (List UInt8)) : List PV := l.map .s
theorem NnR {st : St} {l : List (List UInt8)} {i : Nat} (h : i < l.length) : NaY st 1 (.fptr ((txC l).drop i)) = some [.s l[i]] := by
 show cut? _ 0 1 = _
 unfold cut? txC
 rw [if_pos (by rw [List.length_drop, List.length_map]; omega), List.drop_zero, List.drop_eq_getElem_cons (by rw [List.length_map]; exact h), List.getElem_map]
 rfl
def NnJ (x : List UInt8) : List (List UInt8) → Nat → Int
 | [], _ => -1
 | a :: r, i => if x = a then (i : Int) else NnJ x r (i + 1)
theorem Nqp {cfg : Cfg} (hf : cfg.fn 42 = some m42) {fuel : Nat} {l : List (List UInt8)} {x : List UInt8} (hl : l.length ≤ 1000) (hfu : l.length + 2 ≤ fuel) {st : St} :
 ∃ r st', Nba cfg (fuel + 1) 42 [.fsl l.length (txC l), .s x] st = some (r, st') ∧ r = .i .i64 (NnJ x l 0) := by
 refine NbP hf ?_
 unfold m42
 have hlen : (txC l).length = l.length := List.length_map _
 simp only [Nau]
 (try rw [Z0])
 (try simp (maxSteps := 2000000) (disch := first | omega | rfl | assumption) only [↓Xp, ↓Xt, Xq, Xc, Nai, Naa, Nat.reduceAdd, Nat.reduceMul, Nat.reduceLT, Nat.reduceEqDiff, reduceIte, Xa, Xn, unP, Naz, NaA, NaB, Xm, Nat.reduceLeDiff, List.nil_append, List.cons_append])
 refine Nik fun K hK => ?_
 rw [Z0]
 simp (disch := first | omega | rfl | assumption) only [↓Xp, ↓Xt, Xq, Xc, Nai, Naa, Nat.reduceAdd, Nat.reduceMul, Nat.reduceLT, Nat.reduceEqDiff, reduceIte, Xa, Xn, unP, Naz, NaA, NaB, Xm, Nat.reduceLeDiff]
 refine Z9 (k := l.length - 0) (fun d y => ∃ i : Nat, d = l.length - i ∧ i ≤ l.length ∧ NnJ x (l.drop i) i = NnJ x l 0 ∧ y.env.get 0 = .fsl l.length (txC l) ∧ y.env.get 1 = .s x ∧ y.env.get 7 = .i .i64 (l.length : Int) ∧ y.env.get 8 = .i .i64 (i : Int)) ?_ ⟨0, rfl, by omega, rfl, rfl, rfl, rfl, rfl⟩ (by omega)
 rintro d ⟨env, ⟨sto, c⟩⟩ ⟨i, rfl, hi, hx, g0, g1, g7, g8⟩
 simp only at g0 g1 g7 g8
 by_cases hlt : i < l.length
 ·have hld := fun st => NnR (st := st) hlt
  rw [List.drop_eq_getElem_cons hlt] at hx
  rw [show NnJ x (l[i] :: l.drop (i + 1)) i = if x = l[i] then (i : Int) else NnJ x (l.drop (i + 1)) (i + 1) from rfl] at hx
  by_cases he : x = l[i]
  ·rw [if_pos he] at hx
   have hb : (x == l[i]) = true := by simpa using he
   simp (disch := first | omega | rfl | assumption) only [↓Z0, ↓Xp, ↓Xt, Xq, Xc, Nai, Naa, Nat.reduceAdd, Nat.reduceMul, Nat.reduceLT, Nat.reduceEqDiff, reduceIte, Xm, Nat.reduceLeDiff, Xa, Xn, unP, Naz, NaA, NaB, g0, g1, g7, g8, hld, hlen, hb]
   refine ⟨nofun, _, rfl, ?_⟩
   simp only [Ndt, ↓Z0, ↓Xp, ↓Xt, Xq, Xc, Nai, Naa, Nat.reduceAdd, Nat.reduceMul, Nat.reduceLT, Nat.reduceEqDiff, reduceIte]
   rw [hx]
  ·rw [if_neg he] at hx
   have hb : (x == l[i]) = false := by simpa using he
   simp (disch := first | omega | rfl | assumption) only [↓Z0, ↓Xp, ↓Xt, Xq, Xc, Nai, Naa, Nat.reduceAdd, Nat.reduceMul, Nat.reduceLT, Nat.reduceEqDiff, reduceIte, Xm, Nat.reduceLeDiff, Xa, Xn, unP, Naz, NaA, NaB, g0, g1, g7, g8, hld, hlen, hb]
   exact ⟨l.length - (i + 1), by omega, i + 1, rfl, by omega, hx, rfl⟩
 ·simp (disch := first | omega | rfl | assumption) only [↓Z0, ↓Xp, ↓Xt, Xq, Xc, Nai, Naa, Nat.reduceAdd, Nat.reduceMul, Nat.reduceLT, Nat.reduceEqDiff, reduceIte, Xm, Nat.reduceLeDiff, Xa, Xn, unP, Naz, NaA, NaB, g0, g1, g7, g8]
  refine hK _ ?_
  rw [List.drop_of_length_le (by omega)] at hx
  simp (disch := first | omega | rfl | assumption) only [↓Z0, ↓Xp, ↓Xt, Xq, Xc, Nai, Naa, Nat.reduceAdd, Nat.reduceMul, Nat.reduceLT, Nat.reduceEqDiff, reduceIte, Xm, Nat.reduceLeDiff, Xa, Xn, unP, Naz, NaA, NaB]
  refine ⟨nofun, _, rfl, ?_⟩
  simp only [Ndt, ↓Z0, ↓Xp, ↓Xt, Xq, Xc, Nai, Naa, Nat.reduceAdd, Nat.reduceMul, Nat.reduceLT, Nat.reduceEqDiff, reduceIte]
  rw [← hx]; rfl
def Nic : List PV → Option (List (List UInt8))
 | [] => some []
 | .s l :: r => match Nic r with
   | some x => some (l :: x)
   | none => none
 | _ => none
theorem NeJ : ∀ {cs : List PV} {l : List (List UInt8)}, Nic cs = some l → cs = txC l
 | [], l, h => by simp only [Nic, Sj] at h; subst h; rfl
 | .s a :: r, l, h => by
   simp only [Nic] at h
   split at h
   ·rename_i x hx
    simp only [Sj] at h
    subst h
    rw [NeJ hx]; rfl
   ·cases h
def NrE : List PV → Option PV
 | [.fsl n cs, .s x] => match Nic cs with
   | some l => if n = l.length ∧ l.length ≤ 1000 then some (.i .i64 (NnJ x l 0)) else none
   | none => none
 | _ => none
theorem Nqn : cfgNx.ext 42 = none := by kernel_rfl
theorem NiL (args : List PV) (r : PV) (h : NrE args = some r) : ∃ fuel, evP cfgNx fuel 42 args = some r := by
 unfold NrE at h
 split at h
 ·rename_i n cs x
  split at h
  ·rename_i l hl
   split at h
   ·rename_i hc
    obtain ⟨rfl, hc⟩ := hc
    simp only [Sj] at h
    subst h
    have := NeJ hl
    subst this
    exact ⟨l.length + 2 + 1, Nfo Nqn rfl (fun _ => rfl) (Nqp (by kernel_rfl) hc (Nat.le_refl _))⟩
   ·cases h
  ·cases h
 ·cases h
def gRep : List PV → Option PV
 | [.s [10], .i .i64 n] => if 0 ≤ n ∧ n < 21 then some (.s (List.replicate n.toNat 10)) else none
 | _ => none
noncomputable def Ntp (n : Nat) : Option PV := fvP cfgNx 100 15 [.s [10], .i .i64 (n : Int)]
theorem Nn7 : (List.range 21).map Ntp = (List.range 21).map fun n => some (.s (List.replicate n 10)) := by kernel_rfl
theorem Nn8 (args : List PV) (r : PV) (h : gRep args = some r) : ∃ fuel, evP cfgNx fuel 15 args = some r := by
 unfold gRep at h
 split at h
 ·rename_i n
  split at h
  ·rename_i hn
   obtain ⟨m, rfl⟩ : ∃ m : Nat, n = m := ⟨n.toNat, by omega⟩
   simp only [Sj] at h
   subst h
   have := List.map_inj_left.1 Nn7 m (List.mem_range.2 (by omega))
   unfold Ntp at this
   rw [NdG] at this
   exact ⟨100, this⟩
  ·cases h
 ·cases h
def Nrt : FuncId → Option (List PV → Option PV) := fun f => if f = 40 then some gNext else if f = 42 then some NrE else if f = 15 then some gRep else if f = 7 then some gAwakeT else none
theorem Nnq {Gl : Gmap} {m : Int} (hg : Gl 1 0 = some (.int .i64 m)) : ∀ f g, Nrt f = some g → Na1 Go.Proofs.Tryd.prog Gl f g := by
 intro f g h
 unfold Nrt at h
 split at h
 ·rename_i e; simp only [Sj] at h; subst h; subst e
  exact NdM (Ner hg)
 split at h
 ·rename_i e; simp only [Sj] at h; subst h; subst e
  exact Nel (Ndh hg) NiL
 split at h
 ·rename_i e; simp only [Sj] at h; subst h; subst e
  exact Nel (Ndh hg) Nn8
 split at h
 ·rename_i e; simp only [Sj] at h; subst h; subst e
  exact Nel (Ndh hg) NdY
 ·cases h
end Go.Pe
