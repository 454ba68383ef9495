/-
 EventTells, by the interpreter of plain data. No condition.
-/
import Derived.Test.YtadblicfhhllgaaRefG
import Derived.Test.YtadblicfhhllgaaEvtC
import Derived.Test.YtadblicfhhllgaaEvtI
import Derived.Test.YtadblicfhhllgaaPe9
import Derived.Test.YtadblicfhhllgaaEvtAr
set_option linter.unusedVariables false
set_option linter.unusedSimpArgs false
set_option maxHeartbeats 8000000
set_option maxRecDepth 100000
namespace Go.Pe
open Go Go.Am Go.RowKit

def Nc2 : FuncId → Option (List PV → Option PV) := fun f => if f = 14 then some gFrame else if f = 15 then some gRead else if f = 10 then some gPut else if f = 11 then some gGetE else if f = 21 then some gRFrame else if f = 22 then some gRRead else if f = 20 then some gRGet else if f = 13 then some gRPut else if f = 23 then some gSameE else if f = 12 then some gSame else if f = 18 then some gCopyB else if f = 19 then some gCopyE else if f = 17 then some gAwake else none
noncomputable def cfgT7 : Cfg := { fn := fun f => NbX f tblL, ext := Nc2 }
theorem NkL {Gl : Gmap} : ∀ f g, Nc2 f = some g → NcF Go.Proofs.Try.prog Gl f g := by
 intro f g h
 unfold Nc2 at h
 by_cases e : f = 14
 ·subst e; rw [if_pos rfl] at h; cases h
  exact Nao NlM Nkc
 rw [if_neg e] at h; clear e
 by_cases e : f = 15
 ·subst e; rw [if_pos rfl] at h; cases h
  exact Nao NlP NlO
 rw [if_neg e] at h; clear e
 by_cases e : f = 10
 ·subst e; rw [if_pos rfl] at h; cases h
  exact Nao NfR NhB
 rw [if_neg e] at h; clear e
 by_cases e : f = 11
 ·subst e; rw [if_pos rfl] at h; cases h
  exact Nao NfZ NjO
 rw [if_neg e] at h; clear e
 by_cases e : f = 21
 ·subst e; rw [if_pos rfl] at h; cases h
  exact Nao NhT NiP
 rw [if_neg e] at h; clear e
 by_cases e : f = 22
 ·subst e; rw [if_pos rfl] at h; cases h
  exact Nao NhT Njv
 rw [if_neg e] at h; clear e
 by_cases e : f = 20
 ·subst e; rw [if_pos rfl] at h; cases h
  exact Nao Nd3 Nh4
 rw [if_neg e] at h; clear e
 by_cases e : f = 13
 ·subst e; rw [if_pos rfl] at h; cases h
  exact Nao Nd3 Nij
 rw [if_neg e] at h; clear e
 by_cases e : f = 23
 ·subst e; rw [if_pos rfl] at h; cases h
  exact Nao NbA NjD
 rw [if_neg e] at h; clear e
 by_cases e : f = 12
 ·subst e; rw [if_pos rfl] at h; cases h
  exact Nao NbA Nig
 rw [if_neg e] at h; clear e
 by_cases e : f = 18
 ·subst e; rw [if_pos rfl] at h; cases h
  exact Nao NbA Njf
 rw [if_neg e] at h; clear e
 by_cases e : f = 19
 ·subst e; rw [if_pos rfl] at h; cases h
  exact Nao NbA Nkb
 rw [if_neg e] at h; clear e
 by_cases e : f = 17
 ·subst e; rw [if_pos rfl] at h; cases h
  exact Nao Nlz Ni5
 rw [if_neg e] at h; clear e
 cases h
theorem Neb {Gl : Gmap} : CfgOK Go.Proofs.Try.prog Gl cfgT7 := Na7 Na5 NkL
theorem Nhw : Nc2 14 = some gFrame := by kernel_rfl
theorem NiB : Nc2 15 = some gRead := by kernel_rfl
theorem Nkv : Nc2 10 = some gPut := by kernel_rfl
theorem NiJ : Nc2 11 = some gGetE := by kernel_rfl
theorem NgO : Nc2 21 = some gRFrame := by kernel_rfl
theorem Nhe : Nc2 22 = some gRRead := by kernel_rfl
theorem NiR : Nc2 20 = some gRGet := by kernel_rfl
theorem Nit : Nc2 13 = some gRPut := by kernel_rfl
theorem Ng5 : Nc2 23 = some gSameE := by kernel_rfl
theorem Niv : Nc2 12 = some gSame := by kernel_rfl
theorem Nho : Nc2 18 = some gCopyB := by kernel_rfl
theorem Nhh : Nc2 19 = some gCopyE := by kernel_rfl
theorem Nhm : Nc2 17 = some gAwake := by kernel_rfl

theorem NbL (cfg : Cfg) (callE : CallE) (n : Nat) (a b c : MCode) (x : Now) (Q : MExit → Now → Prop) : WC cfg callE n (.seq a (.seq b c)) x Q ↔ WC cfg callE n (.seq (.seq a b) c) x Q := by
 rw [Z0, Z0, Z0]
 constructor
 ·intro h
  refine h.mono ?_
  intro e x' hq
  cases e with
  | nrm => exact (Z0 ..).1 hq
  | ex id => exact hq
  | ret => exact hq
 ·intro h
  refine h.mono ?_
  intro e x' hq
  cases e with
  | nrm => exact (Z0 ..).2 hq
  | ex id => exact hq
  | ret => exact hq
theorem Np2 {f : Nat} : ∀ l : List PV, (∀ p ∈ l, PV.same f p p = true) → ((l.zip l).all fun p => PV.same f p.1 p.2) = true
 | [], _ => rfl
 | a :: r, h => by
   simp only [List.zip_cons_cons, List.all_cons, Bool.and_eq_true]
   exact ⟨h a (by simp), Np2 r fun p hp => h p (by simp [hp])⟩
theorem Nmq (b : List UInt8) : PV.same Ndd (.fsl b.length (Nab b)) (.fsl b.length (Nab b)) = true := by
 show (b.length == b.length && (Nab b).length == (Nab b).length && ((Nab b).zip (Nab b)).all fun p => PV.same 39 p.1 p.2) = true
 rw [Np2]
 ·simp
 ·intro p hp
  unfold Nab at hp
  obtain ⟨x, _, rfl⟩ := List.mem_map.mp hp
  simp [PV.same]
theorem Nfz (X : Ev) : PV.same Ndd (.agg (evC X)) (.agg (evC X)) = true := by
 simp [PV.same, Ndd, evC]
theorem Nnn {cfg : Cfg} {callE : CallE} {n : Nat} {a b : MCode} {x : Now} {Q : MExit → Now → Prop} (h : ∀ K : Now → Prop, (∀ x', WC cfg callE n b x' Q → K x') → WC cfg callE n a x (Nis Q K)) : WC cfg callE n (.seq a b) x Q := by
 rw [Z0]
 exact h _ fun _ h => h
theorem Ng4 (l : List Ev) : ∃ (K : List UInt8) (v : PV) (e : Int), Nce l = .tup ([] ++ v :: [.i .i64 e]) ∧ OutV v 1 K.length (Nab K) := by
 unfold Nce
 split
 ·exact ⟨[], _, _, rfl, OutV.nil 1⟩
 split
 ·exact ⟨[], _, _, rfl, OutV.nil 1⟩
 ·exact ⟨_, _, _, rfl, OutV.osl _ _ _⟩
theorem Ni2 (b : List UInt8) (a0 : Int) : ∃ (L : List Ev) (v : PV) (a e : Int), NeW b a0 = .tup ([] ++ v :: [.i .i64 a, .i .i64 e]) ∧ OutV v 5 L.length (Na4 L) ∧ L.length ≤ 4096 := by
 unfold NeW
 split
 ·rename_i l a h
  obtain ⟨_, _, _, _, _, h2, _⟩ := Nkx h
  exact ⟨l, _, _, _, rfl, OutV.osl _ _ _, h2⟩
 ·exact ⟨[], _, 0, _, rfl, OutV.nil 5, by simp⟩
theorem NfH (L : List Ev) : clO (Na4 L) = true := by
 unfold clO
 rw [List.all_eq_true]
 intro p hp
 simp only [Na4, List.mem_flatMap] at hp
 obtain ⟨e, _, h⟩ := hp
 simp only [evC, List.mem_cons, List.not_mem_nil, or_false] at h
 rcases h with rfl | rfl | rfl | rfl | rfl <;> rfl
theorem NqF (L : List Ev) : OutV (if L = [] then .nsl else .osl 5 L.length (Na4 L)) 5 L.length (Na4 L) := by
 split
 ·rename_i h; subst h; exact OutV.nil 5
 ·exact OutV.osl _ _ _
def NoT (v : PV) (L : List Ev) : PV := Nqs v L.length (Na4 L)
theorem Own.deepE3 {st : St} {n : Nat} {v : PV} {L : List Ev} (h : Own st 5 v n (Na4 L)) (hn : n = L.length) : Go.Pe.deep st 12 v = some (NoT v L) ∧ Nhl (NoT v L) = some L := by
 subst hn
 refine ⟨h.deepO (Nf2 L), ?_⟩
 rcases h with ⟨rfl, h1, h2⟩ | ⟨k, rfl, _⟩
 ·have : L = [] := List.length_eq_zero_iff.1 h1
  subst this; rfl
 ·exact Nd0 L
theorem Njh {X E : Ev} {l : List Ev} {b : List UInt8} {a0 : Int} (ha : Nc3 a0) (hE : ∀ e ∈ l, Nnl e) : ∃ fuel, evP cfgT7 fuel 4 [.agg (evC X), .agg (evC E), .fsl l.length (Na4 l), .fsl b.length (Nab b), .i .i64 a0] = some (.b true) := by
 refine ⟨401 + 1, Nbr rfl rfl (fun _ => rfl) (NaD (by kernel_rfl : cfgT7.fn 4 = some m4) ?_)⟩
 unfold m4
 have aw : ∀ (st : St) (key : Nat), Nae (Naj cfgT7 (NaH cfgT7 401) 17) false st key [] = some (.b true, st) := fun st key => Nap rfl (by rw [Nac (show cfgT7.ext 17 = some gAwake from Nhm)]; rfl) rfl
 have oX : (evC X).all PV.one = true := rfl
 have oE : (evC E).all PV.one = true := rfl
 by_cases z0 : 300 < l.length
 ·simp (disch := first | omega | rfl | assumption) only [Nag, ↓Z0, ↓Xp, ↓Xt, Xq, Xc, Nad, Naa, Nat.reduceAdd, Nat.reduceMul, Nat.reduceLT, Nat.reduceEqDiff, reduceIte, Xm, Nat.reduceLeDiff, Xa, Xn, unP, Na9, Na8, Nba, aw, oX, oE]
  refine ⟨nofun, _, rfl, ?_⟩
  simp only [NaX, ↓Z0, ↓Xp, ↓Xt, Xq, Xc, Nad, Naa, Nat.reduceAdd, Nat.reduceMul, Nat.reduceLT, Nat.reduceEqDiff, reduceIte]
 by_cases z1 : 2000 < b.length
 ·simp (disch := first | omega | rfl | assumption) only [Nag, ↓Z0, ↓Xp, ↓Xt, Xq, Xc, Nad, Naa, Nat.reduceAdd, Nat.reduceMul, Nat.reduceLT, Nat.reduceEqDiff, reduceIte, Xm, Nat.reduceLeDiff, Xa, Xn, unP, Na9, Na8, Nba, aw, oX, oE]
  refine ⟨nofun, _, rfl, ?_⟩
  simp only [NaX, ↓Z0, ↓Xp, ↓Xt, Xq, Xc, Nad, Naa, Nat.reduceAdd, Nat.reduceMul, Nat.reduceLT, Nat.reduceEqDiff, reduceIte]
 simp only [Nag]
 rw [NbL, NbL, NbL, NbL, NbL, NbL, NbL, NbL, NbL]
 have gFr : ∀ {v : PV}, Nhl v = some l → Naj cfgT7 (NaH cfgT7 401) 14 [v] = some (Nce l) := fun {v} hv => by
  rw [Nac (show cfgT7.ext 14 = some gFrame from Nhw)]
  unfold Nhl at hv
  split at hv
  ·simp only [Sj] at hv
   subst hv; rfl
  ·split at hv
   ·rename_i l' hl'
    split at hv
    ·rename_i hn
     simp only [Sj] at hv
     subst hv
     unfold gFrame
     simp only [hl']
     rw [if_pos ⟨hn, by omega⟩]
    ·cases hv
   ·cases hv
  ·cases hv
 have gFe : Naj cfgT7 (NaH cfgT7 401) 21 [.fsl l.length (Na4 l)] = some (Nce l) := by
  rw [Nac (show cfgT7.ext 21 = some gRFrame from NgO)]
  unfold gRFrame
  simp only [Nd0]
  rw [if_pos (by omega)]
 have gRd : ∀ {v : PV}, inL v = some b → Naj cfgT7 (NaH cfgT7 401) 15 [v, .i .i64 a0] = some (NeW b a0) := fun hv => by
  rw [Nac (show cfgT7.ext 15 = some gRead from NiB)]
  unfold gRead
  simp only [hv]
  rw [if_pos (by omega)]
 have gRe : Naj cfgT7 (NaH cfgT7 401) 22 [.fsl b.length (Nab b), .i .i64 a0] = some (NeW b a0) := by
  rw [Nac (show cfgT7.ext 22 = some gRRead from Nhe)]
  unfold gRRead
  simp only [Nbv]
  rw [if_pos (by omega)]
 have kGe : ∀ {st : St} {key : Nat} {w v : PV}, NaW st [w, .i .i64 a0, .agg (evC X)] = some [v, .i .i64 a0, .agg (evC X)] → inL v = some b → Nae (Naj cfgT7 (NaH cfgT7 401) 11) false st key [w, .i .i64 a0, .agg (evC X)] = some (.tup [.agg (evC (NbO b a0 X).1), .i .i64 (NbO b a0 X).2.1, .i .i64 (NbO b a0 X).2.2], st) := fun {st key w v} hd hv => by
  refine Ncg hd ?_ rfl rfl
  rw [Nac (show cfgT7.ext 11 = some gGetE from NiJ)]
  unfold gGetE evC
  simp only [hv]
  rw [if_pos (by omega), Nkm]
  rfl
 have kGr : ∀ {st : St} {key : Nat}, Nae (Naj cfgT7 (NaH cfgT7 401) 20) false st key [.fsl b.length (Nab b), .i .i64 a0, .agg (evC X)] = some (.tup [.agg (evC (NbO b a0 X).1), .i .i64 (NbO b a0 X).2.1, .i .i64 (NbO b a0 X).2.2], st) := fun {st key} => by
  refine Ncg (Nia st (NbB (Nbv b)) a0 X) (NlX (show cfgT7.ext 20 = some gRGet from NiR) (Nbv b) (by omega) a0 X) rfl rfl
 have gCb : ∀ {v : PV}, inL v = some b → Naj cfgT7 (NaH cfgT7 401) 18 [v] = some (.osl 1 b.length (Nab b)) := fun hv => by
  rw [Nac (show cfgT7.ext 18 = some gCopyB from Nho)]
  unfold gCopyB
  simp only [hv]
  rw [if_pos (by unfold maxBytes; omega)]
 have gCe : Naj cfgT7 (NaH cfgT7 401) 19 [.fsl l.length (Na4 l)] = some (if l = [] then .nsl else .osl 5 l.length (Na4 l)) := by
  rw [Nac (show cfgT7.ext 19 = some gCopyE from Nhh)]
  unfold gCopyE
  simp only [Nd0]
  rw [if_pos (by unfold maxBytes; omega)]
 have kSb : ∀ {st : St} {key : Nat} {w1 w2 v1 v2 : PV} {a : List UInt8}, Go.Pe.deep st 12 w1 = some v1 → Go.Pe.deep st 12 w2 = some v2 → inL v1 = some a → inL v2 = some a → Nae (Naj cfgT7 (NaH cfgT7 401) 12) false st key [w1, w2] = some (.b true, st) := fun {st key w1 w2 v1 v2 a} d1 d2 h1 h2 => by
  refine NaP (r := .b true) (Ndi d1 d2) ?_ rfl
  rw [Nac (show cfgT7.ext 12 = some gSame from Niv)]
  unfold gSame
  simp only [h1, h2, beq_self_eq_true]
 have kSe : ∀ {st : St} {key : Nat} {w1 w2 v1 v2 : PV} {a : List Ev}, a.length ≤ 140737488355328 → Go.Pe.deep st 12 w1 = some v1 → Go.Pe.deep st 12 w2 = some v2 → Nhl v1 = some a → Nhl v2 = some a → Nae (Naj cfgT7 (NaH cfgT7 401) 23) false st key [w1, w2] = some (.b true, st) := fun {st key w1 w2 v1 v2 a} hl d1 d2 h1 h2 => by
  refine NaP (r := .b true) (Ndi d1 d2) ?_ rfl
  rw [Nac (show cfgT7.ext 23 = some gSameE from Ng5)]
  unfold gSameE
  simp only [h1, h2]
  rw [if_pos hl]; simp
 have hdl : ∀ (st : St), Go.Pe.deep st 12 (.fsl l.length (Na4 l)) = some (.fsl l.length (Na4 l)) := fun st => NcP 11 rfl
 have hdb : ∀ (st : St), Go.Pe.deep st 12 (.fsl b.length (Nab b)) = some (.fsl b.length (Nab b)) := fun st => NdJ (Nbv b)
 have hdi : ∀ (st : St), Go.Pe.deep st 12 (.i .i64 a0) = some (.i .i64 a0) := fun st => rfl
 obtain ⟨K1, v1, e1, h1, out1⟩ := Ng4 l
 obtain ⟨L2, v2, a2, e2, h2, out2, hL2⟩ := Ni2 b a0
 rw [h1] at gFr gFe
 rw [h2] at gRd gRe
 have hst0 : Top ({ sto := .leaf, cnt := 1 } : St) := fun k _ => by rw [Nja]
 refine Nm0 (Neb (Gl := fun _ _ => none)) hst0 (fun x => ∃ (w12 : PV) (ki : Nat), x.env.get 2 = .fsl l.length (Na4 l) ∧ x.env.get 3 = .fsl b.length (Nab b) ∧ x.env.get 5 = .ptr 1 0 ∧ x.env.get 6 = .ptr 9 0 ∧ x.env.get 11 = .rsl ki 1 0 b.length ∧ x.env.get 12 = w12 ∧ x.env.get 29 = .b true ∧ x.st.get 1 = some (.cells (evC X) false) ∧ x.st.get 9 = some (.cells (evC E) false) ∧ Own x.st 1 (.rsl ki 1 0 b.length) b.length (Nab b) ∧ Own x.st 5 w12 l.length (Na4 l) ∧ 10 ≤ x.st.cnt) ?_ ?_
 ·repeat rw [← NbL]
  (try rw [Z0])
  (try simp (maxSteps := 2000000) (disch := first | omega | rfl | assumption) only [↓Xp, ↓Xt, Xq, Xc, Nad, Naa, Nat.reduceAdd, Nat.reduceMul, Nat.reduceLT, Nat.reduceEqDiff, reduceIte, Xa, Xn, unP, Na9, Na8, Nba, Xm, Nat.reduceLeDiff, List.nil_append, List.cons_append, oX, oE])
  (try rw [Z0])
  (try simp (maxSteps := 2000000) (disch := first | omega | rfl | assumption) only [↓Xp, ↓Xt, Xq, Xc, Nad, Naa, Nat.reduceAdd, Nat.reduceMul, Nat.reduceLT, Nat.reduceEqDiff, reduceIte, Xa, Xn, unP, Na9, Na8, Nba, Xm, Nat.reduceLeDiff, List.nil_append, List.cons_append, oX, oE])
  (try rw [Z0])
  (try simp (maxSteps := 2000000) (disch := first | omega | rfl | assumption) only [↓Xp, ↓Xt, Xq, Xc, Nad, Naa, Nat.reduceAdd, Nat.reduceMul, Nat.reduceLT, Nat.reduceEqDiff, reduceIte, Xa, Xn, unP, Na9, Na8, Nba, Xm, Nat.reduceLeDiff, List.nil_append, List.cons_append, oX, oE])
  (try rw [Z0])
  (try simp (maxSteps := 2000000) (disch := first | omega | rfl | assumption) only [↓Xp, ↓Xt, Xq, Xc, Nad, Naa, Nat.reduceAdd, Nat.reduceMul, Nat.reduceLT, Nat.reduceEqDiff, reduceIte, Xa, Xn, unP, Na9, Na8, Nba, Xm, Nat.reduceLeDiff, List.nil_append, List.cons_append, oX, oE])
  refine Ncq (NcQ (hdb _)) (gCb (Nbv b)) (by first | omega | (simp only [Z0L_, NcW, Nat.add_assoc, Nat.reduceAdd]; omega) | (simp only; omega)) ?_
  intro st1 o1 _ c1 f1
  (try simp only [NcW] at c1)
  refine Nk6 (NcQ (hdl _)) gCe (NqF l) (NfH _) (Nbt _) (by first | omega | (simp only [Z0L_, NcW, Nat.add_assoc, Nat.reduceAdd]; omega) | (simp only; omega)) ?_
  intro w2 st2 o2 _ c2 f2
  rw [c1] at c2
  replace o1 := o1.move (st' := st2) (by omega) (fun j hj _ => f2 j (by simp only [keyOf_rsl, List.mem_singleton] at hj; omega))
  have hX : ∀ n, St.get ⟨st2.sto, n⟩ 1 = some (.cells (evC X) false) := fun n => by
   rw [Nc6, f2 1 (by decide), f1 1 (by decide)]
   simp (disch := omega) only [Nc6, Nde, NkK]
  have hEg : ∀ n, St.get ⟨st2.sto, n⟩ 9 = some (.cells (evC E) false) := fun n => by
   rw [Nc6, f2 9 (by decide), f1 9 (by decide)]
   simp (disch := omega) only [Nc6, Nde, NkK]
  have tGe := fun M (hM : st2.cnt ≤ M) key => kGe (st := ⟨st2.sto, M⟩) (key := key) (NhO (o1.cnt hM).deepV rfl rfl) o1.inV
  have tGr := fun st key => kGr (st := st) (key := key)
  obtain ⟨P, hP⟩ : ∃ P, (NbO b a0 X).1 = P := ⟨_, rfl⟩
  obtain ⟨n3, hn3⟩ : ∃ P, (NbO b a0 X).2.1 = P := ⟨_, rfl⟩
  obtain ⟨e3, he3⟩ : ∃ P, (NbO b a0 X).2.2 = P := ⟨_, rfl⟩
  simp only [hP, hn3, he3] at tGe tGr
  (try rw [Z0])
  (try simp (maxSteps := 2000000) (disch := first | omega | rfl | assumption) only [↓Xp, ↓Xt, Xq, Xc, Nad, Naa, Nat.reduceAdd, Nat.reduceMul, Nat.reduceLT, Nat.reduceEqDiff, reduceIte, Xa, Xn, unP, Na9, Na8, Nba, Xm, Nat.reduceLeDiff, List.nil_append, List.cons_append, hX, Nbk, Nbm, Nbl, tGe, tGr, c2])
  (try rw [Z0])
  (try simp (maxSteps := 2000000) (disch := first | omega | rfl | assumption) only [↓Xp, ↓Xt, Xq, Xc, Nad, Naa, Nat.reduceAdd, Nat.reduceMul, Nat.reduceLT, Nat.reduceEqDiff, reduceIte, Xa, Xn, unP, Na9, Na8, Nba, Xm, Nat.reduceLeDiff, List.nil_append, List.cons_append, hX, Nbk, Nbm, Nbl, tGe, tGr, c2])
  have g1 : ∀ (s : Trie PObj) (n j : Nat), j ≠ 201 → j ≠ 297 → (((⟨(((⟨s, 233⟩ : St).put 201 (some (PObj.cells [PV.i IntKind.i64 ((0 : Nat) : Int), PV.i IntKind.u8 ((0 : Nat) : Int), PV.i IntKind.i64 ((0 : Nat) : Int), PV.i IntKind.i64 ((0 : Nat) : Int), PV.i IntKind.i64 ((0 : Nat) : Int)] false))).put 201 (some (PObj.cells (evC P) false))).sto, n⟩ : St).put 297 (some (PObj.cells [PV.i IntKind.i64 ((0 : Nat) : Int), PV.i IntKind.u8 ((0 : Nat) : Int), PV.i IntKind.i64 ((0 : Nat) : Int), PV.i IntKind.i64 ((0 : Nat) : Int), PV.i IntKind.i64 ((0 : Nat) : Int)] false))).put 297 (some (PObj.cells (evC P) false))).get j = (⟨s, 233⟩ : St).get j := fun s n j h1 h2 => by
   rw [St.get_put_ne (Ne.symm h2), St.get_put_ne (Ne.symm h2), Nc6, St.get_put_ne (Ne.symm h1), St.get_put_ne (Ne.symm h1)]
  generalize hS : (((⟨(((⟨st2.sto, 233⟩ : St).put 201 (some (PObj.cells [PV.i IntKind.i64 ((0 : Nat) : Int), PV.i IntKind.u8 ((0 : Nat) : Int), PV.i IntKind.i64 ((0 : Nat) : Int), PV.i IntKind.i64 ((0 : Nat) : Int), PV.i IntKind.i64 ((0 : Nat) : Int)] false))).put 201 (some (PObj.cells (evC P) false))).sto, 329⟩ : St).put 297 (some (PObj.cells [PV.i IntKind.i64 ((0 : Nat) : Int), PV.i IntKind.u8 ((0 : Nat) : Int), PV.i IntKind.i64 ((0 : Nat) : Int), PV.i IntKind.i64 ((0 : Nat) : Int), PV.i IntKind.i64 ((0 : Nat) : Int)] false))).put 297 (some (PObj.cells (evC P) false))) = S
  have cS : S.cnt = 329 := by rw [← hS]; rfl
  have p16 : S.get 297 = some (.cells (evC P) false) := by rw [← hS]; exact St.get_putk _ _ _
  have p13 : S.get 201 = some (.cells (evC P) false) := by
   rw [← hS, St.get_put_ne (by decide), St.get_put_ne (by decide), Nc6]; exact St.get_putk _ _ _
  have pX : S.get 1 = some (.cells (evC X) false) := by rw [← hS, g1 _ _ _ (by decide) (by decide)]; exact hX _
  have pE : S.get 9 = some (.cells (evC E) false) := by rw [← hS, g1 _ _ _ (by decide) (by decide)]; exact hEg _
  replace o1 : Own S 1 (.rsl 97 1 0 b.length) b.length (Nab b) := o1.move (by omega) (fun j hj hlt => by rw [← hS, g1 _ _ _ (by omega) (by omega)]; rfl)
  replace o2 : Own S 5 w2 l.length (Na4 l) := o2.move (by omega) (fun j hj hlt => by rw [← hS, g1 _ _ _ (by omega) (by omega)]; rfl)
  clear g1 hX hEg hS tGe tGr
  (repeat (first | rw [Z0] | simp (maxSteps := 2000000) (disch := first | omega | rfl | assumption) only [↓Xp, ↓Xt, Xq, Xc, Nad, Naa, Nat.reduceAdd, Nat.reduceMul, Nat.reduceLT, Nat.reduceEqDiff, reduceIte, Xa, Xn, unP, Na9, Na8, Nba, Xm, Nat.reduceLeDiff, List.nil_append, List.cons_append]))
  refine Nd9 (NcQ ((o2.cnt (by omega)).deepE3 rfl).1) (gFr (o2.deepE3 rfl).2) out1 rfl rfl (Ngi _) (by rw [Nah, Nat.mul_one]) (by first | omega | (simp only [Z0L_, NcW, Nat.add_assoc, Nat.reduceAdd]; omega) | (simp only; omega)) ?_
  intro w3 st3 o3 _ c3 f3
  (try simp only [Z0L_] at c3)
  replace o1 := o1.over f3 rfl (by first | omega | (simp only; omega)) (by first | omega | (simp only; omega))
  replace o2 := o2.over f3 rfl (by first | omega | (simp only; omega)) (by first | omega | (simp only; omega))
  (repeat (first | rw [Z0] | simp (maxSteps := 2000000) (disch := first | omega | rfl | assumption) only [↓Xp, ↓Xt, Xq, Xc, Nad, Naa, Nat.reduceAdd, Nat.reduceMul, Nat.reduceLT, Nat.reduceEqDiff, reduceIte, Xa, Xn, unP, Na9, Na8, Nba, Xm, Nat.reduceLeDiff, List.nil_append, List.cons_append]))
  refine Nd9 (NcQ (hdl _)) gFe out1 rfl rfl (Ngi _) (by rw [Nah, Nat.mul_one]) (by first | omega | (simp only [Z0L_, NcW, Nat.add_assoc, Nat.reduceAdd]; omega) | (simp only; omega)) ?_
  intro w4 st4 o4 _ c4 f4
  (try simp only [Z0L_] at c4)
  replace o1 := o1.over f4 rfl (by first | omega | (simp only; omega)) (by first | omega | (simp only; omega))
  replace o2 := o2.over f4 rfl (by first | omega | (simp only; omega)) (by first | omega | (simp only; omega))
  replace o3 := o3.over f4 rfl (by first | omega | (simp only; omega)) (by first | omega | (simp only; omega))
  (repeat (first | rw [Z0] | simp (maxSteps := 2000000) (disch := first | omega | rfl | assumption) only [↓Xp, ↓Xt, Xq, Xc, Nad, Naa, Nat.reduceAdd, Nat.reduceMul, Nat.reduceLT, Nat.reduceEqDiff, reduceIte, Xa, Xn, unP, Na9, Na8, Nba, Xm, Nat.reduceLeDiff, List.nil_append, List.cons_append]))
  refine Nd9 (Ndi (o1.cnt (by omega)).deepV (hdi _)) (gRd o1.inV) out2 rfl rfl (NfH _) (Nbt _) (by first | omega | (simp only [Z0L_, NcW, Nat.add_assoc, Nat.reduceAdd]; omega) | (simp only; omega)) ?_
  intro w5 st5 o5 _ c5 f5
  (try simp only [Z0L_] at c5)
  replace o1 := o1.over f5 rfl (by first | omega | (simp only; omega)) (by first | omega | (simp only; omega))
  replace o2 := o2.over f5 rfl (by first | omega | (simp only; omega)) (by first | omega | (simp only; omega))
  replace o3 := o3.over f5 rfl (by first | omega | (simp only; omega)) (by first | omega | (simp only; omega))
  replace o4 := o4.over f5 rfl (by first | omega | (simp only; omega)) (by first | omega | (simp only; omega))
  (try rw [Z0])
  (try simp (maxSteps := 2000000) (disch := first | omega | rfl | assumption) only [↓Xp, ↓Xt, Xq, Xc, Nad, Naa, Nat.reduceAdd, Nat.reduceMul, Nat.reduceLT, Nat.reduceEqDiff, reduceIte, Xa, Xn, unP, Na9, Na8, Nba, Xm, Nat.reduceLeDiff, List.nil_append, List.cons_append])
  refine Nnn fun K hK => ?_
  simp (disch := first | omega | rfl | assumption) only [↓Xp, ↓Xt, Xq, Xc, Nad, Naa, Nat.reduceAdd, Nat.reduceMul, Nat.reduceLT, Nat.reduceEqDiff, reduceIte, Xa, Xn, unP, Na9, Na8, Nba, Xm, Nat.reduceLeDiff]
  refine Nd9 (Ndi (hdb _) (hdi _)) gRe out2 rfl rfl (NfH _) (Nbt _) (by first | omega | (simp only [Z0L_, NcW, Nat.add_assoc, Nat.reduceAdd]; omega) | (simp only; omega)) ?_
  intro w6 st6 o6 _ c6 f6
  (try simp only [Z0L_] at c6)
  replace o1 := o1.over f6 rfl (by first | omega | (simp only; omega)) (by first | omega | (simp only; omega))
  replace o2 := o2.over f6 rfl (by first | omega | (simp only; omega)) (by first | omega | (simp only; omega))
  replace o3 := o3.over f6 rfl (by first | omega | (simp only; omega)) (by first | omega | (simp only; omega))
  replace o4 := o4.over f6 rfl (by first | omega | (simp only; omega)) (by first | omega | (simp only; omega))
  replace o5 := o5.over f6 rfl (by first | omega | (simp only; omega)) (by first | omega | (simp only; omega))
  simp (disch := first | omega | rfl | assumption) only [↓Xp, ↓Xt, Xq, Xc, Nad, Naa, Nat.reduceAdd, Nat.reduceMul, Nat.reduceLT, Nat.reduceEqDiff, reduceIte, Xa, Xn, unP, Na9, Na8, Nba, Xm, Nat.reduceLeDiff, List.nil_append, List.cons_append]
  refine hK _ ?_
  clear hK K
  have q : ∀ j, j < 329 → st6.get j = S.get j := fun j hj => by
   rw [f6 j (by omega), Nc6, f5 j (by omega), Nc6, f4 j (by omega), Nc6, f3 j (by omega)]; rfl
  have t1 := fun M (hM : st6.cnt ≤ M) key => kSb (key := key) (o3.cnt hM).deepV (o4.cnt hM).deepV o3.inV o4.inV
  have t2 := fun M (hM : st6.cnt ≤ M) key => kSe (key := key) (by omega) ((o5.cnt hM).deepE3 rfl).1 ((o6.cnt hM).deepE3 rfl).1 (o5.deepE3 rfl).2 (o6.deepE3 rfl).2
  have hp13 : ∀ n, St.get ⟨st6.sto, n⟩ 201 = some (.cells (evC P) false) := fun n => by rw [Nc6, q _ (by decide)]; exact p13
  have hp16 : ∀ n, St.get ⟨st6.sto, n⟩ 297 = some (.cells (evC P) false) := fun n => by rw [Nc6, q _ (by decide)]; exact p16
  have hpX : st6.get 1 = some (.cells (evC X) false) := by rw [q _ (by decide)]; exact pX
  have hpE : st6.get 9 = some (.cells (evC E) false) := by rw [q _ (by decide)]; exact pE
  have hee : ∀ x : Int, (x == x) = true := fun x => beq_self_eq_true x
  have x0 : (evC P)[0]? = some (.i .i64 P.T) := rfl
  have x1 : (evC P)[1]? = some (.i .u8 P.O.toNat) := rfl
  have x2 : (evC P)[2]? = some (.i .i64 P.J) := rfl
  have x3 : (evC P)[3]? = some (.i .i64 P.A) := rfl
  have x4 : (evC P)[4]? = some (.i .i64 P.B) := rfl
  simp (maxSteps := 2000000) (disch := first | omega | rfl | assumption) only [↓Xp, ↓Xt, Xq, Xc, Nad, Naa, Nat.reduceAdd, Nat.reduceMul, Nat.reduceLT, Nat.reduceEqDiff, reduceIte, Xa, Xn, unP, Na9, Na8, Nba, Xm, Nat.reduceLeDiff, hp13, hp16, Nbk, Nbm, Nbl, t1, t2, hee, x0, x1, x2, x3, x4]
  exact ⟨w2, 97, rfl, rfl, hpX, hpE, o1.cnt (by omega), o2.cnt (by omega)⟩
 ·clear hst0
  rintro ⟨env, ⟨sto, c⟩⟩ ⟨w12, ki, g2, g3, g5, g6, g11, g12, g29, pX, pE, o1, o2, hc⟩ ht
  simp only at g2 g3 g5 g6 g11 g12 g29 hc ht
  rw [Z0]
  refine Nkp (NfD (Neb (Gl := fun _ _ => none)) _) (NfL (Neb (Gl := fun _ _ => none)) _).2 [c + 24] (by rfl) (ns := [false, false, false, false, true, true, false, true, true, true, false, false, false, false, false, false, false, false, false, false, false, false, false, false, false, false, false]) (by rfl) ht ?_
  (first | rw [Nay] | rw [Naq])
  (try simp (maxSteps := 2000000) (disch := first | omega | rfl | assumption) only [↓Xp, ↓Xt, Xq, Xc, Nad, Naa, Nat.reduceAdd, Nat.reduceMul, Nat.reduceLT, Nat.reduceEqDiff, reduceIte, Xa, Xn, unP, Na9, Na8, Nba, Xl, Nat.reduceLeDiff, Nbc, Nbd, Nbf, Naz, Nax, Nas, Nar, g2, g3, g5, g6, g11, g12, g29])
  (first | rw [Nay] | rw [Naq])
  (try simp (maxSteps := 2000000) (disch := first | omega | rfl | assumption) only [↓Xp, ↓Xt, Xq, Xc, Nad, Naa, Nat.reduceAdd, Nat.reduceMul, Nat.reduceLT, Nat.reduceEqDiff, reduceIte, Xa, Xn, unP, Na9, Na8, Nba, Xl, Nat.reduceLeDiff, Nbc, Nbd, Nbf, Naz, Nax, Nas, Nar, g2, g3, g5, g6, g11, g12, g29])
  (first | rw [Nay] | rw [Naq])
  (try simp (maxSteps := 2000000) (disch := first | omega | rfl | assumption) only [↓Xp, ↓Xt, Xq, Xc, Nad, Naa, Nat.reduceAdd, Nat.reduceMul, Nat.reduceLT, Nat.reduceEqDiff, reduceIte, Xa, Xn, unP, Na9, Na8, Nba, Xl, Nat.reduceLeDiff, Nbc, Nbd, Nbf, Naz, Nax, Nas, Nar, g2, g3, g5, g6, g11, g12, g29])
  (first | rw [Nay] | rw [Naq])
  (try simp (maxSteps := 2000000) (disch := first | omega | rfl | assumption) only [↓Xp, ↓Xt, Xq, Xc, Nad, Naa, Nat.reduceAdd, Nat.reduceMul, Nat.reduceLT, Nat.reduceEqDiff, reduceIte, Xa, Xn, unP, Na9, Na8, Nba, Xl, Nat.reduceLeDiff, Nbc, Nbd, Nbf, Naz, Nax, Nas, Nar, g2, g3, g5, g6, g11, g12, g29])
  simp only [NgW, Nb1, NaB, Ndf, Nf4, Nda, Nas, Nar, if_true, Bool.false_eq_true, if_false, true_implies, Bool.or_true, false_implies, and_true, true_and, List.mem_cons, List.not_mem_nil, or_false, Bool.false_or, PV.ptr.injEq, not_or, Nde, Nja]
  have ldX : ∀ S : St, S.get 1 = some (.cells (evC X) false) → loadP S 5 (.ptr 1 0) = some (evC X) := fun S h => by
   simp only [NnL, NnG, h]; rfl
  have ldE : ∀ S : St, S.get 9 = some (.cells (evC E) false) → loadP S 5 (.ptr 9 0) = some (evC E) := fun S h => by
   simp only [NnL, NnG, h]; rfl
  refine ⟨fun _ => by omega, fun _ => by omega, fun _ => by omega, ?_⟩
  refine Ncq (NcQ (hdb _)) (gCb (Nbv b)) (by first | omega | (simp only [Z0L_, NcW, Nat.add_assoc, Nat.reduceAdd]; omega) | (simp only; omega)) ?_
  intro st1 o3 k3 c3 f3
  (try simp only [NcW] at c3)
  refine ⟨fun j h1 _ => f3 j h1, ?_⟩
  have hX1 : st1.get 1 = some (.cells (evC X) false) := by
   rw [f3 1 (by omega)]; exact pX
  have hE1 : st1.get 9 = some (.cells (evC E) false) := by
   rw [f3 9 (by omega)]; exact pE
  have hl1 := ldX st1 hX1
  have hl2 := ldE st1 hE1
  (first | rw [Nay] | rw [Naq])
  (try simp (maxSteps := 2000000) (disch := first | omega | rfl | assumption) only [↓Xp, ↓Xt, Xq, Xc, Nad, Naa, Nat.reduceAdd, Nat.reduceMul, Nat.reduceLT, Nat.reduceEqDiff, reduceIte, Xa, Xn, unP, Na9, Na8, Nba, Xl, Nat.reduceLeDiff, Nbc, Nbd, Nbf, Naz, Nax, Nas, Nar, g2, g3, g5, g6, g11, g12, g29, hl1, hl2, Nbk, Nbm, Nbl])
  (first | rw [Nay] | rw [Naq])
  (try simp (maxSteps := 2000000) (disch := first | omega | rfl | assumption) only [↓Xp, ↓Xt, Xq, Xc, Nad, Naa, Nat.reduceAdd, Nat.reduceMul, Nat.reduceLT, Nat.reduceEqDiff, reduceIte, Xa, Xn, unP, Na9, Na8, Nba, Xl, Nat.reduceLeDiff, Nbc, Nbd, Nbf, Naz, Nax, Nas, Nar, g2, g3, g5, g6, g11, g12, g29, hl1, hl2, Nbk, Nbm, Nbl])
  (first | rw [Nay] | rw [Naq])
  (try simp (maxSteps := 2000000) (disch := first | omega | rfl | assumption) only [↓Xp, ↓Xt, Xq, Xc, Nad, Naa, Nat.reduceAdd, Nat.reduceMul, Nat.reduceLT, Nat.reduceEqDiff, reduceIte, Xa, Xn, unP, Na9, Na8, Nba, Xl, Nat.reduceLeDiff, Nbc, Nbd, Nbf, Naz, Nax, Nas, Nar, g2, g3, g5, g6, g11, g12, g29, hl1, hl2, Nbk, Nbm, Nbl])
  simp only [NgW, Nb1, NaB, Ndf, Nf4, Nda, Nas, Nar, if_true, Bool.false_eq_true, if_false, true_implies, Bool.or_true, false_implies, and_true, true_and, List.mem_cons, List.not_mem_nil, or_false, Bool.false_or, PV.ptr.injEq, not_or, Nde, Nja]
  have hno : ∀ j, c + 32 ≤ j → (⟨sto, c + 216⟩ : St).get j = none := fun j hj => ht j (by show c ≤ j; omega)
  have n1 : st1.get (c + 32) = none := by rw [f3 _ (by omega)]; exact hno _ (by omega)
  have n2 : st1.get (c + 40) = none := by rw [f3 _ (by omega)]; exact hno _ (by omega)
  have tP : Nae (Naj cfgT7 (NaH cfgT7 401) 10) true st1 (c + 48) [.rsl (c + 24) 1 0 b.length, .agg (evC X), .agg (evC E)] = some (.rsl (c + 48) 1 0 (Nfh b X E).length, (st1.put (c + 24) none).put (c + 48) (some (.cells (Nab (Nfh b X E)) false))) := by
   refine Ngy k3 rfl rfl ?_
   rw [Nac (show cfgT7.ext 10 = some gPut from Nkv)]
   have h1 := E.O.toNat_lt
   have h2 : ((E.O.toNat : Int).toNat).toUInt8 = E.O := by
    rw [Int.toNat_natCast, Nat.toUInt8]
    exact UInt8.toNat_inj.1 (by rw [UInt8.toNat_ofNat']; omega)
   have h3 : Njb (.osl 1 b.length (Nab b)) = some b := by
    unfold Njb
    simp only [Nbi, if_true]
   unfold gPut evC
   simp only [h3]
   rw [if_pos ⟨by omega, by omega, by unfold maxBytes; omega⟩, h2]
   rfl
  refine ⟨⟨by omega, fun k o h => by omega⟩, ⟨Nfz X, by rw [n1]; rfl⟩, ⟨by omega, fun k o h => by omega⟩, ⟨Nfz E, by rw [n2]; rfl⟩, ?_⟩
  rw [tP, Zx]
  refine ⟨fun k h1 h2 => by rw [St.get_put_ne (Ne.symm h1), St.get_put_ne (Ne.symm h2)], ?_⟩
  obtain ⟨S2, hS2⟩ : ∃ S2, (st1.put (c + 24) none).put (c + 48) (some (.cells (Nab (Nfh b X E)) false)) = S2 := ⟨_, rfl⟩
  have gS : ∀ j, j ≠ c + 48 → j ≠ c + 24 → S2.get j = st1.get j := fun k h1 h2 => by rw [← hS2, St.get_put_ne (Ne.symm h1), St.get_put_ne (Ne.symm h2)]
  have cS2 : S2.cnt = c + 216 := by rw [← hS2]; exact c3
  have oP : Own S2 1 (.rsl (c + 48) 1 0 (Nfh b X E).length) (Nfh b X E).length (Nab (Nfh b X E)) := .inr ⟨_, rfl, by rw [← hS2]; exact St.get_putk _ _ _, by rw [Nah, Nat.mul_one], by omega⟩
  have o1k : ∀ j, j ∈ keyOf (.rsl ki 1 0 b.length) → j < c := o1.lt
  have o2k : ∀ j, j ∈ keyOf w12 → j < c := o2.lt
  have o1b : Own S2 1 (.rsl ki 1 0 b.length) b.length (Nab b) := o1.move (by show c ≤ _; omega) (fun j hj _ => by
   have := o1k j hj
   rw [gS j (by omega) (by omega), f3 j (by omega)]; rfl)
  have o2b : Own S2 5 w12 l.length (Na4 l) := o2.move (by show c ≤ _; omega) (fun j hj _ => by
   have := o2k j hj
   rw [gS j (by omega) (by omega), f3 j (by omega)]; rfl)
  have hX2 : S2.get 1 = some (.cells (evC X) false) := by rw [gS _ (by omega) (by omega)]; exact hX1
  have hE2 : S2.get 9 = some (.cells (evC E) false) := by rw [gS _ (by omega) (by omega)]; exact hE1
  have hl3 := ldX S2 hX2
  have hl4 := ldE S2 hE2
  have n3 : ∀ j, c + 56 ≤ j → S2.get j = none := fun j hj => by rw [gS _ (by omega) (by omega), f3 _ (by omega)]; exact hno _ (by omega)
  rw [hS2]
  (first | rw [Nay] | rw [Naq])
  (try simp (maxSteps := 2000000) (disch := first | omega | rfl | assumption) only [↓Xp, ↓Xt, Xq, Xc, Nad, Naa, Nat.reduceAdd, Nat.reduceMul, Nat.reduceLT, Nat.reduceEqDiff, reduceIte, Xa, Xn, unP, Na9, Na8, Nba, Xl, Nat.reduceLeDiff, Nbc, Nbd, Nbf, Naz, Nax, Nas, Nar, g2, g3, g5, g6, g11, g12, g29, hl3, hl4, Nbk, Nbm, Nbl])
  (first | rw [Nay] | rw [Naq])
  (try simp (maxSteps := 2000000) (disch := first | omega | rfl | assumption) only [↓Xp, ↓Xt, Xq, Xc, Nad, Naa, Nat.reduceAdd, Nat.reduceMul, Nat.reduceLT, Nat.reduceEqDiff, reduceIte, Xa, Xn, unP, Na9, Na8, Nba, Xl, Nat.reduceLeDiff, Nbc, Nbd, Nbf, Naz, Nax, Nas, Nar, g2, g3, g5, g6, g11, g12, g29, hl3, hl4, Nbk, Nbm, Nbl])
  (first | rw [Nay] | rw [Naq])
  (try simp (maxSteps := 2000000) (disch := first | omega | rfl | assumption) only [↓Xp, ↓Xt, Xq, Xc, Nad, Naa, Nat.reduceAdd, Nat.reduceMul, Nat.reduceLT, Nat.reduceEqDiff, reduceIte, Xa, Xn, unP, Na9, Na8, Nba, Xl, Nat.reduceLeDiff, Nbc, Nbd, Nbf, Naz, Nax, Nas, Nar, g2, g3, g5, g6, g11, g12, g29, hl3, hl4, Nbk, Nbm, Nbl])
  (first | rw [Nay] | rw [Naq])
  (try simp (maxSteps := 2000000) (disch := first | omega | rfl | assumption) only [↓Xp, ↓Xt, Xq, Xc, Nad, Naa, Nat.reduceAdd, Nat.reduceMul, Nat.reduceLT, Nat.reduceEqDiff, reduceIte, Xa, Xn, unP, Na9, Na8, Nba, Xl, Nat.reduceLeDiff, Nbc, Nbd, Nbf, Naz, Nax, Nas, Nar, g2, g3, g5, g6, g11, g12, g29, hl3, hl4, Nbk, Nbm, Nbl])
  simp only [NgW, Nb1, NaB, Ndf, Nf4, Nda, Nas, Nar, if_true, Bool.false_eq_true, if_false, true_implies, Bool.or_true, false_implies, and_true, true_and, List.mem_cons, List.not_mem_nil, or_false, Bool.false_or, PV.ptr.injEq, not_or, Nde, Nja]
  refine ⟨by omega, ⟨Nmq b, by rw [n3 _ (by omega)]; rfl⟩, ⟨by omega, fun k o h => by omega⟩, ⟨Nfz X, by rw [n3 _ (by omega)]; rfl⟩, ⟨by omega, fun k o h => by omega⟩, ⟨Nfz E, by rw [n3 _ (by omega)]; rfl⟩, ?_⟩
  have gPr := Nj2 (callE := NaH cfgT7 401) (show cfgT7.ext 13 = some gRPut from Nit) (Nbv b) (by omega) X E
  rw [← NjW] at gPr
  refine Ncq (NhO (NdJ (Nbv b)) rfl rfl) gPr (by omega) ?_
  intro st3 o5 _ c5 f5
  refine ⟨fun j h1 _ => f5 j h1, ?_⟩
  replace oP := oP.move (st' := st3) (by omega) (fun j hj _ => f5 j (by simp only [keyOf_rsl, List.mem_singleton] at hj; omega))
  replace o1b := o1b.move (st' := st3) (by omega) (fun j hj _ => f5 j (by have := o1k j hj; omega))
  replace o2b := o2b.move (st' := st3) (by omega) (fun j hj _ => f5 j (by have := o2k j hj; omega))
  have t1 := fun key => kSb (key := key) oP.deepV o5.deepV oP.inV o5.inV
  have t2 := fun key => kSb (key := key) o1b.deepV (hdb st3) o1b.inV (Nbv b)
  have t3 := fun key => kSe (key := key) (by omega) (o2b.deepE3 rfl).1 (hdl st3) (o2b.deepE3 rfl).2 (Nd0 l)
  have t4 := fun key => aw st3 key
  (first | rw [Nay] | rw [Naq])
  (try simp (maxSteps := 2000000) (disch := first | omega | rfl | assumption) only [↓Xp, ↓Xt, Xq, Xc, Nad, Naa, Nat.reduceAdd, Nat.reduceMul, Nat.reduceLT, Nat.reduceEqDiff, reduceIte, Xa, Xn, unP, Na9, Na8, Nba, Xl, Nat.reduceLeDiff, Nbc, Nbd, Nbf, Naz, Nax, Nas, Nar, g2, g3, g5, g6, g11, g12, g29, t1, t2, t3, t4])
  simp only [NgW, Nb1, NaB, Ndf, Nf4, Nda, Nas, Nar, if_true, Bool.false_eq_true, if_false, true_implies, Bool.or_true, false_implies, and_true, true_and, List.mem_cons, List.not_mem_nil, or_false, Bool.false_or, PV.ptr.injEq, not_or, Nde, Nja]
  refine ⟨fun _ _ _ => trivial, ?_⟩
  (first | rw [Nay] | rw [Naq])
  (try simp (maxSteps := 2000000) (disch := first | omega | rfl | assumption) only [↓Xp, ↓Xt, Xq, Xc, Nad, Naa, Nat.reduceAdd, Nat.reduceMul, Nat.reduceLT, Nat.reduceEqDiff, reduceIte, Xa, Xn, unP, Na9, Na8, Nba, Xl, Nat.reduceLeDiff, Nbc, Nbd, Nbf, Naz, Nax, Nas, Nar, g2, g3, g5, g6, g11, g12, g29, t1, t2, t3, t4])
  (first | rw [Nay] | rw [Naq])
  (try simp (maxSteps := 2000000) (disch := first | omega | rfl | assumption) only [↓Xp, ↓Xt, Xq, Xc, Nad, Naa, Nat.reduceAdd, Nat.reduceMul, Nat.reduceLT, Nat.reduceEqDiff, reduceIte, Xa, Xn, unP, Na9, Na8, Nba, Xl, Nat.reduceLeDiff, Nbc, Nbd, Nbf, Naz, Nax, Nas, Nar, g2, g3, g5, g6, g11, g12, g29, t1, t2, t3, t4])
  (first | rw [Nay] | rw [Naq])
  (try simp (maxSteps := 2000000) (disch := first | omega | rfl | assumption) only [↓Xp, ↓Xt, Xq, Xc, Nad, Naa, Nat.reduceAdd, Nat.reduceMul, Nat.reduceLT, Nat.reduceEqDiff, reduceIte, Xa, Xn, unP, Na9, Na8, Nba, Xl, Nat.reduceLeDiff, Nbc, Nbd, Nbf, Naz, Nax, Nas, Nar, g2, g3, g5, g6, g11, g12, g29, t1, t2, t3, t4])
  (first | rw [Nay] | rw [Naq])
  (try simp (maxSteps := 2000000) (disch := first | omega | rfl | assumption) only [↓Xp, ↓Xt, Xq, Xc, Nad, Naa, Nat.reduceAdd, Nat.reduceMul, Nat.reduceLT, Nat.reduceEqDiff, reduceIte, Xa, Xn, unP, Na9, Na8, Nba, Xl, Nat.reduceLeDiff, Nbc, Nbd, Nbf, Naz, Nax, Nas, Nar, g2, g3, g5, g6, g11, g12, g29, t1, t2, t3, t4])
  (first | rw [Nay] | rw [Naq])
  (try simp (maxSteps := 2000000) (disch := first | omega | rfl | assumption) only [↓Xp, ↓Xt, Xq, Xc, Nad, Naa, Nat.reduceAdd, Nat.reduceMul, Nat.reduceLT, Nat.reduceEqDiff, reduceIte, Xa, Xn, unP, Na9, Na8, Nba, Xl, Nat.reduceLeDiff, Nbc, Nbd, Nbf, Naz, Nax, Nas, Nar, g2, g3, g5, g6, g11, g12, g29, t1, t2, t3, t4])
  (first | rw [Nay] | rw [Naq])
  (try simp (maxSteps := 2000000) (disch := first | omega | rfl | assumption) only [↓Xp, ↓Xt, Xq, Xc, Nad, Naa, Nat.reduceAdd, Nat.reduceMul, Nat.reduceLT, Nat.reduceEqDiff, reduceIte, Xa, Xn, unP, Na9, Na8, Nba, Xl, Nat.reduceLeDiff, Nbc, Nbd, Nbf, Naz, Nax, Nas, Nar, g2, g3, g5, g6, g11, g12, g29, t1, t2, t3, t4])
  (first | rw [Nay] | rw [Naq])
  (try simp (maxSteps := 2000000) (disch := first | omega | rfl | assumption) only [↓Xp, ↓Xt, Xq, Xc, Nad, Naa, Nat.reduceAdd, Nat.reduceMul, Nat.reduceLT, Nat.reduceEqDiff, reduceIte, Xa, Xn, unP, Na9, Na8, Nba, Xl, Nat.reduceLeDiff, Nbc, Nbd, Nbf, Naz, Nax, Nas, Nar, g2, g3, g5, g6, g11, g12, g29, t1, t2, t3, t4])
  (first | rw [Nay] | rw [Naq])
  (try simp (maxSteps := 2000000) (disch := first | omega | rfl | assumption) only [↓Xp, ↓Xt, Xq, Xc, Nad, Naa, Nat.reduceAdd, Nat.reduceMul, Nat.reduceLT, Nat.reduceEqDiff, reduceIte, Xa, Xn, unP, Na9, Na8, Nba, Xl, Nat.reduceLeDiff, Nbc, Nbd, Nbf, Naz, Nax, Nas, Nar, g2, g3, g5, g6, g11, g12, g29, t1, t2, t3, t4])
  (first | rw [Nay] | rw [Naq])
  (try simp (maxSteps := 2000000) (disch := first | omega | rfl | assumption) only [↓Xp, ↓Xt, Xq, Xc, Nad, Naa, Nat.reduceAdd, Nat.reduceMul, Nat.reduceLT, Nat.reduceEqDiff, reduceIte, Xa, Xn, unP, Na9, Na8, Nba, Xl, Nat.reduceLeDiff, Nbc, Nbd, Nbf, Naz, Nax, Nas, Nar, g2, g3, g5, g6, g11, g12, g29, t1, t2, t3, t4])
  (first | rw [Nay] | rw [Naq])
  (try simp (maxSteps := 2000000) (disch := first | omega | rfl | assumption) only [↓Xp, ↓Xt, Xq, Xc, Nad, Naa, Nat.reduceAdd, Nat.reduceMul, Nat.reduceLT, Nat.reduceEqDiff, reduceIte, Xa, Xn, unP, Na9, Na8, Nba, Xl, Nat.reduceLeDiff, Nbc, Nbd, Nbf, Naz, Nax, Nas, Nar, g2, g3, g5, g6, g11, g12, g29, t1, t2, t3, t4])
  (first | rw [Nay] | rw [Naq])
  (try simp (maxSteps := 2000000) (disch := first | omega | rfl | assumption) only [↓Xp, ↓Xt, Xq, Xc, Nad, Naa, Nat.reduceAdd, Nat.reduceMul, Nat.reduceLT, Nat.reduceEqDiff, reduceIte, Xa, Xn, unP, Na9, Na8, Nba, Xl, Nat.reduceLeDiff, Nbc, Nbd, Nbf, Naz, Nax, Nas, Nar, g2, g3, g5, g6, g11, g12, g29, t1, t2, t3, t4])
  (first | rw [Nay] | rw [Naq])
  (try simp (maxSteps := 2000000) (disch := first | omega | rfl | assumption) only [↓Xp, ↓Xt, Xq, Xc, Nad, Naa, Nat.reduceAdd, Nat.reduceMul, Nat.reduceLT, Nat.reduceEqDiff, reduceIte, Xa, Xn, unP, Na9, Na8, Nba, Xl, Nat.reduceLeDiff, Nbc, Nbd, Nbf, Naz, Nax, Nas, Nar, g2, g3, g5, g6, g11, g12, g29, t1, t2, t3, t4])
  (first | rw [Nay] | rw [Naq])
  (try simp (maxSteps := 2000000) (disch := first | omega | rfl | assumption) only [↓Xp, ↓Xt, Xq, Xc, Nad, Naa, Nat.reduceAdd, Nat.reduceMul, Nat.reduceLT, Nat.reduceEqDiff, reduceIte, Xa, Xn, unP, Na9, Na8, Nba, Xl, Nat.reduceLeDiff, Nbc, Nbd, Nbf, Naz, Nax, Nas, Nar, g2, g3, g5, g6, g11, g12, g29, t1, t2, t3, t4])
  (first | rw [Nay] | rw [Naq])
  (try simp (maxSteps := 2000000) (disch := first | omega | rfl | assumption) only [↓Xp, ↓Xt, Xq, Xc, Nad, Naa, Nat.reduceAdd, Nat.reduceMul, Nat.reduceLT, Nat.reduceEqDiff, reduceIte, Xa, Xn, unP, Na9, Na8, Nba, Xl, Nat.reduceLeDiff, Nbc, Nbd, Nbf, Naz, Nax, Nas, Nar, g2, g3, g5, g6, g11, g12, g29, t1, t2, t3, t4])
  (first | rw [Nay] | rw [Naq])
  (try simp (maxSteps := 2000000) (disch := first | omega | rfl | assumption) only [↓Xp, ↓Xt, Xq, Xc, Nad, Naa, Nat.reduceAdd, Nat.reduceMul, Nat.reduceLT, Nat.reduceEqDiff, reduceIte, Xa, Xn, unP, Na9, Na8, Nba, Xl, Nat.reduceLeDiff, Nbc, Nbd, Nbf, Naz, Nax, Nas, Nar, g2, g3, g5, g6, g11, g12, g29, t1, t2, t3, t4])
  simp only [NgW, Nb1, NaB, Ndf, Nf4, Nda, Nas, Nar, if_true, Bool.false_eq_true, if_false, true_implies, Bool.or_true, false_implies, and_true, true_and, List.mem_cons, List.not_mem_nil, or_false, Bool.false_or, PV.ptr.injEq, not_or, Nde, Nja]
  refine ⟨fun _ => by omega, fun _ => by omega, fun _ => by omega, fun _ => by omega, fun _ _ _ => trivial, fun _ => by omega, fun _ => by omega, fun _ => by omega, fun _ => by omega, fun _ _ _ => trivial, fun _ => by omega, fun _ => by omega, fun _ _ _ => trivial, fun _ => by omega, fun _ => by omega, ?_⟩
  rw [Nm4]
  refine ⟨nofun, _, rfl, ?_⟩
  simp only [NaX, ↓Z0, ↓Xp, ↓Xt, Xq, Xc, Nad, Naa, Nat.reduceAdd, Nat.reduceMul, Nat.reduceLT, Nat.reduceEqDiff, reduceIte]
theorem Niz (xs : List PV) (hx : evSh.Is xs) (es : List PV) (he : evSh.Is es) (n : Nat) (ps : List PV) (hl : ps.length = n * evSh.width) (hn : n ≤ reachBytes) (h : ∀ j, j < n → evSh.Is ((ps.drop (j * evSh.width)).take evSh.width)) (n2 : Nat) (ps2 : List PV) (hl2 : ps2.length = n2 * (Sh.i .u8).width) (hn2 : n2 ≤ reachBytes) (hh : ∀ j, j < n2 → (Sh.i .u8).Is ((ps2.drop (j * (Sh.i .u8).width)).take (Sh.i .u8).width)) (a0 : Int) (ha : (Lit.int .i64 a0).wf = true) : ∃ fuel, evP cfgT7 fuel 4 [.agg xs, .agg es, .fsl n ps, .fsl n2 ps2, .i .i64 a0] = some (.b true) := by
 obtain ⟨x, rfl, _⟩ := NmH hx
 obtain ⟨e, rfl, _⟩ := NmH he
 obtain ⟨l, rfl, rfl, hE⟩ := Nmi hl h
 obtain ⟨b, rfl, rfl⟩ := Nh8 hl2 hh
 exact Njh (Ngo ha) hE
end Go.Pe
