/-
 SegmentTells, by the interpreter of plain data. No condition.
-/
import Derived.Test.YtogdkhejfkbnmaaRefK
import Derived.Test.YtogdkhejfkbnmaaSegG
import Derived.Test.YtogdkhejfkbnmaaPeL4
import Derived.Test.YtogdkhejfkbnmaaEvtAr
set_option linter.unusedVariables false
set_option linter.unusedSimpArgs false
set_option maxHeartbeats 8000000
set_option maxRecDepth 100000
namespace Go.Pe
open Go Go.Am Go.RowKit

def Nc7 : FuncId → Option (List PV → Option PV) := fun f => if f = 11 then some gHeadM else if f = 19 then some gPackS else if f = 20 then some gUnpackS else if f = 15 then some gScanS else if f = 24 then some gRHeadM else if f = 25 then some gRPack else if f = 27 then some gRUnpack else if f = 26 then some gRScan else if f = 16 then some gRSeal else if f = 29 then some gSameE else if f = 28 then some gSame else if f = 13 then some gCopyB else if f = 23 then some gCopyE else if f = 22 then some gAwakeS else none
theorem Nng {Gl : Gmap} : ∀ f g, Nc7 f = some g → NbJ Go.Proofs.Try.prog Gl f g := by
 intro f g h
 unfold Nc7 at h
 by_cases e : f = 11
 ·subst e; rw [if_pos rfl] at h; cases h
  exact Nam Nb0 Nh2
 rw [if_neg e] at h; clear e
 by_cases e : f = 19
 ·subst e; rw [if_pos rfl] at h; cases h
  exact Nam Nb0 NhB
 rw [if_neg e] at h; clear e
 by_cases e : f = 20
 ·subst e; rw [if_pos rfl] at h; cases h
  exact Nam Nb0 Nfm
 rw [if_neg e] at h; clear e
 by_cases e : f = 15
 ·subst e; rw [if_pos rfl] at h; cases h
  exact Nam Njz Nho
 rw [if_neg e] at h; clear e
 by_cases e : f = 24
 ·subst e; rw [if_pos rfl] at h; cases h
  exact Nam Ne7 Nf0
 rw [if_neg e] at h; clear e
 by_cases e : f = 25
 ·subst e; rw [if_pos rfl] at h; cases h
  exact Nam Ng4 Nlu
 rw [if_neg e] at h; clear e
 by_cases e : f = 27
 ·subst e; rw [if_pos rfl] at h; cases h
  exact Nam NlI Niq
 rw [if_neg e] at h; clear e
 by_cases e : f = 26
 ·subst e; rw [if_pos rfl] at h; cases h
  exact Nam Nmz Nk6
 rw [if_neg e] at h; clear e
 by_cases e : f = 16
 ·subst e; rw [if_pos rfl] at h; cases h
  exact Nam New NdA
 rw [if_neg e] at h; clear e
 by_cases e : f = 29
 ·subst e; rw [if_pos rfl] at h; cases h
  exact Nam Nbg Nhf
 rw [if_neg e] at h; clear e
 by_cases e : f = 28
 ·subst e; rw [if_pos rfl] at h; cases h
  exact Nam Nbg Njh
 rw [if_neg e] at h; clear e
 by_cases e : f = 13
 ·subst e; rw [if_pos rfl] at h; cases h
  exact Nam Nbg NhH
 rw [if_neg e] at h; clear e
 by_cases e : f = 23
 ·subst e; rw [if_pos rfl] at h; cases h
  exact Nam Nbg Nlj
 rw [if_neg e] at h; clear e
 by_cases e : f = 22
 ·subst e; rw [if_pos rfl] at h; cases h
  exact Nam Nn3 Nkn
 rw [if_neg e] at h; clear e
 cases h
theorem Nit : Nc7 11 = some gHeadM := by kernel_rfl
theorem NiJ : Nc7 19 = some gPackS := by kernel_rfl
theorem NgL : Nc7 20 = some gUnpackS := by kernel_rfl
theorem NiO : Nc7 15 = some gScanS := by kernel_rfl
theorem Nhl : Nc7 24 = some gRHeadM := by kernel_rfl
theorem Nip : Nc7 25 = some gRPack := by kernel_rfl
theorem Ng0 : Nc7 27 = some gRUnpack := by kernel_rfl
theorem Niy : Nc7 26 = some gRScan := by kernel_rfl
theorem Nin : Nc7 16 = some gRSeal := by kernel_rfl
theorem Nh9 : Nc7 29 = some gSameE := by kernel_rfl
theorem Nka : Nc7 28 = some gSame := by kernel_rfl
theorem Niw : Nc7 13 = some gCopyB := by kernel_rfl
theorem NiT : Nc7 23 = some gCopyE := by kernel_rfl
theorem Nhr : Nc7 22 = some gAwakeS := by kernel_rfl

noncomputable def cfgL4 : Cfg := { fn := fun f => Nbr f tblX4, ext := Nc7 }
theorem Nnz {Gl : Gmap} : CfgOK Go.Proofs.Try.prog Gl cfgL4 := NaP Nnj Nng
def Src (st : St) (w : PV) (b : List UInt8) : Prop := w = .fsl b.length (Nab b) ∨ Own st 1 w b.length (Nab b)
theorem Src.over {s0 st st' : St} {key : Nat} {w : PV} {b : List UInt8} (h : Src s0 w b) (f : ∀ j, j ≠ key → st'.get j = st.get j) (hs : st.sto = s0.sto) (hk : s0.cnt ≤ key) (hc : s0.cnt ≤ st'.cnt) : Src st' w b := by
 rcases h with h | h
 ·exact .inl h
 ·exact .inr (h.over f hs hk hc)
theorem Src.cnt {sto : Trie PObj} {c c' : Nat} {w : PV} {b : List UInt8} (h : Src ⟨sto, c⟩ w b) (hc : c ≤ c') : Src ⟨sto, c'⟩ w b := by
 rcases h with h | h
 ·exact .inl h
 ·exact .inr (h.cnt hc)
theorem Src.move {st st' : St} {w : PV} {b : List UInt8} (h : Src st w b) (hc : st.cnt ≤ st'.cnt) (hg : ∀ j, j < st.cnt → st'.get j = st.get j) : Src st' w b := by
 rcases h with h | h
 ·exact .inl h
 ·exact .inr (h.move hc fun j _ hj => hg j hj)
theorem Src.deepV {st : St} {w : PV} {b : List UInt8} (h : Src st w b) : Go.Pe.deep st 12 w = some (Nsi w b) := by
 rcases h with rfl | h
 ·exact Ncn (NbD b)
 ·exact h.deepV
theorem Src.inV {st : St} {w : PV} {b : List UInt8} (h : Src st w b) : inL (Nsi w b) = some b := by
 rcases h with rfl | h
 ·exact NbD b
 ·exact h.inV
theorem NkA (n : Int) : ∃ (K : List UInt8) (v : PV) (e : Int), NdT n = .tup ([] ++ v :: [.i .i64 e]) ∧ OutV v 1 K.length (Nab K) := by
 unfold NdT
 split
 ·exact ⟨[], _, _, rfl, OutV.nil 1⟩
 ·exact ⟨_, _, _, rfl, OutV.osl _ _ _⟩
theorem NkP (n : Int) (l : List Ev) : ∃ (K : List UInt8) (v : PV) (e : Int), Ndn n l = .tup ([] ++ v :: [.i .i64 e]) ∧ OutV v 1 K.length (Nab K) := by
 unfold Ndn
 split
 ·exact ⟨[], _, _, rfl, OutV.nil 1⟩
 split
 ·exact ⟨[], _, _, rfl, OutV.nil 1⟩
 ·exact ⟨_, _, _, rfl, OutV.osl _ _ _⟩
theorem NjI (L : List Ev) : OutV (Not L) 5 L.length (Nay L) := by
 unfold Not
 split
 ·rename_i h; subst h; exact OutV.nil 5
 ·exact OutV.osl _ _ _
theorem NfR {b : List UInt8} : ∀ (f : Nat) (a : Int) (acc : List Ev), (Nbw b f a acc).1.length ≤ acc.length + f * 4096
 | 0, a, acc => by simp [Nbw]
 | f + 1, a, acc => by
   unfold Nbw
   split
   ·rename_i l a' hr
    have h1 := NfR (b := b) f a' (acc ++ l)
    obtain ⟨_, _, _, _, _, h2, _⟩ := NdJ hr
    rw [List.length_append] at h1
    omega
   ·simp
theorem NkL (b : List UInt8) (hb : b.length ≤ 2004) : ∃ (n : Int) (L : List Ev) (v : PV) (a e : Int), NfK b = .tup ([.i .i64 n] ++ v :: [.i .i64 a, .i .i64 e]) ∧ OutV v 5 L.length (Nay L) ∧ L.length ≤ 140737488355328 := by
 unfold NfK
 split
 ·rename_i n L a h
  refine ⟨_, _, _, _, _, rfl, NjI _, ?_⟩
  unfold Nn0 at h
  split at h
  ·cases h
  ·have h2 := NfR (b := b) (b.length + 1) (NbM b).2.1 []
   simp only [Sum.inl.injEq, Pj] at h
   rw [h.2] at h2
   simp only [List.length_nil] at h2
   omega
 ·exact ⟨0, [], _, 0, _, rfl, OutV.nil 5, by simp⟩
theorem Nhz {m : List UInt8} : ∀ (ks : List Nat) {a : Int} {L L' : List Ev} {a' : Int}, NcK m ks a L = some (L', a') → L'.length ≤ L.length
 | [], a, L, L', a', h => by
   simp only [NcK, Sj, Pj] at h
   rw [h.1]; exact Nat.le_refl _
 | k :: ks, a, L, L', a', h => by
   unfold NcK at h
   split at h
   ·simp at h
   ·rename_i vs a2 hv
    have h1 := Nhz ks h
    have h2 : (NiY k L vs).length ≤ L.length := by unfold NiY; rw [List.length_zipWith]; omega
    omega
theorem NhZ (b : List UInt8) : ∃ (n : Int) (L : List Ev) (v : PV) (e : Int), Nck b = .tup ([.i .i64 n] ++ v :: [.i .i64 e]) ∧ OutV v 5 L.length (Nay L) ∧ L.length ≤ 140737488355328 := by
 unfold Nck
 split
 ·rename_i n L h
  refine ⟨_, _, _, _, rfl, OutV.osl _ _ _, ?_⟩
  unfold NgH at h
  repeat' split at h
  all_goals first | cases h | skip
  rename_i hd
  unfold NhJ at hd
  repeat' split at hd
  all_goals first | cases hd | skip
  rename_i hc
  have := Nhz _ hc
  rw [List.length_replicate] at this
  omega
 ·exact ⟨0, [], _, _, rfl, OutV.nil 5, by simp⟩
def NqT (v : PV) (L : List Ev) : PV := NsS v L.length (Nay L)
theorem Own.deepE2 {st : St} {n : Nat} {v : PV} {L : List Ev} (h : Own st 5 v n (Nay L)) (hn : n = L.length) : Go.Pe.deep st 12 v = some (NqT v L) ∧ Nf7 (NqT v L) = some L := by
 subst hn
 refine ⟨h.deepO (NgS L), ?_⟩
 rcases h with ⟨rfl, h1, h2⟩ | ⟨k, rfl, _⟩
 ·have : L = [] := List.length_eq_zero_iff.1 h1
  subst this; rfl
 ·exact NeG L
theorem NlS {l : List Ev} {b0 : List UInt8} {first : Int} {sealed : Bool} (hf : NcN first) (hE : ∀ e ∈ l, Npa e) : ∃ fuel, evP cfgL4 fuel 4 [.i .i64 first, .fsl l.length (Nay l), .fsl b0.length (Nab b0), .b sealed] = some (.b true) := by
 refine ⟨401 + 1, Nbe rfl rfl (fun _ => rfl) (Naw (by kernel_rfl : cfgL4.fn 4 = some m4) ?_)⟩
 unfold m4
 have aw : ∀ (st : St) (key : Nat), Naf (Nag cfgL4 (NaB cfgL4 401) 22) false st key [] = some (.b true, st) := fun st key => Nap rfl (by rw [Nad (show cfgL4.ext 22 = some gAwakeS from Nhr)]; rfl) rfl
 by_cases z0 : 300 < l.length
 ·simp (disch := first | omega | rfl | assumption) only [Nae, ↓Z0, ↓Xp, ↓Xt, Xq, Xc, Nac, Naa, Nat.reduceAdd, Nat.reduceMul, Nat.reduceLT, Nat.reduceEqDiff, reduceIte, Xm, Nat.reduceLeDiff, Xa, Xn, unP, Nau, Nav, Nao, aw]
  refine ⟨nofun, _, rfl, ?_⟩
  simp only [Naz, ↓Z0, ↓Xp, ↓Xt, Xq, Xc, Nac, Naa, Nat.reduceAdd, Nat.reduceMul, Nat.reduceLT, Nat.reduceEqDiff, reduceIte]
 by_cases z1 : 2000 < b0.length
 ·simp (disch := first | omega | rfl | assumption) only [Nae, ↓Z0, ↓Xp, ↓Xt, Xq, Xc, Nac, Naa, Nat.reduceAdd, Nat.reduceMul, Nat.reduceLT, Nat.reduceEqDiff, reduceIte, Xm, Nat.reduceLeDiff, Xa, Xn, unP, Nau, Nav, Nao, aw]
  refine ⟨nofun, _, rfl, ?_⟩
  simp only [Naz, ↓Z0, ↓Xp, ↓Xt, Xq, Xc, Nac, Naa, Nat.reduceAdd, Nat.reduceMul, Nat.reduceLT, Nat.reduceEqDiff, reduceIte]
 have gS : ∀ {w : PV} {a : List UInt8}, inL w = some a → a.length + 4 ≤ 140737488355328 → Nag cfgL4 (NaB cfgL4 401) 16 [w] = some (.osl 1 (NaD a).length (Nab (NaD a))) := fun hw hl => NgD (show cfgL4.ext 16 = some gRSeal from Nin) hw hl
 refine Za (fun x => x.env.get 0 = .i .i64 first ∧ x.env.get 1 = .fsl l.length (Nay l) ∧ x.env.get 2 = .fsl b0.length (Nab b0) ∧ x.env.get 3 = .b sealed) ?_ ?_
 ·simp (disch := first | omega | rfl | assumption) only [↓Z0, ↓Xp, ↓Xt, Xq, Xc, Nac, Naa, Nat.reduceAdd, Nat.reduceMul, Nat.reduceLT, Nat.reduceEqDiff, reduceIte, Xm, Nat.reduceLeDiff, Xa, Xn, Nae]
  (repeat' (first | exact True.intro | rfl | assumption | omega | apply And.intro | exact St.get_putk _ _ _ | refine ⟨_, rfl, ?_⟩))
 rintro ⟨env, ⟨sto, c⟩⟩ ⟨g0, g1, g2, g3⟩
 simp only at g0 g1 g2 g3
 refine Za (fun x => x.env.get 0 = .i .i64 first ∧ x.env.get 1 = .fsl l.length (Nay l) ∧ x.env.get 2 = .fsl b0.length (Nab b0) ∧ x.env.get 3 = .b sealed) ?_ ?_
 ·simp (disch := first | omega | rfl | assumption) only [↓Z0, ↓Xp, ↓Xt, Xq, Xc, Nac, Naa, Nat.reduceAdd, Nat.reduceMul, Nat.reduceLT, Nat.reduceEqDiff, reduceIte, Xm, Nat.reduceLeDiff, Xa, Xn, g0, g1, g2, g3, Nau]
  (repeat' (first | exact True.intro | rfl | assumption | omega | apply And.intro | exact St.get_putk _ _ _ | refine ⟨_, rfl, ?_⟩))
 clear g0 g1 g2 g3
 rintro ⟨env, ⟨sto, c⟩⟩ ⟨g0, g1, g2, g3⟩
 simp only at g0 g1 g2 g3
 refine Za (fun x => ∃ (w : PV) (b : List UInt8), b.length ≤ 2004 ∧ x.env.get 0 = .i .i64 first ∧ x.env.get 1 = .fsl l.length (Nay l) ∧ x.env.get 2 = w ∧ Src x.st w b) ?_ ?_
 ·cases sealed with
  | true =>
    (repeat (first | rw [Z0] | simp (maxSteps := 2000000) (disch := first | omega | rfl | assumption) only [↓Xp, ↓Xt, Xq, Xc, Nac, Naa, Nat.reduceAdd, Nat.reduceMul, Nat.reduceLT, Nat.reduceEqDiff, reduceIte, Xa, Xn, unP, Nau, Nav, Nao, Xm, Nat.reduceLeDiff, List.nil_append, List.cons_append, g0, g1, g2, g3]))
    refine Nbp (NaT (Ncn (NbD b0))) (gS (NbD b0) (by omega)) (by first | omega | (simp only [Z0L_, Nb2, Nat.add_assoc, Nat.reduceAdd]; omega) | (simp only; omega)) ?_
    intro st1 o1 _ c1 f1
    exact ⟨_, NaD b0, by rw [Nb8]; omega, rfl, .inr (o1.cnt (by omega))⟩
  | false =>
    simp (disch := first | omega | rfl | assumption) only [↓Z0, ↓Xp, ↓Xt, Xq, Xc, Nac, Naa, Nat.reduceAdd, Nat.reduceMul, Nat.reduceLT, Nat.reduceEqDiff, reduceIte, Xl, Nat.reduceLeDiff, g0, g1, g2, g3]
    exact ⟨_, b0, by omega, rfl, .inl rfl⟩
 clear g0 g1 g2 g3
 rintro ⟨env, ⟨sto, c⟩⟩ ⟨w, b, hb, g0, g1, g2, ob⟩
 simp only at g0 g1 g2
 have gHd : Nag cfgL4 (NaB cfgL4 401) 11 [.i .i64 first] = some (NdT first) := by
  rw [Nad (show cfgL4.ext 11 = some gHeadM from Nit)]; rfl
 have gHr : Nag cfgL4 (NaB cfgL4 401) 24 [.i .i64 first] = some (NdT first) := by
  rw [Nad (show cfgL4.ext 24 = some gRHeadM from Nhl)]
  unfold gRHeadM
  simp only []
  rw [if_pos ⟨hf.1, by have := hf.2; omega⟩]
 have gPk : ∀ {v : PV}, Nf7 v = some l → Nag cfgL4 (NaB cfgL4 401) 19 [.i .i64 first, v] = some (Ndn first l) := fun hv => by
  rw [Nad (show cfgL4.ext 19 = some gPackS from NiJ)]
  unfold gPackS
  simp only [hv]
  rw [if_pos ⟨by omega, hf.1, by have := hf.2; omega⟩]
 have gPr : ∀ {v : PV}, Nf7 v = some l → Nag cfgL4 (NaB cfgL4 401) 25 [.i .i64 first, v] = some (Ndn first l) := fun hv => by
  rw [Nad (show cfgL4.ext 25 = some gRPack from Nip)]
  unfold gRPack
  simp only [hv]
  rw [if_pos ⟨hf.1, by have := hf.2; omega, by omega⟩]
 have gSc : ∀ {v : PV}, inL v = some b → Nag cfgL4 (NaB cfgL4 401) 15 [v] = some (NfK b) := fun hv => by
  rw [Nad (show cfgL4.ext 15 = some gScanS from NiO)]
  unfold gScanS
  simp only [hv]
  rw [if_pos (by omega)]
 have gSr : ∀ {v : PV}, inL v = some b → Nag cfgL4 (NaB cfgL4 401) 26 [v] = some (NfK b) := fun hv => by
  rw [Nad (show cfgL4.ext 26 = some gRScan from Niy)]
  unfold gRScan
  simp only [hv]
  rw [if_pos (by omega)]
 have gUn : ∀ {v : PV}, inL v = some b → Nag cfgL4 (NaB cfgL4 401) 20 [v] = some (Nck b) := fun hv => by
  rw [Nad (show cfgL4.ext 20 = some gUnpackS from NgL)]
  unfold gUnpackS
  simp only [hv]
  rw [if_pos (by omega)]
 have gUr : ∀ {v : PV}, inL v = some b → Nag cfgL4 (NaB cfgL4 401) 27 [v] = some (Nck b) := fun hv => by
  rw [Nad (show cfgL4.ext 27 = some gRUnpack from Ng0)]
  unfold gRUnpack
  simp only [hv]
  rw [if_pos (by omega)]
 have gCb : ∀ {v : PV}, inL v = some b → Nag cfgL4 (NaB cfgL4 401) 13 [v] = some (.osl 1 b.length (Nab b)) := fun hv => by
  rw [Nad (show cfgL4.ext 13 = some gCopyB from Niw)]
  unfold gCopyB
  simp only [hv]
  rw [if_pos (by unfold maxBytes; omega)]
 have gCe : Nag cfgL4 (NaB cfgL4 401) 23 [.fsl l.length (Nay l)] = some (Not l) := by
  rw [Nad (show cfgL4.ext 23 = some gCopyE from NiT)]
  unfold gCopyE
  simp only [NeG]
  rw [if_pos (by unfold maxBytes; omega)]; rfl
 have kSb : ∀ {st : St} {key : Nat} {w1 w2 v1 v2 : PV} {a : List UInt8}, Go.Pe.deep st 12 w1 = some v1 → Go.Pe.deep st 12 w2 = some v2 → inL v1 = some a → inL v2 = some a → Naf (Nag cfgL4 (NaB cfgL4 401) 28) false st key [w1, w2] = some (.b true, st) := fun {st key w1 w2 v1 v2 a} d1 d2 h1 h2 => by
  refine Nas (r := .b true) (NbO d1 d2) ?_ rfl
  rw [Nad (show cfgL4.ext 28 = some gSame from Nka)]
  unfold gSame
  simp only [h1, h2, beq_self_eq_true]
 have kSe : ∀ {st : St} {key : Nat} {w1 w2 v1 v2 : PV} {a : List Ev}, a.length ≤ 140737488355328 → Go.Pe.deep st 12 w1 = some v1 → Go.Pe.deep st 12 w2 = some v2 → Nf7 v1 = some a → Nf7 v2 = some a → Naf (Nag cfgL4 (NaB cfgL4 401) 29) false st key [w1, w2] = some (.b true, st) := fun {st key w1 w2 v1 v2 a} hl d1 d2 h1 h2 => by
  refine Nas (r := .b true) (NbO d1 d2) ?_ rfl
  rw [Nad (show cfgL4.ext 29 = some gSameE from Nh9)]
  unfold gSameE
  simp only [h1, h2]
  rw [if_pos hl]; simp
 have hdl : ∀ (st : St), Go.Pe.deep st 12 (.fsl l.length (Nay l)) = some (.fsl l.length (Nay l)) := fun st => NcU 11 rfl
 have hdi : ∀ (st : St), Go.Pe.deep st 12 (.i .i64 first) = some (.i .i64 first) := fun st => rfl
 obtain ⟨K1, v1, e1, h1, out1⟩ := NkA first
 obtain ⟨K2, v2, e2, h2, out2⟩ := NkP first l
 obtain ⟨n3, L3, v3, a3, e3, h3, out3, hL3⟩ := NkL b hb
 obtain ⟨n4, L4, v4, e4, h4, out4, hL4⟩ := NhZ b
 rw [h1] at gHd gHr
 rw [h2] at gPk gPr
 rw [h3] at gSc gSr
 rw [h4] at gUn gUr
 (repeat (first | rw [Z0] | simp (maxSteps := 2000000) (disch := first | omega | rfl | assumption) only [↓Xp, ↓Xt, Xq, Xc, Nac, Naa, Nat.reduceAdd, Nat.reduceMul, Nat.reduceLT, Nat.reduceEqDiff, reduceIte, Xa, Xn, unP, Nau, Nav, Nao, Xm, Nat.reduceLeDiff, List.nil_append, List.cons_append, g0, g1, g2]))
 refine Nbp (NaT (ob.cnt (by omega)).deepV) (gCb ob.inV) (by first | omega | (simp only [Z0L_, Nb2, Nat.add_assoc, Nat.reduceAdd]; omega) | (simp only; omega)) ?_
 intro st1 o1 _ c1 f1
 (try simp only [Z0L_] at c1)
 refine NmZ (NaT (hdl _)) gCe (NjI l) (NbQ _) (NaI _) (by first | omega | (simp only [Z0L_, Nb2, Nat.add_assoc, Nat.reduceAdd]; omega) | (simp only; omega)) ?_
 intro w2 st2 o2 _ c2 f2
 (try simp only [Z0L_] at c2)
 replace o1 := o1.move (st' := st2) (by omega) (fun j hj _ => f2 j (by simp only [keyOf_rsl, List.mem_singleton] at hj; omega))
 replace ob := ob.move (st' := st2) (by show c ≤ _; omega) (fun j hj => by
  have hj2 : j < c := hj
  rw [f2 j (by omega), f1 j (by omega)]; rfl)
 (repeat (first | rw [Z0] | simp (maxSteps := 2000000) (disch := first | omega | rfl | assumption) only [↓Xp, ↓Xt, Xq, Xc, Nac, Naa, Nat.reduceAdd, Nat.reduceMul, Nat.reduceLT, Nat.reduceEqDiff, reduceIte, Xa, Xn, unP, Nau, Nav, Nao, Xm, Nat.reduceLeDiff, List.nil_append, List.cons_append, g0, g1, g2]))
 refine Nbs (NaT (hdi _)) gHd out1 rfl rfl (Nbh _) (by rw [Nai, Nat.mul_one]) (by first | omega | (simp only [Z0L_, Nb2, Nat.add_assoc, Nat.reduceAdd]; omega) | (simp only; omega)) ?_
 intro w3 st3 o3 _ c3 f3
 (try simp only [Z0L_] at c3)
 replace ob := ob.over f3 rfl (by first | omega | (simp only; omega)) (by first | omega | (simp only; omega))
 replace o1 := o1.over f3 rfl (by first | omega | (simp only; omega)) (by first | omega | (simp only; omega))
 replace o2 := o2.over f3 rfl (by first | omega | (simp only; omega)) (by first | omega | (simp only; omega))
 (repeat (first | rw [Z0] | simp (maxSteps := 2000000) (disch := first | omega | rfl | assumption) only [↓Xp, ↓Xt, Xq, Xc, Nac, Naa, Nat.reduceAdd, Nat.reduceMul, Nat.reduceLT, Nat.reduceEqDiff, reduceIte, Xa, Xn, unP, Nau, Nav, Nao, Xm, Nat.reduceLeDiff, List.nil_append, List.cons_append, g0, g1, g2]))
 refine Nbs (NaT (hdi _)) gHr out1 rfl rfl (Nbh _) (by rw [Nai, Nat.mul_one]) (by first | omega | (simp only [Z0L_, Nb2, Nat.add_assoc, Nat.reduceAdd]; omega) | (simp only; omega)) ?_
 intro w4 st4 o4 _ c4 f4
 (try simp only [Z0L_] at c4)
 replace ob := ob.over f4 rfl (by first | omega | (simp only; omega)) (by first | omega | (simp only; omega))
 replace o1 := o1.over f4 rfl (by first | omega | (simp only; omega)) (by first | omega | (simp only; omega))
 replace o2 := o2.over f4 rfl (by first | omega | (simp only; omega)) (by first | omega | (simp only; omega))
 replace o3 := o3.over f4 rfl (by first | omega | (simp only; omega)) (by first | omega | (simp only; omega))
 (repeat (first | rw [Z0] | simp (maxSteps := 2000000) (disch := first | omega | rfl | assumption) only [↓Xp, ↓Xt, Xq, Xc, Nac, Naa, Nat.reduceAdd, Nat.reduceMul, Nat.reduceLT, Nat.reduceEqDiff, reduceIte, Xa, Xn, unP, Nau, Nav, Nao, Xm, Nat.reduceLeDiff, List.nil_append, List.cons_append, g0, g1, g2]))
 refine Nbs (NbO (hdi _) ((o2.cnt (by omega)).deepE2 rfl).1) (gPk (o2.deepE2 rfl).2) out2 rfl rfl (Nbh _) (by rw [Nai, Nat.mul_one]) (by first | omega | (simp only [Z0L_, Nb2, Nat.add_assoc, Nat.reduceAdd]; omega) | (simp only; omega)) ?_
 intro w5 st5 o5 _ c5 f5
 (try simp only [Z0L_] at c5)
 replace ob := ob.over f5 rfl (by first | omega | (simp only; omega)) (by first | omega | (simp only; omega))
 replace o1 := o1.over f5 rfl (by first | omega | (simp only; omega)) (by first | omega | (simp only; omega))
 replace o2 := o2.over f5 rfl (by first | omega | (simp only; omega)) (by first | omega | (simp only; omega))
 replace o3 := o3.over f5 rfl (by first | omega | (simp only; omega)) (by first | omega | (simp only; omega))
 replace o4 := o4.over f5 rfl (by first | omega | (simp only; omega)) (by first | omega | (simp only; omega))
 (repeat (first | rw [Z0] | simp (maxSteps := 2000000) (disch := first | omega | rfl | assumption) only [↓Xp, ↓Xt, Xq, Xc, Nac, Naa, Nat.reduceAdd, Nat.reduceMul, Nat.reduceLT, Nat.reduceEqDiff, reduceIte, Xa, Xn, unP, Nau, Nav, Nao, Xm, Nat.reduceLeDiff, List.nil_append, List.cons_append, g0, g1, g2]))
 refine Nbs (NbO (hdi _) (hdl _)) (gPr (NeG l)) out2 rfl rfl (Nbh _) (by rw [Nai, Nat.mul_one]) (by first | omega | (simp only [Z0L_, Nb2, Nat.add_assoc, Nat.reduceAdd]; omega) | (simp only; omega)) ?_
 intro w6 st6 o6 _ c6 f6
 (try simp only [Z0L_] at c6)
 replace ob := ob.over f6 rfl (by first | omega | (simp only; omega)) (by first | omega | (simp only; omega))
 replace o1 := o1.over f6 rfl (by first | omega | (simp only; omega)) (by first | omega | (simp only; omega))
 replace o2 := o2.over f6 rfl (by first | omega | (simp only; omega)) (by first | omega | (simp only; omega))
 replace o3 := o3.over f6 rfl (by first | omega | (simp only; omega)) (by first | omega | (simp only; omega))
 replace o4 := o4.over f6 rfl (by first | omega | (simp only; omega)) (by first | omega | (simp only; omega))
 replace o5 := o5.over f6 rfl (by first | omega | (simp only; omega)) (by first | omega | (simp only; omega))
 (repeat (first | rw [Z0] | simp (maxSteps := 2000000) (disch := first | omega | rfl | assumption) only [↓Xp, ↓Xt, Xq, Xc, Nac, Naa, Nat.reduceAdd, Nat.reduceMul, Nat.reduceLT, Nat.reduceEqDiff, reduceIte, Xa, Xn, unP, Nau, Nav, Nao, Xm, Nat.reduceLeDiff, List.nil_append, List.cons_append, g0, g1, g2]))
 refine Nbs (NaT (o1.cnt (by omega)).deepV) (gSc o1.inV) out3 rfl rfl (NbQ _) (NaI _) (by first | omega | (simp only [Z0L_, Nb2, Nat.add_assoc, Nat.reduceAdd]; omega) | (simp only; omega)) ?_
 intro w7 st7 o7 _ c7 f7
 (try simp only [Z0L_] at c7)
 replace ob := ob.over f7 rfl (by first | omega | (simp only; omega)) (by first | omega | (simp only; omega))
 replace o1 := o1.over f7 rfl (by first | omega | (simp only; omega)) (by first | omega | (simp only; omega))
 replace o2 := o2.over f7 rfl (by first | omega | (simp only; omega)) (by first | omega | (simp only; omega))
 replace o3 := o3.over f7 rfl (by first | omega | (simp only; omega)) (by first | omega | (simp only; omega))
 replace o4 := o4.over f7 rfl (by first | omega | (simp only; omega)) (by first | omega | (simp only; omega))
 replace o5 := o5.over f7 rfl (by first | omega | (simp only; omega)) (by first | omega | (simp only; omega))
 replace o6 := o6.over f7 rfl (by first | omega | (simp only; omega)) (by first | omega | (simp only; omega))
 (repeat (first | rw [Z0] | simp (maxSteps := 2000000) (disch := first | omega | rfl | assumption) only [↓Xp, ↓Xt, Xq, Xc, Nac, Naa, Nat.reduceAdd, Nat.reduceMul, Nat.reduceLT, Nat.reduceEqDiff, reduceIte, Xa, Xn, unP, Nau, Nav, Nao, Xm, Nat.reduceLeDiff, List.nil_append, List.cons_append, g0, g1, g2]))
 refine Nbs (NaT (ob.cnt (by omega)).deepV) (gSr ob.inV) out3 rfl rfl (NbQ _) (NaI _) (by first | omega | (simp only [Z0L_, Nb2, Nat.add_assoc, Nat.reduceAdd]; omega) | (simp only; omega)) ?_
 intro w8 st8 o8 _ c8 f8
 (try simp only [Z0L_] at c8)
 replace ob := ob.over f8 rfl (by first | omega | (simp only; omega)) (by first | omega | (simp only; omega))
 replace o1 := o1.over f8 rfl (by first | omega | (simp only; omega)) (by first | omega | (simp only; omega))
 replace o2 := o2.over f8 rfl (by first | omega | (simp only; omega)) (by first | omega | (simp only; omega))
 replace o3 := o3.over f8 rfl (by first | omega | (simp only; omega)) (by first | omega | (simp only; omega))
 replace o4 := o4.over f8 rfl (by first | omega | (simp only; omega)) (by first | omega | (simp only; omega))
 replace o5 := o5.over f8 rfl (by first | omega | (simp only; omega)) (by first | omega | (simp only; omega))
 replace o6 := o6.over f8 rfl (by first | omega | (simp only; omega)) (by first | omega | (simp only; omega))
 replace o7 := o7.over f8 rfl (by first | omega | (simp only; omega)) (by first | omega | (simp only; omega))
 (repeat (first | rw [Z0] | simp (maxSteps := 2000000) (disch := first | omega | rfl | assumption) only [↓Xp, ↓Xt, Xq, Xc, Nac, Naa, Nat.reduceAdd, Nat.reduceMul, Nat.reduceLT, Nat.reduceEqDiff, reduceIte, Xa, Xn, unP, Nau, Nav, Nao, Xm, Nat.reduceLeDiff, List.nil_append, List.cons_append, g0, g1, g2]))
 refine Nbs (NaT (o1.cnt (by omega)).deepV) (gUn o1.inV) out4 rfl rfl (NbQ _) (NaI _) (by first | omega | (simp only [Z0L_, Nb2, Nat.add_assoc, Nat.reduceAdd]; omega) | (simp only; omega)) ?_
 intro w9 st9 o9 _ c9 f9
 (try simp only [Z0L_] at c9)
 replace ob := ob.over f9 rfl (by first | omega | (simp only; omega)) (by first | omega | (simp only; omega))
 replace o1 := o1.over f9 rfl (by first | omega | (simp only; omega)) (by first | omega | (simp only; omega))
 replace o2 := o2.over f9 rfl (by first | omega | (simp only; omega)) (by first | omega | (simp only; omega))
 replace o3 := o3.over f9 rfl (by first | omega | (simp only; omega)) (by first | omega | (simp only; omega))
 replace o4 := o4.over f9 rfl (by first | omega | (simp only; omega)) (by first | omega | (simp only; omega))
 replace o5 := o5.over f9 rfl (by first | omega | (simp only; omega)) (by first | omega | (simp only; omega))
 replace o6 := o6.over f9 rfl (by first | omega | (simp only; omega)) (by first | omega | (simp only; omega))
 replace o7 := o7.over f9 rfl (by first | omega | (simp only; omega)) (by first | omega | (simp only; omega))
 replace o8 := o8.over f9 rfl (by first | omega | (simp only; omega)) (by first | omega | (simp only; omega))
 (repeat (first | rw [Z0] | simp (maxSteps := 2000000) (disch := first | omega | rfl | assumption) only [↓Xp, ↓Xt, Xq, Xc, Nac, Naa, Nat.reduceAdd, Nat.reduceMul, Nat.reduceLT, Nat.reduceEqDiff, reduceIte, Xa, Xn, unP, Nau, Nav, Nao, Xm, Nat.reduceLeDiff, List.nil_append, List.cons_append, g0, g1, g2]))
 refine Nbs (NaT (ob.cnt (by omega)).deepV) (gUr ob.inV) out4 rfl rfl (NbQ _) (NaI _) (by first | omega | (simp only [Z0L_, Nb2, Nat.add_assoc, Nat.reduceAdd]; omega) | (simp only; omega)) ?_
 intro wa sta oa _ ca fa
 (try simp only [Z0L_] at ca)
 replace ob := ob.over fa rfl (by first | omega | (simp only; omega)) (by first | omega | (simp only; omega))
 replace o1 := o1.over fa rfl (by first | omega | (simp only; omega)) (by first | omega | (simp only; omega))
 replace o2 := o2.over fa rfl (by first | omega | (simp only; omega)) (by first | omega | (simp only; omega))
 replace o3 := o3.over fa rfl (by first | omega | (simp only; omega)) (by first | omega | (simp only; omega))
 replace o4 := o4.over fa rfl (by first | omega | (simp only; omega)) (by first | omega | (simp only; omega))
 replace o5 := o5.over fa rfl (by first | omega | (simp only; omega)) (by first | omega | (simp only; omega))
 replace o6 := o6.over fa rfl (by first | omega | (simp only; omega)) (by first | omega | (simp only; omega))
 replace o7 := o7.over fa rfl (by first | omega | (simp only; omega)) (by first | omega | (simp only; omega))
 replace o8 := o8.over fa rfl (by first | omega | (simp only; omega)) (by first | omega | (simp only; omega))
 replace o9 := o9.over fa rfl (by first | omega | (simp only; omega)) (by first | omega | (simp only; omega))
 have t1 := fun M (hM : sta.cnt ≤ M) key => kSb (key := key) (o3.cnt hM).deepV (o4.cnt hM).deepV o3.inV o4.inV
 have t2 := fun M (hM : sta.cnt ≤ M) key => kSb (key := key) (o5.cnt hM).deepV (o6.cnt hM).deepV o5.inV o6.inV
 have t3 := fun M (hM : sta.cnt ≤ M) key => kSe (key := key) hL3 ((o7.cnt hM).deepE2 rfl).1 ((o8.cnt hM).deepE2 rfl).1 (o7.deepE2 rfl).2 (o8.deepE2 rfl).2
 have t4 := fun M (hM : sta.cnt ≤ M) key => kSe (key := key) hL4 ((o9.cnt hM).deepE2 rfl).1 ((oa.cnt hM).deepE2 rfl).1 (o9.deepE2 rfl).2 (oa.deepE2 rfl).2
 have t5 := fun M (hM : sta.cnt ≤ M) key => kSb (key := key) (o1.cnt hM).deepV (ob.cnt hM).deepV o1.inV ob.inV
 have t6 := fun M (hM : sta.cnt ≤ M) key => kSe (key := key) (by omega) ((o2.cnt hM).deepE2 rfl).1 (hdl ⟨sta.sto, M⟩) (o2.deepE2 rfl).2 (NeG l)
 have hee : ∀ x : Int, (x == x) = true := fun x => beq_self_eq_true x
 simp (disch := first | omega | rfl | assumption) only [↓Xp, ↓Xt, Xq, Xc, Nac, Naa, Nat.reduceAdd, Nat.reduceMul, Nat.reduceLT, Nat.reduceEqDiff, reduceIte, Xa, Xn, unP, Nau, Nav, Nao, Xm, Nat.reduceLeDiff, List.nil_append, List.cons_append]
 rw [Z0]
 simp (maxSteps := 2000000) (disch := first | omega | rfl | assumption) only [↓Xp, ↓Xt, Xq, Xc, Nac, Naa, Nat.reduceAdd, Nat.reduceMul, Nat.reduceLT, Nat.reduceEqDiff, reduceIte, Xa, Xn, unP, Nau, Nav, Nao, Xl, Nat.reduceLeDiff, g0, g1, g2, t1, t2, t3, hee]
 rw [Z0]
 simp (maxSteps := 2000000) (disch := first | omega | rfl | assumption) only [↓Xp, ↓Xt, Xq, Xc, Nac, Naa, Nat.reduceAdd, Nat.reduceMul, Nat.reduceLT, Nat.reduceEqDiff, reduceIte, Xa, Xn, unP, Nau, Nav, Nao, Xl, Nat.reduceLeDiff, g0, g1, g2, t4, t5, t6, hee, aw]
 refine ⟨nofun, _, rfl, ?_⟩
 simp only [Naz, ↓Z0, ↓Xp, ↓Xt, Xq, Xc, Nac, Naa, Nat.reduceAdd, Nat.reduceMul, Nat.reduceLT, Nat.reduceEqDiff, reduceIte]
theorem Nj4 (first : Int) (h1 : (Lit.int .i64 first).wf = true) (n : Nat) (ps : List PV) (hl : ps.length = n * evSh.width) (hn : n ≤ reachBytes) (h : ∀ j, j < n → evSh.Is ((ps.drop (j * evSh.width)).take evSh.width)) (n2 : Nat) (ps2 : List PV) (hl2 : ps2.length = n2 * (Sh.i .u8).width) (hn2 : n2 ≤ reachBytes) (hh : ∀ j, j < n2 → (Sh.i .u8).Is ((ps2.drop (j * (Sh.i .u8).width)).take (Sh.i .u8).width)) (sealed : Bool) : ∃ fuel, evP cfgL4 fuel 4 [.i .i64 first, .fsl n ps, .fsl n2 ps2, .b sealed] = some (.b true) := by
 obtain ⟨l, rfl, rfl, hE⟩ := Nox hl h
 obtain ⟨b, rfl, rfl⟩ := NjL hl2 hh
 exact NlS (Nhv h1) hE
end Go.Pe
