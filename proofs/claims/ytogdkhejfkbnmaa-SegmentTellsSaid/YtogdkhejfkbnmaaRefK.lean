/-
 The document's answer for layer 4: Unpack; all references of the layers 3 and 4 as a level. No condition.
-/
import Derived.Test.YtogdkhejfkbnmaaRefJ
set_option linter.unusedVariables false
set_option linter.unusedSimpArgs false
namespace Go.Pe
open Go Go.Am Go.RowKit

theorem Nlv {b : List UInt8} {k : Nat} : ∀ (f : Nat) {m : Nat} {n last : Int} {fst : Bool} {a : Int} {vs : List Int} {a' : Int}, NgQ b k f m n last fst a = some (vs, a') → a ≤ b.length → a' ≤ b.length
 | 0, m, n, last, fst, a, vs, a', h, ha => by
   unfold NgQ at h
   split at h
   ·simp only [Sj, Pj] at h; omega
   ·simp at h
 | f + 1, m, n, last, fst, a, vs, a', h, ha => by
   rw [NlH] at h
   split at h
   ·simp only [Sj, Pj] at h; omega
   split at h
   ·simp at h
   split at h
   ·simp at h
   rename_i hc
   split at h
   ·simp at h
   ·rename_i ws n' hr
    obtain ⟨p, hp, hq⟩ := Option.map_eq_some_iff.mp h
    simp only [Pj] at hq
    have h0 : (Nax b (Na5 b a).2.1).2.2 = 0 := Classical.byContradiction fun h => hc (.inl h)
    have := (NbY h0).2.2
    obtain ⟨_, _, _, hle⟩ := this
    exact hq.2 ▸ Nlv f (vs := p.1) (a' := p.2) hp hle
theorem Ni6 {m : List UInt8} : ∀ (ks : List Nat) {a : Int} {L L' : List Ev} {a' : Int}, NcK m ks a L = some (L', a') → a ≤ m.length → a' ≤ m.length
 | [], a, L, L', a', h, ha => by
   simp only [NcK, Sj, Pj] at h; omega
 | k :: ks, a, L, L', a', h, ha => by
   unfold NcK at h
   split at h
   ·simp at h
   ·rename_i vs a2 hv
    exact Ni6 ks h (Nlv _ hv ha)
theorem NlX {m : List UInt8} {n : Nat} {L : List Ev} {a : Int} (h : Nc4 m = some (n, L, a)) : a ≤ m.length := by
 unfold Nc4 at h
 split at h
 ·simp at h
 split at h
 ·simp at h
 split at h
 ·simp at h
 rename_i hc
 obtain ⟨p, hp, hq⟩ := Option.map_eq_some_iff.mp h
 simp only [Pj] at hq
 have h0 : (Nax m (Nax m 4).2.1).2.2 = 0 := Classical.byContradiction fun h => hc (.inl h)
 obtain ⟨_, _, _, hle⟩ := (NbY h0).2.2
 exact hq.2.2 ▸ Ni6 _ (L' := p.1) (a' := p.2) hp hle
def NeO : List PV → Option PV
 | [v] => match inL v with
   | some l => if l.length ≤ 140737488355000 then some (NhM l) else none
   | none => none
 | _ => none
def Nl4 : FuncId → Option (List PV → Option PV) := fun f => if f = 76 then some Nce else if f = 78 then some NdY else if f = 79 then some Ngl else if f = 48 then some Nko else if f = 17 then some NcV else if f = 35 then some Nd5 else if f = 49 then some NgN else if f = 16 then some gRSeal else none
noncomputable def cfgR11 : Cfg := { fn := fun f => Nbr f tblL, ext := Nl4 }
theorem Nlr {Gl : Gmap} : ∀ f g, Nl4 f = some g → NbJ Go.Proofs.Try.prog Gl f g := by
 intro f g h
 unfold Nl4 at h
 by_cases e : f = 76
 ·subst e; rw [if_pos rfl] at h; cases h
  exact Nam NcC NdX
 rw [if_neg e] at h; clear e
 by_cases e : f = 78
 ·subst e; rw [if_pos rfl] at h; cases h
  exact Nam NjO NhA
 rw [if_neg e] at h; clear e
 by_cases e : f = 79
 ·subst e; rw [if_pos rfl] at h; cases h
  exact Nam NbG NlZ
 rw [if_neg e] at h; clear e
 by_cases e : f = 48
 ·subst e; rw [if_pos rfl] at h; cases h
  exact Nam NbG Nn9
 rw [if_neg e] at h; clear e
 by_cases e : f = 17
 ·subst e; rw [if_pos rfl] at h; cases h
  exact Nam NcC Nfh
 rw [if_neg e] at h; clear e
 by_cases e : f = 35
 ·subst e; rw [if_pos rfl] at h; cases h
  exact Nam NbG Ndo
 rw [if_neg e] at h; clear e
 by_cases e : f = 49
 ·subst e; rw [if_pos rfl] at h; cases h
  exact Nam Nji Ni9
 rw [if_neg e] at h; clear e
 by_cases e : f = 16
 ·subst e; rw [if_pos rfl] at h; cases h
  exact Nam New NdA
 rw [if_neg e] at h; clear e
 cases h
theorem Ng4 {Gl : Gmap} : CfgOK Go.Proofs.Try.prog Gl cfgR11 := NaP NaQ Nlr
theorem Nj1 (args : List PV) (r : PV) (h : NeO args = some r) : ∃ fuel, evP cfgR11 fuel 53 args = some r := by
 unfold NeO at h
 split at h
 ·split at h
  ·rename_i v l hl
   split at h
   ·rename_i hc
    simp only [Sj] at h
    subst h
    exact ⟨1048600 + 1, Na2 (by kernel_rfl) (NaH hl) (Nmf (cfg := cfgR11) (by kernel_rfl) (by kernel_rfl) (by kernel_rfl) (by kernel_rfl) hl hc (Nat.le_refl _))⟩
   ·simp at h
  ·simp at h
 ·simp at h
theorem Npk {a : Int} {v : PV} {l : List Ev} (h : Nf7 v = some l) : NaO [.i .i64 a, v] = ([.i .i64 a, v], { sto := .leaf, cnt := 1 }) := by
 cases v <;> first | rfl | simp [Nf7] at h
def gRPack : List PV → Option PV
 | [.i .i64 n, v] => match Nf7 v with
   | some l => if -9223372036854775808 ≤ n ∧ n < 9223372036854775808 ∧ l.length ≤ 140737488355327 then some (Ndn n l) else none
   | none => none
 | _ => none
theorem Nlu (args : List PV) (r : PV) (h : gRPack args = some r) : ∃ fuel, evP cfgR11 fuel 25 args = some r := by
 unfold gRPack at h
 split at h
 ·rename_i n v
  split at h
  ·rename_i l hl
   split at h
   ·rename_i hc
    simp only [Sj] at h
    subst h
    exact ⟨1048600 + 1, Na2 (by kernel_rfl) (Npk hl) (Nm8 (cfg := cfgR11) (by kernel_rfl) (by kernel_rfl) (by kernel_rfl) (by kernel_rfl) (by kernel_rfl) (by kernel_rfl) ⟨hc.1, by omega⟩ (Nc8 hl) hc.2.2 (Nat.le_refl _))⟩
   ·simp at h
  ·simp at h
 ·simp at h
def NkW : FuncId → Option (List PV → Option PV) := fun f => if f = 52 then some NdI else if f = 53 then some NeO else none
noncomputable def cfgR12 : Cfg := { fn := fun f => Nbr f tblL, ext := NkW }
theorem Nl0 {Gl : Gmap} : ∀ f g, NkW f = some g → NbJ Go.Proofs.Try.prog Gl f g := by
 intro f g h
 unfold NkW at h
 by_cases e : f = 52
 ·subst e; rw [if_pos rfl] at h; cases h
  exact Nam Ne7 Niz
 rw [if_neg e] at h; clear e
 by_cases e : f = 53
 ·subst e; rw [if_pos rfl] at h; cases h
  exact Nam Ng4 Nj1
 rw [if_neg e] at h; clear e
 cases h
theorem NlI {Gl : Gmap} : CfgOK Go.Proofs.Try.prog Gl cfgR12 := NaP NaQ Nl0
theorem Nl1 {g : List PV → Option PV} {st : St} {key sz n : Nat} {ps ps' pre post cs : List PV} {Q : PV → St → Prop} (hd : NaU st ps = some ps') (hg : g ps' = some (.tup (pre ++ .osl sz n cs :: post))) (h1 : pre.all PV.scal = true) (h2 : post.all PV.scal = true) (hc : clO cs = true) (hl : cs.length = n * sz) (hk : key < st.cnt)
 (q : ∀ st', Own st' sz (.rsl key sz 0 n) n cs → st'.cnt = st.cnt → (∀ j, j ≠ key → st'.get j = st.get j) → Q (.tup (pre ++ .rsl key sz 0 n :: post)) st') : WV (Naf g false st key ps) Q := by
 refine ⟨_, st.put key (some (.cells cs false)), ?_, q _ (.inr ⟨key, rfl, St.get_putk _ _ _, hl, hk⟩) rfl (fun j hj => St.get_put_ne fun e => hj e.symm)⟩
 unfold Naf
 simp only [hd, hg, Nfu h1 h2 hc, if_true, Ng8 h1 h2]
theorem NkC {cfg : Cfg} (hf : cfg.fn 27 = some m27) (hx1 : cfg.ext 52 = some NdI) (hx2 : cfg.ext 53 = some NeO) {v : PV} {b : List UInt8} (hv : inL v = some b) (hl : b.length ≤ 140737488355000) {fuel : Nat} :
 ∃ r st', NaB cfg (fuel + 1) 27 [v] { sto := .leaf, cnt := 1 } = some (r, st') ∧ Naq st' r = some (Nck b) := by
 refine Naw hf ?_
 unfold m27
 unfold Nck NgH
 have hus : Nag cfg (NaB cfg fuel) 52 [v] = some (NdR b) := by
  rw [Nad hx1]
  unfold NdI
  simp only [hv]
  rw [if_pos hl]
 unfold NdR at hus
 have hlv := Nba hv
 by_cases h0 : b.length < 4
 ·rw [if_pos h0] at hus ⊢
  have hcl : ∀ (st : St) (key : Nat), Naf (Nag cfg (NaB cfg fuel) 52) false st key [v] = some (.tup [.nsl, .i .i64 11], st) := fun st key => Nas (NaT (Ncn hv)) hus rfl
  simp (disch := first | omega | rfl | assumption) only [Nae, ↓Z0, ↓Xp, ↓Xt, Xq, Xc, Nac, Naa, Nat.reduceAdd, Nat.reduceMul, Nat.reduceLT, Nat.reduceEqDiff, reduceIte, Xm, Nat.reduceLeDiff, Xa, Xn, unP, Nau, Nav, Nao, hcl]
  refine ⟨nofun, _, rfl, ?_⟩
  simp only [Naz, ↓Z0, ↓Xp, ↓Xt, Xq, Xc, Nac, Naa, Nat.reduceAdd, Nat.reduceMul, Nat.reduceLT, Nat.reduceEqDiff, reduceIte]
  rfl
 rw [if_neg h0] at hus ⊢
 by_cases h1 : NaD (b.take (b.length - 4)) = b
 ·rw [if_pos h1] at hus ⊢
  obtain ⟨m, hm⟩ : ∃ m, b.take (b.length - 4) = m := ⟨_, rfl⟩
  have hml : m.length = b.length - 4 := by rw [← hm, List.length_take]; omega
  rw [hm, ← hml] at hus
  rw [hm, Nnt]
  have hds : ∀ w, inL w = some m → Nag cfg (NaB cfg fuel) 53 [w] = some (NhM m) := fun w hw => by
   rw [Nad hx2]
   unfold NeO
   simp only [hw]
   rw [if_pos (by omega)]
  unfold NhM at hds
  (repeat (first | rw [Z0] | simp (maxSteps := 2000000) (disch := first | omega | rfl | assumption) only [↓Xp, ↓Xt, Xq, Xc, Nac, Naa, Nat.reduceAdd, Nat.reduceMul, Nat.reduceLT, Nat.reduceEqDiff, reduceIte, Xa, Xn, unP, Nau, Nav, Nao, Xm, Nat.reduceLeDiff, List.nil_append, List.cons_append, Nae]))
  refine Nbs (pre := []) (post := [.i .i64 0]) (NaT (Ncn hv)) hus (OutV.osl _ _ _) rfl rfl (Nbh _) (by rw [Nai, Nat.mul_one]) (by first | omega | (simp only [Z0L_, Nb2, Nat.add_assoc, Nat.reduceAdd]; omega) | (simp only; omega)) ?_
  intro w st1 o1 _ c1 f1
  (try simp only [Z0L_] at c1)
  cases hd : Nc4 m with
  | none =>
    rw [hd] at hds
    have hcl : ∀ N key, st1.cnt ≤ N → Naf (Nag cfg (NaB cfg fuel) 53) false ⟨st1.sto, N⟩ key [w] = some (.tup [.i .i64 0, .nsl, .b false], ⟨st1.sto, N⟩) := fun N key h => Nas (NaT (o1.cnt h).deepV) (hds _ (o1.cnt h).inV) rfl
    simp (disch := first | omega | rfl | assumption) only [↓Z0, ↓Xp, ↓Xt, Xq, Xc, Nac, Naa, Nat.reduceAdd, Nat.reduceMul, Nat.reduceLT, Nat.reduceEqDiff, reduceIte, Xm, Nat.reduceLeDiff, Xa, Xn, unP, Nau, Nav, Nao, List.nil_append, hcl]
    refine ⟨nofun, _, rfl, ?_⟩
    simp only [Naz, ↓Z0, ↓Xp, ↓Xt, Xq, Xc, Nac, Naa, Nat.reduceAdd, Nat.reduceMul, Nat.reduceLT, Nat.reduceEqDiff, reduceIte]
    rfl
  | some r =>
    obtain ⟨n, L, a⟩ := r
    rw [hd] at hds
    have hle := NlX hd
    simp only at hds ⊢
    (repeat (first | rw [Z0] | simp (maxSteps := 2000000) (disch := first | omega | rfl | assumption) only [↓Xp, ↓Xt, Xq, Xc, Nac, Naa, Nat.reduceAdd, Nat.reduceMul, Nat.reduceLT, Nat.reduceEqDiff, reduceIte, Xa, Xn, unP, Nau, Nav, Nao, Xm, Nat.reduceLeDiff, List.nil_append, List.cons_append]))
    refine Nl1 (pre := [.i .i64 (n : Int)]) (post := [.b (a == (m.length : Int))]) (NaT (o1.cnt (by omega)).deepV) (hds _ (o1.cnt (Nat.le_refl _)).inV) rfl rfl (NbQ _) (NaI _) (by first | omega | (simp only [Z0L_, Nb2, Nat.add_assoc, Nat.reduceAdd]; omega) | (simp only; omega)) ?_
    intro st2 o2 c2 f2
    (try simp only [Z0L_] at c2)
    by_cases h2 : a = (m.length : Int)
    ·have hb : (a == (m.length : Int)) = true := by rw [h2]; exact beq_self_eq_true _
     have hlt2 : ¬ a < (m.length : Int) := by omega
     rw [hb, if_neg hlt2]
     simp (disch := first | omega | rfl | assumption) only [↓Z0, ↓Xp, ↓Xt, Xq, Xc, Nac, Naa, Nat.reduceAdd, Nat.reduceMul, Nat.reduceLT, Nat.reduceEqDiff, reduceIte, Xm, Nat.reduceLeDiff, Xa, Xn, unP, Nau, Nav, Nao, List.nil_append, List.cons_append]
     refine ⟨nofun, _, rfl, ?_⟩
     simp only [Naz, ↓Z0, ↓Xp, ↓Xt, Xq, Xc, Nac, Naa, Nat.reduceAdd, Nat.reduceMul, Nat.reduceLT, Nat.reduceEqDiff, reduceIte]
     have hcl := fun N => Nbj (st := ⟨st2.sto, st2.cnt + N⟩) (pre := [.i .i64 (n : Int)]) (post := [.i .i64 0]) (o2.cnt (Nat.le_add_right st2.cnt N)) rfl rfl (NbQ L) (by decide)
     exact hcl _
    ·have hb : (a == (m.length : Int)) = false := by simpa using h2
     have hlt2 : a < (m.length : Int) := by omega
     rw [hb, if_pos hlt2]
     simp (disch := first | omega | rfl | assumption) only [↓Z0, ↓Xp, ↓Xt, Xq, Xc, Nac, Naa, Nat.reduceAdd, Nat.reduceMul, Nat.reduceLT, Nat.reduceEqDiff, reduceIte, Xm, Nat.reduceLeDiff, Xa, Xn, unP, Nau, Nav, Nao, List.nil_append, List.cons_append]
     refine ⟨nofun, _, rfl, ?_⟩
     simp only [Naz, ↓Z0, ↓Xp, ↓Xt, Xq, Xc, Nac, Naa, Nat.reduceAdd, Nat.reduceMul, Nat.reduceLT, Nat.reduceEqDiff, reduceIte]
     rfl
 ·rw [if_neg h1] at hus ⊢
  have hcl : ∀ (st : St) (key : Nat), Naf (Nag cfg (NaB cfg fuel) 52) false st key [v] = some (.tup [.nsl, .i .i64 12], st) := fun st key => Nas (NaT (Ncn hv)) hus rfl
  simp (disch := first | omega | rfl | assumption) only [Nae, ↓Z0, ↓Xp, ↓Xt, Xq, Xc, Nac, Naa, Nat.reduceAdd, Nat.reduceMul, Nat.reduceLT, Nat.reduceEqDiff, reduceIte, Xm, Nat.reduceLeDiff, Xa, Xn, unP, Nau, Nav, Nao, hcl]
  refine ⟨nofun, _, rfl, ?_⟩
  simp only [Naz, ↓Z0, ↓Xp, ↓Xt, Xq, Xc, Nac, Naa, Nat.reduceAdd, Nat.reduceMul, Nat.reduceLT, Nat.reduceEqDiff, reduceIte]
  rfl
def gRUnpack : List PV → Option PV
 | [v] => match inL v with
   | some l => if l.length ≤ 140737488355000 then some (Nck l) else none
   | none => none
 | _ => none
theorem Niq (args : List PV) (r : PV) (h : gRUnpack args = some r) : ∃ fuel, evP cfgR12 fuel 27 args = some r := by
 unfold gRUnpack at h
 split at h
 ·split at h
  ·rename_i v l hl
   split at h
   ·rename_i hc
    simp only [Sj] at h
    subst h
    exact ⟨0 + 1, Na2 (by kernel_rfl) (NaH hl) (NkC (cfg := cfgR12) (by kernel_rfl) (by kernel_rfl) (by kernel_rfl) hl hc)⟩
   ·simp at h
  ·simp at h
 ·simp at h
end Go.Pe
