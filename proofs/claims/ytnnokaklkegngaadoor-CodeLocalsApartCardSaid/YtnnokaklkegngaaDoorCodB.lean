/-
 Code: does an expression name a place; how much there is of it. No condition.
-/
import Derived.Test.YtnnokaklkegngaaDoorCodA
import Derived.Test.YtnnokaklkegngaaDoorPrgB
set_option linter.unusedVariables false
set_option linter.unusedSimpArgs false
set_option maxHeartbeats 8000000
namespace Go.Pe
open Go Go.Am Go.RowKit

theorem Exs.wf_mem : ∀ {l : List Ex} {e : Ex}, Exs.wf l → e ∈ l → e.wf
 | [], e, _, h => by simp at h
 | a :: r, e, h, hm => by
   rw [Exs.wf] at h
   rcases List.mem_cons.1 hm with rfl | hm
   ·exact h.1
   ·exact Exs.wf_mem h.2 hm
theorem Ex.wf_eq (e : Ex) : e.wf = ((Lit.int .i64 e.N).wf = true ∧ e.S.length ≤ reachBytes ∧ e.L.length ≤ reachBytes ∧ Exs.wf e.L) := by cases e; rw [Ex.wf]; rfl
mutual
def Ex.names (p : Int) : Ex → Bool
 | .mk k s n z L => if k.toNat = 2 ∧ n = p then true else Exs.names p L
def Exs.names (p : Int) : List Ex → Bool
 | [] => false
 | e :: r => if e.names p = true then true else Exs.names p r
end
theorem Ex.names_eq (p : Int) (e : Ex) : e.names p = if e.K.toNat = 2 ∧ e.N = p then true else Exs.names p e.L := by cases e; rw [Ex.names]; rfl
theorem NbH {k : IntKind} {a n p : Int} {s : List UInt8} {z : Bool} {m : Nat} (cs : List PV) : Naq [.agg [.i k a, .s s, .i .i64 n, slV z m cs], .i .i64 p] = ([.agg [.i k a, .s s, .i .i64 n, slV z m cs], .i .i64 p], { sto := .leaf, cnt := 1 }) := by
 unfold slV
 split <;> rfl
structure CfgN (cfg : Cfg) : Prop extends CfgE cfg where
 n1 : cfg.ext 17 = none
 n2 : cfg.ext 15 = none
 n3 : cfg.ext 16 = none
theorem NfP {cfg : Cfg} (hc : CfgN cfg) (p : Int) : ∀ (fuel : Nat) (e : Ex) (st : St), e.size + 1 ≤ fuel → e.wf →
 ∃ r st', NaT cfg (fuel + 1) 17 [.agg e.cs, .i .i64 p] st = some (r, st') ∧ r = .b (e.names p) := by
 intro fuel
 induction fuel with
 | zero => intro e st h; omega
 | succ q ih =>
   intro e st hfu hwf
   refine Nbk (hc.fn _ _ (by kernel_rfl) : cfg.fn 17 = some m17) ?_
   unfold m17
   have hes := Ex.size_eq e
   rw [Ex.wf_eq] at hwf
   obtain ⟨-, -, hwl, hwL⟩ := hwf
   have hll := Exs.len_le e.L
   have hrb : reachBytes < 4611686018427387904 := by decide
   rw [Ex.cs_eq, Ex.names_eq]
   obtain ⟨k, hkk⟩ : ∃ k, e.K.toNat = k := ⟨_, rfl⟩
   rw [hkk]
   have hlv := Nd5 e.z e.L.length (Exs.cs e.L)
   have hsz := Exs.len e.L
   obtain ⟨R, hR⟩ : ∃ R, (if k = 2 ∧ e.N = p then true else Exs.names p e.L) = R := ⟨_, rfl⟩
   rw [hR]
   have gE : ∀ (x : Ex), x ∈ e.L → ∀ (st : St) (key : Nat), Nau (Nam cfg (NaT cfg (q + 1)) 17) false st key [.agg [.i .u8 (x.K.toNat : Int), .s x.S, .i .i64 x.N, slV x.z x.L.length (Exs.cs x.L)], .i .i64 p] = some (.b (x.names p), st) := fun x hx st key => by
    have hm := Exs.size_mem hx
    refine NbD (Nbc (NaP _) rfl) (NaS hc.n1 (NbH _) (fun _ => rfl) ?_) rfl rfl
    have := ih x { sto := .leaf, cnt := 1 } (by omega) (Exs.wf_mem hwL hx)
    rw [Ex.cs_eq] at this
    exact this
   simp only [Nas]
   (try rw [Z0])
   (try simp (maxSteps := 2000000) (disch := first | omega | rfl | assumption) only [↓Xp, ↓Xt, Xq, Xc, Nai, Naa, Nat.reduceAdd, Nat.reduceMul, Nat.reduceLT, Nat.reduceEqDiff, reduceIte, Xa, Xn, unP, Nad, Naf, Nae, Xm, Nat.reduceLeDiff, List.nil_append, List.cons_append, Nah, Nac])
   refine NbA (fun x => ∃ B : Nat, x.env.get 1 = .i .i64 p ∧ x.env.get 2 = .ptr B 0 ∧ B < x.st.cnt ∧ x.st.get B = some (.cells [.i .u8 (k : Int), .s e.S, .i .i64 e.N, slV e.z e.L.length (Exs.cs e.L)] false)) ?_ ?_
   ·exact ⟨st.cnt, rfl, rfl, by simp only [NeY]; omega, by rw [St.get_putk]⟩
   rintro ⟨env, ⟨sto, c⟩⟩ ⟨B, g1, g2, hBc, kB⟩
   simp only at g1 g2 hBc
   replace kB : ∀ n', St.get ⟨sto, n'⟩ B = _ := fun _ => kB
   refine NbM (fun x => Exs.names p e.L = R ∧ x.env.get 1 = .i .i64 p ∧ x.env.get 2 = .ptr B 0 ∧ B < x.st.cnt ∧ x.st.get B = some (.cells [.i .u8 (k : Int), .s e.S, .i .i64 e.N, slV e.z e.L.length (Exs.cs e.L)] false)) ?_ ?_
   ·intro K hK
    by_cases h2 : k = 2
    ·have b2 : ((k : Int) == Int.ofNat 2) = true := by subst h2; rfl
     by_cases hp : e.N = p
     ·have bp : (e.N == p) = true := by simpa using hp
      rw [if_pos ⟨h2, hp⟩] at hR
      (try rw [Z0])
      (try simp (maxSteps := 2000000) (disch := first | omega | rfl | assumption) only [↓Xp, ↓Xt, Xq, Xc, Nai, Naa, Nat.reduceAdd, Nat.reduceMul, Nat.reduceLT, Nat.reduceEqDiff, reduceIte, Xa, Xn, unP, Nad, Naf, Nae, Xm, Nat.reduceLeDiff, List.nil_append, List.cons_append, g1, g2, kB, b2, bp])
      (try rw [Z0])
      (try simp (maxSteps := 2000000) (disch := first | omega | rfl | assumption) only [↓Xp, ↓Xt, Xq, Xc, Nai, Naa, Nat.reduceAdd, Nat.reduceMul, Nat.reduceLT, Nat.reduceEqDiff, reduceIte, Xa, Xn, unP, Nad, Naf, Nae, Xm, Nat.reduceLeDiff, List.nil_append, List.cons_append, g1, g2, kB, b2, bp])
      (try rw [Z0])
      (try simp (maxSteps := 2000000) (disch := first | omega | rfl | assumption) only [↓Xp, ↓Xt, Xq, Xc, Nai, Naa, Nat.reduceAdd, Nat.reduceMul, Nat.reduceLT, Nat.reduceEqDiff, reduceIte, Xa, Xn, unP, Nad, Naf, Nae, Xm, Nat.reduceLeDiff, List.nil_append, List.cons_append, g1, g2, kB, b2, bp])
      exact ⟨nofun, _, rfl, by simp only [Nbu, Env.get_put, if_true]; rw [hR]⟩
     ·have bp : (e.N == p) = false := by simpa using hp
      rw [if_neg (fun h => hp h.2)] at hR
      (try rw [Z0])
      (try simp (maxSteps := 2000000) (disch := first | omega | rfl | assumption) only [↓Xp, ↓Xt, Xq, Xc, Nai, Naa, Nat.reduceAdd, Nat.reduceMul, Nat.reduceLT, Nat.reduceEqDiff, reduceIte, Xa, Xn, unP, Nad, Naf, Nae, Xm, Nat.reduceLeDiff, List.nil_append, List.cons_append, g1, g2, kB, b2, bp])
      (try rw [Z0])
      (try simp (maxSteps := 2000000) (disch := first | omega | rfl | assumption) only [↓Xp, ↓Xt, Xq, Xc, Nai, Naa, Nat.reduceAdd, Nat.reduceMul, Nat.reduceLT, Nat.reduceEqDiff, reduceIte, Xa, Xn, unP, Nad, Naf, Nae, Xm, Nat.reduceLeDiff, List.nil_append, List.cons_append, g1, g2, kB, b2, bp])
      (try rw [Z0])
      (try simp (maxSteps := 2000000) (disch := first | omega | rfl | assumption) only [↓Xp, ↓Xt, Xq, Xc, Nai, Naa, Nat.reduceAdd, Nat.reduceMul, Nat.reduceLT, Nat.reduceEqDiff, reduceIte, Xa, Xn, unP, Nad, Naf, Nae, Xm, Nat.reduceLeDiff, List.nil_append, List.cons_append, g1, g2, kB, b2, bp])
      exact hK _ ⟨hR, by simp [Env.get_put, g1], by simp [Env.get_put, g2], by simp only; omega, kB _⟩
    ·have b2 : ((k : Int) == Int.ofNat 2) = false := by simp; omega
     rw [if_neg (fun h => h2 h.1)] at hR
     (try rw [Z0])
     (try simp (maxSteps := 2000000) (disch := first | omega | rfl | assumption) only [↓Xp, ↓Xt, Xq, Xc, Nai, Naa, Nat.reduceAdd, Nat.reduceMul, Nat.reduceLT, Nat.reduceEqDiff, reduceIte, Xa, Xn, unP, Nad, Naf, Nae, Xm, Nat.reduceLeDiff, List.nil_append, List.cons_append, g1, g2, kB, b2])
     (try rw [Z0])
     (try simp (maxSteps := 2000000) (disch := first | omega | rfl | assumption) only [↓Xp, ↓Xt, Xq, Xc, Nai, Naa, Nat.reduceAdd, Nat.reduceMul, Nat.reduceLT, Nat.reduceEqDiff, reduceIte, Xa, Xn, unP, Nad, Naf, Nae, Xm, Nat.reduceLeDiff, List.nil_append, List.cons_append, g1, g2, kB, b2])
     (try rw [Z0])
     (try simp (maxSteps := 2000000) (disch := first | omega | rfl | assumption) only [↓Xp, ↓Xt, Xq, Xc, Nai, Naa, Nat.reduceAdd, Nat.reduceMul, Nat.reduceLT, Nat.reduceEqDiff, reduceIte, Xa, Xn, unP, Nad, Naf, Nae, Xm, Nat.reduceLeDiff, List.nil_append, List.cons_append, g1, g2, kB, b2])
     exact hK _ ⟨hR, by simp [Env.get_put, g1], by simp [Env.get_put, g2], by simp only; omega, kB _⟩
   clear g1 g2 kB hBc
   rintro ⟨env, ⟨sto, c⟩⟩ ⟨hR2, g1, g2, hBc, kB⟩
   simp only at g1 g2 hBc
   replace kB : ∀ n', St.get ⟨sto, n'⟩ B = _ := fun _ => kB
   refine NbM (fun x => R = false) ?_ ?_
   ·intro K hK
    (try rw [Z0])
    (try simp (maxSteps := 2000000) (disch := first | omega | rfl | assumption) only [↓Xp, ↓Xt, Xq, Xc, Nai, Naa, Nat.reduceAdd, Nat.reduceMul, Nat.reduceLT, Nat.reduceEqDiff, reduceIte, Xa, Xn, unP, Nad, Naf, Nae, Xm, Nat.reduceLeDiff, List.nil_append, List.cons_append, g1, g2, kB, hlv])
    (try rw [Z0])
    (try simp (maxSteps := 2000000) (disch := first | omega | rfl | assumption) only [↓Xp, ↓Xt, Xq, Xc, Nai, Naa, Nat.reduceAdd, Nat.reduceMul, Nat.reduceLT, Nat.reduceEqDiff, reduceIte, Xa, Xn, unP, Nad, Naf, Nae, Xm, Nat.reduceLeDiff, List.nil_append, List.cons_append, g1, g2, kB, hlv])
    refine Z9 (k := e.L.length - 0) (fun m x => ∃ (i : Nat), m = e.L.length - i ∧ i ≤ e.L.length ∧ Exs.names p (e.L.drop i) = R ∧ x.env.get 1 = .i .i64 p ∧ x.env.get 17 = slV e.z e.L.length (Exs.cs e.L) ∧ x.env.get 18 = .i .i64 (e.L.length : Int) ∧ x.env.get 19 = .i .i64 (i : Int)) ?_ ?_ (by omega)
    ·clear g1 g2 kB hBc
     rintro m ⟨env, ⟨sto, c⟩⟩ ⟨i, rfl, hi, hob, g1, g17, g18, g19⟩
     simp only at g1 g17 g18 g19
     by_cases hil : i < e.L.length
     ·rw [NbZ hil] at g17
      have hld := fun st => NcX (st := st) hil
      have gX := gE e.L[i] (List.getElem_mem hil)
      rw [List.drop_eq_getElem_cons hil, Exs.names] at hob
      cases hx : e.L[i].names p with
      | true =>
        rw [hx, if_pos rfl] at hob
        (try rw [Z0])
        (try simp (maxSteps := 2000000) (disch := first | omega | rfl | assumption) only [↓Xp, ↓Xt, Xq, Xc, Nai, Naa, Nat.reduceAdd, Nat.reduceMul, Nat.reduceLT, Nat.reduceEqDiff, reduceIte, Xa, Xn, unP, Nad, Naf, Nae, Xm, Nat.reduceLeDiff, List.nil_append, List.cons_append, g1, g17, g18, g19, hld, hsz, Nac, Nah, gX, hx])
        (try rw [Z0])
        (try simp (maxSteps := 2000000) (disch := first | omega | rfl | assumption) only [↓Xp, ↓Xt, Xq, Xc, Nai, Naa, Nat.reduceAdd, Nat.reduceMul, Nat.reduceLT, Nat.reduceEqDiff, reduceIte, Xa, Xn, unP, Nad, Naf, Nae, Xm, Nat.reduceLeDiff, List.nil_append, List.cons_append, g1, g17, g18, g19, hld, hsz, Nac, Nah, gX, hx])
        (try rw [Z0])
        (try simp (maxSteps := 2000000) (disch := first | omega | rfl | assumption) only [↓Xp, ↓Xt, Xq, Xc, Nai, Naa, Nat.reduceAdd, Nat.reduceMul, Nat.reduceLT, Nat.reduceEqDiff, reduceIte, Xa, Xn, unP, Nad, Naf, Nae, Xm, Nat.reduceLeDiff, List.nil_append, List.cons_append, g1, g17, g18, g19, hld, hsz, Nac, Nah, gX, hx])
        (try rw [Z0])
        (try simp (maxSteps := 2000000) (disch := first | omega | rfl | assumption) only [↓Xp, ↓Xt, Xq, Xc, Nai, Naa, Nat.reduceAdd, Nat.reduceMul, Nat.reduceLT, Nat.reduceEqDiff, reduceIte, Xa, Xn, unP, Nad, Naf, Nae, Xm, Nat.reduceLeDiff, List.nil_append, List.cons_append, g1, g17, g18, g19, hld, hsz, Nac, Nah, gX, hx])
        (try rw [Z0])
        (try simp (maxSteps := 2000000) (disch := first | omega | rfl | assumption) only [↓Xp, ↓Xt, Xq, Xc, Nai, Naa, Nat.reduceAdd, Nat.reduceMul, Nat.reduceLT, Nat.reduceEqDiff, reduceIte, Xa, Xn, unP, Nad, Naf, Nae, Xm, Nat.reduceLeDiff, List.nil_append, List.cons_append, g1, g17, g18, g19, hld, hsz, Nac, Nah, gX, hx])
        (try rw [Z0])
        (try simp (maxSteps := 2000000) (disch := first | omega | rfl | assumption) only [↓Xp, ↓Xt, Xq, Xc, Nai, Naa, Nat.reduceAdd, Nat.reduceMul, Nat.reduceLT, Nat.reduceEqDiff, reduceIte, Xa, Xn, unP, Nad, Naf, Nae, Xm, Nat.reduceLeDiff, List.nil_append, List.cons_append, g1, g17, g18, g19, hld, hsz, Nac, Nah, gX, hx])
        (try rw [Z0])
        (try simp (maxSteps := 2000000) (disch := first | omega | rfl | assumption) only [↓Xp, ↓Xt, Xq, Xc, Nai, Naa, Nat.reduceAdd, Nat.reduceMul, Nat.reduceLT, Nat.reduceEqDiff, reduceIte, Xa, Xn, unP, Nad, Naf, Nae, Xm, Nat.reduceLeDiff, List.nil_append, List.cons_append, g1, g17, g18, g19, hld, hsz, Nac, Nah, gX, hx])
        (try rw [Z0])
        (try simp (maxSteps := 2000000) (disch := first | omega | rfl | assumption) only [↓Xp, ↓Xt, Xq, Xc, Nai, Naa, Nat.reduceAdd, Nat.reduceMul, Nat.reduceLT, Nat.reduceEqDiff, reduceIte, Xa, Xn, unP, Nad, Naf, Nae, Xm, Nat.reduceLeDiff, List.nil_append, List.cons_append, g1, g17, g18, g19, hld, hsz, Nac, Nah, gX, hx])
        exact ⟨nofun, _, rfl, by simp only [Nbu, Env.get_put, if_true]; rw [hob]⟩
      | false =>
        rw [hx, if_neg (by simp)] at hob
        (try rw [Z0])
        (try simp (maxSteps := 2000000) (disch := first | omega | rfl | assumption) only [↓Xp, ↓Xt, Xq, Xc, Nai, Naa, Nat.reduceAdd, Nat.reduceMul, Nat.reduceLT, Nat.reduceEqDiff, reduceIte, Xa, Xn, unP, Nad, Naf, Nae, Xm, Nat.reduceLeDiff, List.nil_append, List.cons_append, g1, g17, g18, g19, hld, hsz, Nac, Nah, gX, hx])
        (try rw [Z0])
        (try simp (maxSteps := 2000000) (disch := first | omega | rfl | assumption) only [↓Xp, ↓Xt, Xq, Xc, Nai, Naa, Nat.reduceAdd, Nat.reduceMul, Nat.reduceLT, Nat.reduceEqDiff, reduceIte, Xa, Xn, unP, Nad, Naf, Nae, Xm, Nat.reduceLeDiff, List.nil_append, List.cons_append, g1, g17, g18, g19, hld, hsz, Nac, Nah, gX, hx])
        (try rw [Z0])
        (try simp (maxSteps := 2000000) (disch := first | omega | rfl | assumption) only [↓Xp, ↓Xt, Xq, Xc, Nai, Naa, Nat.reduceAdd, Nat.reduceMul, Nat.reduceLT, Nat.reduceEqDiff, reduceIte, Xa, Xn, unP, Nad, Naf, Nae, Xm, Nat.reduceLeDiff, List.nil_append, List.cons_append, g1, g17, g18, g19, hld, hsz, Nac, Nah, gX, hx])
        (try rw [Z0])
        (try simp (maxSteps := 2000000) (disch := first | omega | rfl | assumption) only [↓Xp, ↓Xt, Xq, Xc, Nai, Naa, Nat.reduceAdd, Nat.reduceMul, Nat.reduceLT, Nat.reduceEqDiff, reduceIte, Xa, Xn, unP, Nad, Naf, Nae, Xm, Nat.reduceLeDiff, List.nil_append, List.cons_append, g1, g17, g18, g19, hld, hsz, Nac, Nah, gX, hx])
        (try rw [Z0])
        (try simp (maxSteps := 2000000) (disch := first | omega | rfl | assumption) only [↓Xp, ↓Xt, Xq, Xc, Nai, Naa, Nat.reduceAdd, Nat.reduceMul, Nat.reduceLT, Nat.reduceEqDiff, reduceIte, Xa, Xn, unP, Nad, Naf, Nae, Xm, Nat.reduceLeDiff, List.nil_append, List.cons_append, g1, g17, g18, g19, hld, hsz, Nac, Nah, gX, hx])
        (try rw [Z0])
        (try simp (maxSteps := 2000000) (disch := first | omega | rfl | assumption) only [↓Xp, ↓Xt, Xq, Xc, Nai, Naa, Nat.reduceAdd, Nat.reduceMul, Nat.reduceLT, Nat.reduceEqDiff, reduceIte, Xa, Xn, unP, Nad, Naf, Nae, Xm, Nat.reduceLeDiff, List.nil_append, List.cons_append, g1, g17, g18, g19, hld, hsz, Nac, Nah, gX, hx])
        (try rw [Z0])
        (try simp (maxSteps := 2000000) (disch := first | omega | rfl | assumption) only [↓Xp, ↓Xt, Xq, Xc, Nai, Naa, Nat.reduceAdd, Nat.reduceMul, Nat.reduceLT, Nat.reduceEqDiff, reduceIte, Xa, Xn, unP, Nad, Naf, Nae, Xm, Nat.reduceLeDiff, List.nil_append, List.cons_append, g1, g17, g18, g19, hld, hsz, Nac, Nah, gX, hx])
        (try rw [Z0])
        (try simp (maxSteps := 2000000) (disch := first | omega | rfl | assumption) only [↓Xp, ↓Xt, Xq, Xc, Nai, Naa, Nat.reduceAdd, Nat.reduceMul, Nat.reduceLT, Nat.reduceEqDiff, reduceIte, Xa, Xn, unP, Nad, Naf, Nae, Xm, Nat.reduceLeDiff, List.nil_append, List.cons_append, g1, g17, g18, g19, hld, hsz, Nac, Nah, gX, hx])
        exact ⟨e.L.length - (i + 1), by omega, i + 1, rfl, by omega, hob, (NbZ hil).symm, rfl⟩
     ·have h0 : e.L.drop i = [] := List.drop_of_length_le (by omega)
      rw [h0, Exs.names] at hob
      (try rw [Z0])
      (try simp (maxSteps := 2000000) (disch := first | omega | rfl | assumption) only [↓Xp, ↓Xt, Xq, Xc, Nai, Naa, Nat.reduceAdd, Nat.reduceMul, Nat.reduceLT, Nat.reduceEqDiff, reduceIte, Xa, Xn, unP, Nad, Naf, Nae, Xm, Nat.reduceLeDiff, List.nil_append, List.cons_append, g17, g18, g19])
      (try rw [Z0])
      (try simp (maxSteps := 2000000) (disch := first | omega | rfl | assumption) only [↓Xp, ↓Xt, Xq, Xc, Nai, Naa, Nat.reduceAdd, Nat.reduceMul, Nat.reduceLT, Nat.reduceEqDiff, reduceIte, Xa, Xn, unP, Nad, Naf, Nae, Xm, Nat.reduceLeDiff, List.nil_append, List.cons_append, g17, g18, g19])
      (try rw [Z0])
      (try simp (maxSteps := 2000000) (disch := first | omega | rfl | assumption) only [↓Xp, ↓Xt, Xq, Xc, Nai, Naa, Nat.reduceAdd, Nat.reduceMul, Nat.reduceLT, Nat.reduceEqDiff, reduceIte, Xa, Xn, unP, Nad, Naf, Nae, Xm, Nat.reduceLeDiff, List.nil_append, List.cons_append, g17, g18, g19])
      (try rw [Z0])
      (try simp (maxSteps := 2000000) (disch := first | omega | rfl | assumption) only [↓Xp, ↓Xt, Xq, Xc, Nai, Naa, Nat.reduceAdd, Nat.reduceMul, Nat.reduceLT, Nat.reduceEqDiff, reduceIte, Xa, Xn, unP, Nad, Naf, Nae, Xm, Nat.reduceLeDiff, List.nil_append, List.cons_append, g17, g18, g19])
      exact hK _ hob.symm
    ·exact ⟨0, rfl, by omega, by rw [List.drop_zero]; exact hR2, by simp [Env.get_put, g1], by simp [Env.get_put], by simp [Env.get_put], by simp [Env.get_put]⟩
   rintro ⟨env, ⟨sto, c⟩⟩ rfl
   (try rw [Z0])
   (try simp (maxSteps := 2000000) (disch := first | omega | rfl | assumption) only [↓Xp, ↓Xt, Xq, Xc, Nai, Naa, Nat.reduceAdd, Nat.reduceMul, Nat.reduceLT, Nat.reduceEqDiff, reduceIte, Xa, Xn, unP, Nad, Naf, Nae, Xm, Nat.reduceLeDiff, List.nil_append, List.cons_append])
   (try rw [Z0])
   (try simp (maxSteps := 2000000) (disch := first | omega | rfl | assumption) only [↓Xp, ↓Xt, Xq, Xc, Nai, Naa, Nat.reduceAdd, Nat.reduceMul, Nat.reduceLT, Nat.reduceEqDiff, reduceIte, Xa, Xn, unP, Nad, Naf, Nae, Xm, Nat.reduceLeDiff, List.nil_append, List.cons_append])
   exact ⟨nofun, _, rfl, by simp only [Nbu, Env.get_put, if_true]⟩
theorem Nfe {cfg : Cfg} (hc : CfgN cfg) : ∀ (fuel : Nat) (e : Ex) (lv : Int) (st : St), e.size + 1 ≤ fuel → e.wf →
 ∃ r st', NaT cfg (fuel + 1) 15 [.agg e.cs, .i .i64 lv] st = some (r, st') ∧ ∃ v, r = .i .i64 v := by
 intro fuel
 induction fuel with
 | zero => intro e lv st h; omega
 | succ q ih =>
   intro e lv st hfu hwf
   refine Nbk (hc.fn _ _ (by kernel_rfl) : cfg.fn 15 = some m15) ?_
   unfold m15
   have hes := Ex.size_eq e
   rw [Ex.wf_eq] at hwf
   obtain ⟨-, -, hwl, hwL⟩ := hwf
   have hll := Exs.len_le e.L
   have hrb : reachBytes < 4611686018427387904 := by decide
   rw [Ex.cs_eq]
   obtain ⟨k, hkk⟩ : ∃ k, e.K.toNat = k := ⟨_, rfl⟩
   rw [hkk]
   have hlv := Nd5 e.z e.L.length (Exs.cs e.L)
   have hsz := Exs.len e.L
   obtain ⟨f, hf⟩ : ∃ f : Ex → Int, ∀ x, x ∈ e.L → ∀ (st : St) (key : Nat), Nau (Nam cfg (NaT cfg (q + 1)) 15) false st key [.agg [.i .u8 (x.K.toNat : Int), .s x.S, .i .i64 x.N, slV x.z x.L.length (Exs.cs x.L)], .i .i64 (IntKind.i64.wrap (lv - ((1 : Nat) : Int)))] = some (.i .i64 (f x), st) := by
    have : ∀ x : Ex, ∃ v, x ∈ e.L → Nam cfg (NaT cfg (q + 1)) 15 [.agg [.i .u8 (x.K.toNat : Int), .s x.S, .i .i64 x.N, slV x.z x.L.length (Exs.cs x.L)], .i .i64 (IntKind.i64.wrap (lv - ((1 : Nat) : Int)))] = some (.i .i64 v) := fun x => by
     by_cases hx : x ∈ e.L
     ·have hm := Exs.size_mem hx
      obtain ⟨r, st', h1, v, h2⟩ := ih x (IntKind.i64.wrap (lv - ((1 : Nat) : Int))) { sto := .leaf, cnt := 1 } (by omega) (Exs.wf_mem hwL hx)
      rw [Ex.cs_eq] at h1
      exact ⟨v, fun _ => NaS hc.n2 (NbH _) (fun _ => rfl) ⟨r, st', h1, h2⟩⟩
     ·exact ⟨0, fun h => absurd h hx⟩
    exact ⟨fun x => Classical.choose (this x), fun x hx st key => NbD (Nbc (NaP _) rfl) (Classical.choose_spec (this x) hx) rfl rfl⟩
   simp only [Nas]
   (try rw [Z0])
   (try simp (maxSteps := 2000000) (disch := first | omega | rfl | assumption) only [↓Xp, ↓Xt, Xq, Xc, Nai, Naa, Nat.reduceAdd, Nat.reduceMul, Nat.reduceLT, Nat.reduceEqDiff, reduceIte, Xa, Xn, unP, Nad, Naf, Nae, Xm, Nat.reduceLeDiff, List.nil_append, List.cons_append, Nah, Nac])
   refine NbA (fun x => ∃ B : Nat, x.env.get 1 = .i .i64 lv ∧ x.env.get 2 = .ptr B 0 ∧ B < x.st.cnt ∧ x.st.get B = some (.cells [.i .u8 (k : Int), .s e.S, .i .i64 e.N, slV e.z e.L.length (Exs.cs e.L)] false)) ?_ ?_
   ·exact ⟨st.cnt, rfl, rfl, by simp only [NeY]; omega, by rw [St.get_putk]⟩
   rintro ⟨env, ⟨sto, c⟩⟩ ⟨B, g1, g2, hBc, kB⟩
   simp only at g1 g2 hBc
   have h100 : (((100 : Nat) : Int) = 0) = False := by simp
   have kB' : ∀ n', St.get ⟨sto, n'⟩ B = _ := fun _ => kB
   (try rw [Z0])
   (try simp (maxSteps := 2000000) (disch := first | omega | rfl | assumption) only [↓Xp, ↓Xt, Xq, Xc, Nai, Naa, Nat.reduceAdd, Nat.reduceMul, Nat.reduceLT, Nat.reduceEqDiff, reduceIte, Xa, Xn, unP, Nad, Naf, Nae, Xm, Nat.reduceLeDiff, List.nil_append, List.cons_append, g1, g2, kB', h100])
   refine NbA (fun x => ∃ w : Int, x.env.get 1 = .i .i64 lv ∧ x.env.get 2 = .ptr B 0 ∧ x.env.get 5 = .i .i64 w ∧ x.st.get B = some (.cells [.i .u8 (k : Int), .s e.S, .i .i64 e.N, slV e.z e.L.length (Exs.cs e.L)] false)) ?_ ?_
   ·exact ⟨_, by simp [Env.get_put, g1], by simp [Env.get_put, g2], by simp only [Env.get_put, if_true]; rfl, kB⟩
   clear g1 g2 kB kB' hBc
   rintro ⟨env, ⟨sto, c⟩⟩ ⟨w, g1, g2, g5, kB⟩
   simp only at g1 g2 g5
   replace kB : ∀ n', St.get ⟨sto, n'⟩ B = _ := fun _ => kB
   refine NbM (fun x => ∃ w : Int, x.env.get 1 = .i .i64 lv ∧ x.env.get 2 = .ptr B 0 ∧ x.env.get 5 = .i .i64 w ∧ x.st.get B = some (.cells [.i .u8 (k : Int), .s e.S, .i .i64 e.N, slV e.z e.L.length (Exs.cs e.L)] false)) ?_ ?_
   ·intro K hK
    by_cases h1 : lv < 1
    ·skip
     (try rw [Z0])
     (try simp (maxSteps := 2000000) (disch := first | omega | rfl | assumption) only [↓Xp, ↓Xt, Xq, Xc, Nai, Naa, Nat.reduceAdd, Nat.reduceMul, Nat.reduceLT, Nat.reduceEqDiff, reduceIte, Xa, Xn, unP, Nad, Naf, Nae, Xm, Nat.reduceLeDiff, List.nil_append, List.cons_append, g1, g2, g5])
     (try rw [Z0])
     (try simp (maxSteps := 2000000) (disch := first | omega | rfl | assumption) only [↓Xp, ↓Xt, Xq, Xc, Nai, Naa, Nat.reduceAdd, Nat.reduceMul, Nat.reduceLT, Nat.reduceEqDiff, reduceIte, Xa, Xn, unP, Nad, Naf, Nae, Xm, Nat.reduceLeDiff, List.nil_append, List.cons_append, g1, g2, g5])
     (try rw [Z0])
     (try simp (maxSteps := 2000000) (disch := first | omega | rfl | assumption) only [↓Xp, ↓Xt, Xq, Xc, Nai, Naa, Nat.reduceAdd, Nat.reduceMul, Nat.reduceLT, Nat.reduceEqDiff, reduceIte, Xa, Xn, unP, Nad, Naf, Nae, Xm, Nat.reduceLeDiff, List.nil_append, List.cons_append, g1, g2, g5])
     exact ⟨nofun, _, rfl, _, by simp only [Nbu, Env.get_put, if_true]; rfl⟩
    ·skip
     (try rw [Z0])
     (try simp (maxSteps := 2000000) (disch := first | omega | rfl | assumption) only [↓Xp, ↓Xt, Xq, Xc, Nai, Naa, Nat.reduceAdd, Nat.reduceMul, Nat.reduceLT, Nat.reduceEqDiff, reduceIte, Xa, Xn, unP, Nad, Naf, Nae, Xm, Nat.reduceLeDiff, List.nil_append, List.cons_append, g1, g2, g5])
     (try rw [Z0])
     (try simp (maxSteps := 2000000) (disch := first | omega | rfl | assumption) only [↓Xp, ↓Xt, Xq, Xc, Nai, Naa, Nat.reduceAdd, Nat.reduceMul, Nat.reduceLT, Nat.reduceEqDiff, reduceIte, Xa, Xn, unP, Nad, Naf, Nae, Xm, Nat.reduceLeDiff, List.nil_append, List.cons_append, g1, g2, g5])
     (try rw [Z0])
     (try simp (maxSteps := 2000000) (disch := first | omega | rfl | assumption) only [↓Xp, ↓Xt, Xq, Xc, Nai, Naa, Nat.reduceAdd, Nat.reduceMul, Nat.reduceLT, Nat.reduceEqDiff, reduceIte, Xa, Xn, unP, Nad, Naf, Nae, Xm, Nat.reduceLeDiff, List.nil_append, List.cons_append, g1, g2, g5])
     exact hK _ ⟨w, by simp [Env.get_put, g1], by simp [Env.get_put, g2], by simp [Env.get_put, g5], kB _⟩
   clear g1 g2 g5 kB
   rintro ⟨env, ⟨sto, c⟩⟩ ⟨w, g1, g2, g5, kB⟩
   simp only at g1 g2 g5
   replace kB : ∀ n', St.get ⟨sto, n'⟩ B = _ := fun _ => kB
   refine NbM (fun x => ∃ w : Int, x.env.get 5 = .i .i64 w) ?_ ?_
   ·intro K hK
    (try rw [Z0])
    (try simp (maxSteps := 2000000) (disch := first | omega | rfl | assumption) only [↓Xp, ↓Xt, Xq, Xc, Nai, Naa, Nat.reduceAdd, Nat.reduceMul, Nat.reduceLT, Nat.reduceEqDiff, reduceIte, Xa, Xn, unP, Nad, Naf, Nae, Xm, Nat.reduceLeDiff, List.nil_append, List.cons_append, g1, g2, g5])
    (try rw [Z0])
    (try simp (maxSteps := 2000000) (disch := first | omega | rfl | assumption) only [↓Xp, ↓Xt, Xq, Xc, Nai, Naa, Nat.reduceAdd, Nat.reduceMul, Nat.reduceLT, Nat.reduceEqDiff, reduceIte, Xa, Xn, unP, Nad, Naf, Nae, Xm, Nat.reduceLeDiff, List.nil_append, List.cons_append, g1, g2, g5])
    refine Z9 (k := e.L.length - 0) (fun m x => ∃ (i : Nat) (w : Int), m = e.L.length - i ∧ i ≤ e.L.length ∧ x.env.get 1 = .i .i64 lv ∧ x.env.get 2 = .ptr B 0 ∧ x.env.get 5 = .i .i64 w ∧ x.env.get 6 = .i .i64 (i : Int) ∧ x.st.get B = some (.cells [.i .u8 (k : Int), .s e.S, .i .i64 e.N, slV e.z e.L.length (Exs.cs e.L)] false)) ?_ ?_ (by omega)
    ·clear g1 g2 g5 kB w
     rintro m ⟨env, ⟨sto, c⟩⟩ ⟨i, w, rfl, hi, g1, g2, g5, g6, kB⟩
     simp only at g1 g2 g5 g6
     by_cases hil : i < e.L.length
     ·have hlv2 := hlv
      rw [NbZ hil] at kB hlv2
      have kB' : ∀ n', St.get ⟨sto, n'⟩ B = _ := fun _ => kB
      by_cases hw : w ≤ 10000
      ·have hld := fun st => NcX (st := st) hil
       have gX := hf e.L[i] (List.getElem_mem hil)
       (try rw [Z0])
       (try simp (maxSteps := 2000000) (disch := first | omega | rfl | assumption) only [↓Xp, ↓Xt, Xq, Xc, Nai, Naa, Nat.reduceAdd, Nat.reduceMul, Nat.reduceLT, Nat.reduceEqDiff, reduceIte, Xa, Xn, unP, Nad, Naf, Nae, Xm, Nat.reduceLeDiff, List.nil_append, List.cons_append, g1, g2, g5, g6, kB', hlv2, hld, hsz, Nac, Nah, gX])
       (try rw [Z0])
       (try simp (maxSteps := 2000000) (disch := first | omega | rfl | assumption) only [↓Xp, ↓Xt, Xq, Xc, Nai, Naa, Nat.reduceAdd, Nat.reduceMul, Nat.reduceLT, Nat.reduceEqDiff, reduceIte, Xa, Xn, unP, Nad, Naf, Nae, Xm, Nat.reduceLeDiff, List.nil_append, List.cons_append, g1, g2, g5, g6, kB', hlv2, hld, hsz, Nac, Nah, gX])
       (try rw [Z0])
       (try simp (maxSteps := 2000000) (disch := first | omega | rfl | assumption) only [↓Xp, ↓Xt, Xq, Xc, Nai, Naa, Nat.reduceAdd, Nat.reduceMul, Nat.reduceLT, Nat.reduceEqDiff, reduceIte, Xa, Xn, unP, Nad, Naf, Nae, Xm, Nat.reduceLeDiff, List.nil_append, List.cons_append, g1, g2, g5, g6, kB', hlv2, hld, hsz, Nac, Nah, gX])
       (try rw [Z0])
       (try simp (maxSteps := 2000000) (disch := first | omega | rfl | assumption) only [↓Xp, ↓Xt, Xq, Xc, Nai, Naa, Nat.reduceAdd, Nat.reduceMul, Nat.reduceLT, Nat.reduceEqDiff, reduceIte, Xa, Xn, unP, Nad, Naf, Nae, Xm, Nat.reduceLeDiff, List.nil_append, List.cons_append, g1, g2, g5, g6, kB', hlv2, hld, hsz, Nac, Nah, gX])
       (try rw [Z0])
       (try simp (maxSteps := 2000000) (disch := first | omega | rfl | assumption) only [↓Xp, ↓Xt, Xq, Xc, Nai, Naa, Nat.reduceAdd, Nat.reduceMul, Nat.reduceLT, Nat.reduceEqDiff, reduceIte, Xa, Xn, unP, Nad, Naf, Nae, Xm, Nat.reduceLeDiff, List.nil_append, List.cons_append, g1, g2, g5, g6, kB', hlv2, hld, hsz, Nac, Nah, gX])
       (try rw [Z0])
       (try simp (maxSteps := 2000000) (disch := first | omega | rfl | assumption) only [↓Xp, ↓Xt, Xq, Xc, Nai, Naa, Nat.reduceAdd, Nat.reduceMul, Nat.reduceLT, Nat.reduceEqDiff, reduceIte, Xa, Xn, unP, Nad, Naf, Nae, Xm, Nat.reduceLeDiff, List.nil_append, List.cons_append, g1, g2, g5, g6, kB', hlv2, hld, hsz, Nac, Nah, gX])
       exact ⟨e.L.length - (i + 1), by omega, i + 1, _, rfl, by omega, rfl, rfl, by rw [NbZ hil]⟩
      ·skip
       (try rw [Z0])
       (try simp (maxSteps := 2000000) (disch := first | omega | rfl | assumption) only [↓Xp, ↓Xt, Xq, Xc, Nai, Naa, Nat.reduceAdd, Nat.reduceMul, Nat.reduceLT, Nat.reduceEqDiff, reduceIte, Xa, Xn, unP, Nad, Naf, Nae, Xm, Nat.reduceLeDiff, List.nil_append, List.cons_append, g1, g2, g5, g6, kB', hlv2, Nac, Nah])
       (try rw [Z0])
       (try simp (maxSteps := 2000000) (disch := first | omega | rfl | assumption) only [↓Xp, ↓Xt, Xq, Xc, Nai, Naa, Nat.reduceAdd, Nat.reduceMul, Nat.reduceLT, Nat.reduceEqDiff, reduceIte, Xa, Xn, unP, Nad, Naf, Nae, Xm, Nat.reduceLeDiff, List.nil_append, List.cons_append, g1, g2, g5, g6, kB', hlv2, Nac, Nah])
       (try rw [Z0])
       (try simp (maxSteps := 2000000) (disch := first | omega | rfl | assumption) only [↓Xp, ↓Xt, Xq, Xc, Nai, Naa, Nat.reduceAdd, Nat.reduceMul, Nat.reduceLT, Nat.reduceEqDiff, reduceIte, Xa, Xn, unP, Nad, Naf, Nae, Xm, Nat.reduceLeDiff, List.nil_append, List.cons_append, g1, g2, g5, g6, kB', hlv2, Nac, Nah])
       exact hK _ ⟨w, by simp [Env.get_put, g5]⟩
     ·replace kB : ∀ n', St.get ⟨sto, n'⟩ B = _ := fun _ => kB
      (try rw [Z0])
      (try simp (maxSteps := 2000000) (disch := first | omega | rfl | assumption) only [↓Xp, ↓Xt, Xq, Xc, Nai, Naa, Nat.reduceAdd, Nat.reduceMul, Nat.reduceLT, Nat.reduceEqDiff, reduceIte, Xa, Xn, unP, Nad, Naf, Nae, Xm, Nat.reduceLeDiff, List.nil_append, List.cons_append, g1, g2, g5, g6, kB, hlv, Nac, Nah])
      (try rw [Z0])
      (try simp (maxSteps := 2000000) (disch := first | omega | rfl | assumption) only [↓Xp, ↓Xt, Xq, Xc, Nai, Naa, Nat.reduceAdd, Nat.reduceMul, Nat.reduceLT, Nat.reduceEqDiff, reduceIte, Xa, Xn, unP, Nad, Naf, Nae, Xm, Nat.reduceLeDiff, List.nil_append, List.cons_append, g1, g2, g5, g6, kB, hlv, Nac, Nah])
      (try rw [Z0])
      (try simp (maxSteps := 2000000) (disch := first | omega | rfl | assumption) only [↓Xp, ↓Xt, Xq, Xc, Nai, Naa, Nat.reduceAdd, Nat.reduceMul, Nat.reduceLT, Nat.reduceEqDiff, reduceIte, Xa, Xn, unP, Nad, Naf, Nae, Xm, Nat.reduceLeDiff, List.nil_append, List.cons_append, g1, g2, g5, g6, kB, hlv, Nac, Nah])
      (try rw [Z0])
      (try simp (maxSteps := 2000000) (disch := first | omega | rfl | assumption) only [↓Xp, ↓Xt, Xq, Xc, Nai, Naa, Nat.reduceAdd, Nat.reduceMul, Nat.reduceLT, Nat.reduceEqDiff, reduceIte, Xa, Xn, unP, Nad, Naf, Nae, Xm, Nat.reduceLeDiff, List.nil_append, List.cons_append, g1, g2, g5, g6, kB, hlv, Nac, Nah])
      exact hK _ ⟨w, by simp [Env.get_put, g5]⟩
    ·exact ⟨0, w, rfl, by omega, by simp [Env.get_put, g1], by simp [Env.get_put, g2], by simp [Env.get_put, g5], by simp [Env.get_put], kB _⟩
   rintro ⟨env, ⟨sto, c⟩⟩ ⟨w, g5⟩
   simp only at g5
   (try rw [Z0])
   (try simp (maxSteps := 2000000) (disch := first | omega | rfl | assumption) only [↓Xp, ↓Xt, Xq, Xc, Nai, Naa, Nat.reduceAdd, Nat.reduceMul, Nat.reduceLT, Nat.reduceEqDiff, reduceIte, Xa, Xn, unP, Nad, Naf, Nae, Xm, Nat.reduceLeDiff, List.nil_append, List.cons_append, g5])
   (try rw [Z0])
   (try simp (maxSteps := 2000000) (disch := first | omega | rfl | assumption) only [↓Xp, ↓Xt, Xq, Xc, Nai, Naa, Nat.reduceAdd, Nat.reduceMul, Nat.reduceLT, Nat.reduceEqDiff, reduceIte, Xa, Xn, unP, Nad, Naf, Nae, Xm, Nat.reduceLeDiff, List.nil_append, List.cons_append, g5])
   exact ⟨nofun, _, rfl, w, by simp only [Nbu, Env.get_put, if_true]⟩
theorem Nf3 {cfg : Cfg} (hc : CfgN cfg) {fuel : Nat} {st : St} {x n : Int} (hn : 1 ≤ n ∧ n ≤ 4611686018427387904) :
 ∃ r st', NaT cfg (fuel + 1) 16 [.i .i64 x, .i .i64 n] st = some (r, st') ∧ ∃ p : Nat, (p : Int) < n ∧ r = .i .i64 (p : Int) := by
 refine Nbk (hc.fn _ _ (by kernel_rfl) : cfg.fn 16 = some m16) ?_
 unfold m16
 have h0 : (n = 0) = False := by simp; omega
 have hb : -n < x.tmod n ∧ x.tmod n < n := by
  rcases Int.le_total 0 x with hx | hx
  ·rw [Int.tmod_eq_emod_of_nonneg hx]
   have h1 := Int.emod_nonneg x (show n ≠ 0 by omega)
   have h2 := Int.emod_lt_of_pos x (show 0 < n by omega)
   omega
  ·have h0 := Int.tmod_eq_emod_of_nonneg (b := n) (show 0 ≤ -x by omega)
   rw [Int.neg_tmod] at h0
   have h1 := Int.emod_nonneg (-x) (show n ≠ 0 by omega)
   have h2 := Int.emod_lt_of_pos (-x) (show 0 < n by omega)
   omega
 obtain ⟨w, hw⟩ : ∃ w, x.tmod n = w := ⟨_, rfl⟩
 rw [hw] at hb
 simp only [Nas]
 by_cases hneg : w < 0
 ·have hww : IntKind.i64.wrap (w + n) = w + n := Na2 _ ⟨by omega, by omega⟩
  (try rw [Z0])
  (try simp (maxSteps := 2000000) (disch := first | omega | rfl | assumption) only [↓Xp, ↓Xt, Xq, Xc, Nai, Naa, Nat.reduceAdd, Nat.reduceMul, Nat.reduceLT, Nat.reduceEqDiff, reduceIte, Xa, Xn, unP, Nad, Naf, Nae, Xm, Nat.reduceLeDiff, List.nil_append, List.cons_append, h0, hw, hww])
  (try rw [Z0])
  (try simp (maxSteps := 2000000) (disch := first | omega | rfl | assumption) only [↓Xp, ↓Xt, Xq, Xc, Nai, Naa, Nat.reduceAdd, Nat.reduceMul, Nat.reduceLT, Nat.reduceEqDiff, reduceIte, Xa, Xn, unP, Nad, Naf, Nae, Xm, Nat.reduceLeDiff, List.nil_append, List.cons_append, h0, hw, hww])
  (try rw [Z0])
  (try simp (maxSteps := 2000000) (disch := first | omega | rfl | assumption) only [↓Xp, ↓Xt, Xq, Xc, Nai, Naa, Nat.reduceAdd, Nat.reduceMul, Nat.reduceLT, Nat.reduceEqDiff, reduceIte, Xa, Xn, unP, Nad, Naf, Nae, Xm, Nat.reduceLeDiff, List.nil_append, List.cons_append, h0, hw, hww])
  (try rw [Z0])
  (try simp (maxSteps := 2000000) (disch := first | omega | rfl | assumption) only [↓Xp, ↓Xt, Xq, Xc, Nai, Naa, Nat.reduceAdd, Nat.reduceMul, Nat.reduceLT, Nat.reduceEqDiff, reduceIte, Xa, Xn, unP, Nad, Naf, Nae, Xm, Nat.reduceLeDiff, List.nil_append, List.cons_append, h0, hw, hww])
  (try rw [Z0])
  (try simp (maxSteps := 2000000) (disch := first | omega | rfl | assumption) only [↓Xp, ↓Xt, Xq, Xc, Nai, Naa, Nat.reduceAdd, Nat.reduceMul, Nat.reduceLT, Nat.reduceEqDiff, reduceIte, Xa, Xn, unP, Nad, Naf, Nae, Xm, Nat.reduceLeDiff, List.nil_append, List.cons_append, h0, hw, hww])
  (try rw [Z0])
  (try simp (maxSteps := 2000000) (disch := first | omega | rfl | assumption) only [↓Xp, ↓Xt, Xq, Xc, Nai, Naa, Nat.reduceAdd, Nat.reduceMul, Nat.reduceLT, Nat.reduceEqDiff, reduceIte, Xa, Xn, unP, Nad, Naf, Nae, Xm, Nat.reduceLeDiff, List.nil_append, List.cons_append, h0, hw, hww])
  (try rw [Z0])
  (try simp (maxSteps := 2000000) (disch := first | omega | rfl | assumption) only [↓Xp, ↓Xt, Xq, Xc, Nai, Naa, Nat.reduceAdd, Nat.reduceMul, Nat.reduceLT, Nat.reduceEqDiff, reduceIte, Xa, Xn, unP, Nad, Naf, Nae, Xm, Nat.reduceLeDiff, List.nil_append, List.cons_append, h0, hw, hww])
  (try rw [Z0])
  (try simp (maxSteps := 2000000) (disch := first | omega | rfl | assumption) only [↓Xp, ↓Xt, Xq, Xc, Nai, Naa, Nat.reduceAdd, Nat.reduceMul, Nat.reduceLT, Nat.reduceEqDiff, reduceIte, Xa, Xn, unP, Nad, Naf, Nae, Xm, Nat.reduceLeDiff, List.nil_append, List.cons_append, h0, hw, hww])
  exact ⟨nofun, _, rfl, (w + n).toNat, by omega, by simp only [Nbu, Env.get_put, if_true]; rw [Int.toNat_of_nonneg (by omega)]⟩
 ·skip
  (try rw [Z0])
  (try simp (maxSteps := 2000000) (disch := first | omega | rfl | assumption) only [↓Xp, ↓Xt, Xq, Xc, Nai, Naa, Nat.reduceAdd, Nat.reduceMul, Nat.reduceLT, Nat.reduceEqDiff, reduceIte, Xa, Xn, unP, Nad, Naf, Nae, Xm, Nat.reduceLeDiff, List.nil_append, List.cons_append, h0, hw])
  (try rw [Z0])
  (try simp (maxSteps := 2000000) (disch := first | omega | rfl | assumption) only [↓Xp, ↓Xt, Xq, Xc, Nai, Naa, Nat.reduceAdd, Nat.reduceMul, Nat.reduceLT, Nat.reduceEqDiff, reduceIte, Xa, Xn, unP, Nad, Naf, Nae, Xm, Nat.reduceLeDiff, List.nil_append, List.cons_append, h0, hw])
  (try rw [Z0])
  (try simp (maxSteps := 2000000) (disch := first | omega | rfl | assumption) only [↓Xp, ↓Xt, Xq, Xc, Nai, Naa, Nat.reduceAdd, Nat.reduceMul, Nat.reduceLT, Nat.reduceEqDiff, reduceIte, Xa, Xn, unP, Nad, Naf, Nae, Xm, Nat.reduceLeDiff, List.nil_append, List.cons_append, h0, hw])
  (try rw [Z0])
  (try simp (maxSteps := 2000000) (disch := first | omega | rfl | assumption) only [↓Xp, ↓Xt, Xq, Xc, Nai, Naa, Nat.reduceAdd, Nat.reduceMul, Nat.reduceLT, Nat.reduceEqDiff, reduceIte, Xa, Xn, unP, Nad, Naf, Nae, Xm, Nat.reduceLeDiff, List.nil_append, List.cons_append, h0, hw])
  (try rw [Z0])
  (try simp (maxSteps := 2000000) (disch := first | omega | rfl | assumption) only [↓Xp, ↓Xt, Xq, Xc, Nai, Naa, Nat.reduceAdd, Nat.reduceMul, Nat.reduceLT, Nat.reduceEqDiff, reduceIte, Xa, Xn, unP, Nad, Naf, Nae, Xm, Nat.reduceLeDiff, List.nil_append, List.cons_append, h0, hw])
  (try rw [Z0])
  (try simp (maxSteps := 2000000) (disch := first | omega | rfl | assumption) only [↓Xp, ↓Xt, Xq, Xc, Nai, Naa, Nat.reduceAdd, Nat.reduceMul, Nat.reduceLT, Nat.reduceEqDiff, reduceIte, Xa, Xn, unP, Nad, Naf, Nae, Xm, Nat.reduceLeDiff, List.nil_append, List.cons_append, h0, hw])
  (try rw [Z0])
  (try simp (maxSteps := 2000000) (disch := first | omega | rfl | assumption) only [↓Xp, ↓Xt, Xq, Xc, Nai, Naa, Nat.reduceAdd, Nat.reduceMul, Nat.reduceLT, Nat.reduceEqDiff, reduceIte, Xa, Xn, unP, Nad, Naf, Nae, Xm, Nat.reduceLeDiff, List.nil_append, List.cons_append, h0, hw])
  (try rw [Z0])
  (try simp (maxSteps := 2000000) (disch := first | omega | rfl | assumption) only [↓Xp, ↓Xt, Xq, Xc, Nai, Naa, Nat.reduceAdd, Nat.reduceMul, Nat.reduceLT, Nat.reduceEqDiff, reduceIte, Xa, Xn, unP, Nad, Naf, Nae, Xm, Nat.reduceLeDiff, List.nil_append, List.cons_append, h0, hw])
  exact ⟨nofun, _, rfl, w.toNat, by omega, by simp only [Nbu, Env.get_put, if_true]; rw [Int.toNat_of_nonneg (by omega)]⟩
end Go.Pe
