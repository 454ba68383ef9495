/-
 Trees: Right answers as the walk over the whole program. No condition.
-/
import Derived.Test.YtjnofhibldppoaaChkX
set_option linter.unusedVariables false
set_option linter.unusedSimpArgs false
set_option maxHeartbeats 8000000
namespace Go.Pe
open Go Go.Am Go.RowKit

def Neh (p : Pg) : Bool := !(Nhy true p 0).2
theorem Nhi {cfg : Cfg} (hc : CfgV cfg) {fuel : Nat} {p : Pg} {st : St} (hfu : Tds.size p.T + p.D.length + 30 ≤ fuel) (hn : Tds.size p.T + p.D.length < 1000000000) :
 ∃ r st', Nas cfg (fuel + 2) 22 [.agg (Pg.cs p)] st = some (r, st') ∧ (r = .b (Neh p) ∧ (∀ j, j < st.cnt → st'.get j = st.get j) ∧ st.cnt ≤ st'.cnt) := by
 refine NaA (hc.fn _ _ (by kernel_rfl) : cfg.fn 22 = some m22) ?_
 unfold m22 Pg.cs
 simp only [Nak]
 (try rw [Z0])
 (try simp (maxSteps := 2000000) (disch := first | omega | rfl | assumption) only [↓Xp, ↓Xt, Xq, Xc, Nae, Naa, Nat.reduceAdd, Nat.reduceMul, Nat.reduceLT, Nat.reduceEqDiff, reduceIte, Xa, Xn, unP, Nad, Nab, Nac, Xm, Nat.reduceLeDiff, List.nil_append, List.cons_append, Naj, Nah, hc.y4])
 (try rw [Z0])
 (try simp (maxSteps := 2000000) (disch := first | omega | rfl | assumption) only [↓Xp, ↓Xt, Xq, Xc, Nae, Naa, Nat.reduceAdd, Nat.reduceMul, Nat.reduceLT, Nat.reduceEqDiff, reduceIte, Xa, Xn, unP, Nad, Nab, Nac, Xm, Nat.reduceLeDiff, List.nil_append, List.cons_append, Naj, Nah, hc.y4])
 (try rw [Z0])
 (try simp (maxSteps := 2000000) (disch := first | omega | rfl | assumption) only [↓Xp, ↓Xt, Xq, Xc, Nae, Naa, Nat.reduceAdd, Nat.reduceMul, Nat.reduceLT, Nat.reduceEqDiff, reduceIte, Xa, Xn, unP, Nad, Nab, Nac, Xm, Nat.reduceLeDiff, List.nil_append, List.cons_append, Naj, Nah, hc.y4])
 refine Nds (NfG hc (p := p) (ask := true) (b0 := false) (n := 0) (k := st.cnt + 24) hfu (by rw [St.get_putk]; rfl) (by simp only [Na0]; omega) (by omega)) ?_
 rintro r ⟨sto', c'⟩ ⟨hr, -, kp⟩
 have h1 := kp.c
 simp only [Na0] at h1
 refine ⟨nofun, [r], rfl, by simp only [NaB]; exact hr, fun j hj => ?_, by simp only; omega⟩
 rw [kp.g j (by omega) (by simp only [Na0]; omega)]
 simp (disch := omega) only [NaR, Nbb]
end Go.Pe
