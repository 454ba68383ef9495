/-
 Runs by the kernel within runs over plain data. No condition; nothing of the program.
-/
import Derived.Test.YtdodmlebinomjaaDoorPe9
set_option linter.unusedVariables false
set_option linter.unusedSimpArgs false
namespace Go.Pe
open Go

def Nhi : MExit → Bool
 | .ret => true
 | _ => false
theorem NgJ {α : Type} {cfg : Cfg} {k n : Nat} {m : MCode} {x : Now} {Q : MExit → Now → Prop} (f : Now → α) (a : α) (h : (Ncx m cfg (fFn cfg k) n x).map (fun p => (Nhi p.1, f p.2)) = some (true, a)) (q : ∀ x', f x' = a → Q .ret x') : WC cfg (Nbj cfg k) n m x Q := by
 rw [Nfa, NaU] at h
 simp only [Option.map_eq_some_iff, Prod.mk.injEq] at h
 obtain ⟨⟨e, x'⟩, h1, h2, h3⟩ := h
 cases e <;> simp [Nhi] at h2
 exact ⟨.ret, x', h1, q x' h3⟩
end Go.Pe
