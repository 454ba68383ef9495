/-
 Events: an event, laid out, by the interpreter of plain data. No condition.
-/
import Derived.Test.YtogdkhejfkbnmaaEvtP
set_option linter.unusedVariables false
set_option linter.unusedSimpArgs false
namespace Go.Pe
open Go Go.Am Go.RowKit

structure PutI (x : Now) (q ka ke : Nat) (A E : List PV) (v : PV) (l : List UInt8) : Prop where
 e3 : x.env.get 3 = .ptr q 0
 e4 : x.env.get 4 = .ptr ka 0
 e5 : x.env.get 5 = .ptr ke 0
 gq : x.st.get q = some (.cells [v] false)
 ho : OutOK x.st v l
 nq : ∀ a b c, v ≠ .rsl q a b c
 na : ∀ a b c, v ≠ .rsl ka a b c
 ne : ∀ a b c, v ≠ .rsl ke a b c
 ga : x.st.get ka = some (.cells A false)
 ge : x.st.get ke = some (.cells E false)
 cq : q < x.st.cnt
 ca : ka < x.st.cnt
 ce : ke < x.st.cnt
 qa : q ≠ ka
 qe : q ≠ ke
def NfF (a b : Int) : List UInt8 := Nah (foldN (IntKind.i64.wrap (b - a)))
def Ntr (l : List UInt8) (c : UInt8) (a0 a2 a3 a4 b0 b2 b3 b4 : Int) : List UInt8 := l ++ [c] ++ NfF a0 b0 ++ NfF a2 b2 ++ NfF a3 b3 ++ NfF a4 b4
theorem NdN (a b : Int) : 1 ≤ (NfF a b).length ∧ (NfF a b).length ≤ 10 := ⟨NfQ _, NaY _⟩
theorem PutI.next {env env' : Env} {st st' : St} {q ka ke : Nat} {A E : List PV} {v v' : PV} {l l' : List UInt8} (h : PutI ⟨env, st⟩ q ka ke A E v l) {n : Nat} (hn : st.cnt ≤ n) (e3 : env'.get 3 = .ptr q 0) (e4 : env'.get 4 = .ptr ka 0) (e5 : env'.get 5 = .ptr ke 0)
 (gq : st'.get q = some (.cells [v'] false)) (ho : OutOK st' v' l') (nq : ∀ a b c, v' ≠ .rsl q a b c) (hc : n ≤ st'.cnt) (hk : ∀ j, j < n → j ≠ q → (∀ a b c, v ≠ .rsl j a b c) → st'.get j = (⟨st.sto, n⟩ : St).get j) (hv : ∀ j a b c, v' = .rsl j a b c → n ≤ j) : PutI ⟨env', st'⟩ q ka ke A E v' l' where
 e3 := e3
 e4 := e4
 e5 := e5
 gq := gq
 ho := ho
 nq := nq
 na := fun a b c e => by have := hv _ _ _ _ e; have := h.ca; simp only at this; omega
 ne := fun a b c e => by have := hv _ _ _ _ e; have := h.ce; simp only at this; omega
 ga := by
  have h1 := h.ca; have h2 := h.ga
  simp only at h1 h2 ⊢
  rw [hk ka (by omega) (fun e => h.qa e.symm) h.na]; exact h2
 ge := by
  have h1 := h.ce; have h2 := h.ge
  simp only at h1 h2 ⊢
  rw [hk ke (by omega) (fun e => h.qe e.symm) h.ne]; exact h2
 cq := by have := h.cq; simp only at this ⊢; omega
 ca := by have := h.ca; simp only at this ⊢; omega
 ce := by have := h.ce; simp only at this ⊢; omega
 qa := h.qa
 qe := h.qe
end Go.Pe
