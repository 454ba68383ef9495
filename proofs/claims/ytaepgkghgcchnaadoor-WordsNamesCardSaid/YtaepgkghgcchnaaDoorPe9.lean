/-
 Calls by value that hand out a list beside plain data, in runs over plain data. No condition; nothing of the program.
-/
import Derived.Test.YtaepgkghgcchnaaDoorPe8
set_option linter.unusedVariables false
set_option linter.unusedSimpArgs false
namespace Go.Pe
open Go

def OutV (r : PV) (sz n : Nat) (cs : List PV) : Prop := (r = .nsl ∧ n = 0 ∧ cs = []) ∨ r = .osl sz n cs
theorem OutV.nil (sz : Nat) : OutV .nsl sz 0 [] := .inl ⟨rfl, rfl, rfl⟩
theorem OutV.osl (sz n : Nat) (cs : List PV) : OutV (.osl sz n cs) sz n cs := .inr rfl
theorem Nag (n : Nat) (cs : List PV) : Ngx (.fsl n cs) = some (.i .i64 n) := rfl
theorem Nai (a b c n : Nat) : Ngx (.rsl a b c n) = some (.i .i64 n) := rfl
theorem Nah : Ngx .nsl = some (.i .i64 ((0 : Nat) : Int)) := rfl
theorem Own.over {s0 st st' : St} {key sz n : Nat} {v : PV} {cs : List PV} (h : Own s0 sz v n cs) (f : ∀ j, j ≠ key → st'.get j = st.get j) (hs : st.sto = s0.sto) (hk : s0.cnt ≤ key) (hc : s0.cnt ≤ st'.cnt) : Own st' sz v n cs :=
 h.move hc fun j hj hj2 => by
  rw [f j (by omega)]
  unfold St.get
  rw [hs]
end Go.Pe
