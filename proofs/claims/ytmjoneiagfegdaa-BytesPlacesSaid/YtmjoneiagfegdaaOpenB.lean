/-
  How the arguments of a law are opened, further: bytes, numbers without a sign. No condition.
-/
import Derived.Test.YtmjoneiagfegdaaOpen
namespace Go.Am
open Go.RowKit Go.ChangeShapes Go.WideShapes Go.ChangeAt
set_option linter.unusedVariables false

theorem nat_of_wf {x : Int} {k : IntKind} {b : Nat} (h : (Lit.int k x).wf = true) (h0 : k.min = 0) (hb : k.max + 1 = (b : Int)) : ∃ n : Nat, x = (n : Int) ∧ n < b := by
  simp only [Lit.wf, Bool.and_eq_true, decide_eq_true_eq] at h
  exact ⟨x.toNat, by omega, by omega⟩
theorem bytes_of_ints : ∀ {xs : List Int}, (∀ x ∈ xs, (Lit.int .u8 x).wf = true) → ∃ l : List UInt8, ints .u8 xs = bytesC l
  | [], _ => ⟨[], rfl⟩
  | x :: xs, h => by
    obtain ⟨l, hl⟩ := bytes_of_ints (xs := xs) (fun y hy => h y (List.mem_cons_of_mem _ hy))
    obtain ⟨n, rfl, hn⟩ := nat_of_wf (b := 256) (h x List.mem_cons_self) rfl rfl
    refine ⟨UInt8.ofNat n :: l, ?_⟩
    have e : (UInt8.ofNat n).toNat = n := by rw [UInt8.toNat_ofNat']; omega
    simp only [ints, List.map_cons, bytesC] at hl ⊢
    rw [hl, e]
theorem view_bytes {H : Type} {enc : TypeId × Value → H} {P : Program} {W : World} {t e : TypeId} {a0 : Option Addr} {len cap : Nat} {d : DataW H} {p : List MemPlace}
    (ht : P.underlying t = some (.slice e)) (he : P.underlying e = some (.int .u8)) (hc : P.cellsOf e = 1) (hby : P.bytesOf e = 1)
    (h : DataW.Trod enc P W 0 (fun _ => true) true t (.slice a0 len cap) d p) (hsz : ∀ elems spare, d = .slice elems spare → (elems.length + spare.length) * P.bytesOf e ≤ reachBytes) :
    ∃ xs : List UInt8, Rd W 1 a0 len cap (bytesC xs) ∧ cap ≤ 140737488351232 := by
  obtain ⟨zs, hr, hw, hb⟩ := view_ints ht he hc hby h hsz
  obtain ⟨l, hl⟩ := bytes_of_ints hw
  exact ⟨l, by rw [← hl]; exact hr, by omega⟩
end Go.Am
