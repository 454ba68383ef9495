/-
  How the arguments of a law are opened: a slice of numbers that came in may be read, its numbers fit, its bytes are within the form's own reach. No condition.
-/
import Derived.Test.YtjnofhibldppoaaLib
import Derived.ProofKit
import Derived.OpenShut
import Derived.ShutString
import Derived.ChangeOld
import Derived.SizedLaws
namespace Go.Am
open Go.RowKit Go.ChangeShapes Go.WideShapes Go.ChangeAt
set_option linter.unusedVariables false

theorem in64_of_wf {x : Int} (h : (Lit.int .i64 x).wf = true) : in64 x := by
  have := h
  simp [Lit.wf, IntKind.min, IntKind.max, IntKind.signed, IntKind.bits] at this
  unfold in64
  omega

theorem rd_of_cells {W : World} {a : Addr} {len cap : Nat} {cs : List Value} (hl : cs.length = len) (h1 : len ≤ cap) (h2 : cap ≤ 9223372036854775807)
    (hc : ∀ i (h : i < cs.length), W.cell? (a.add i) = some cs[i]) : Rd W 1 (some a) len cap cs := by
  have hsp : 0 < len → a.spot = none := by
    intro hp
    have := hc 0 (by omega)
    obtain ⟨b, o, sp⟩ := a
    cases sp with
    | none => rfl
    | some x =>
      simp only [Addr.add_zero', World.cell?] at this
      split at this <;> simp at this
  refine { len := by omega, nil := fun h => by simp at h, spot := by simpa using hsp, lecap := h1, lemax := h2, lt := ?_, cell := ?_ }
  · intro hp
    have := World.block_lt_of_cell? _ _ (hc 0 hp)
    rw [Addr.add_zero'] at this
    exact this
  · intro j hj
    have := hsp (by omega)
    obtain ⟨b, o, sp⟩ := a
    simp at this
    subst this
    have := hc j hj
    rwa [Addr.add_lit] at this

theorem view_ints {H : Type} {enc : TypeId × Value → H} {P : Program} {W : World} {t e : TypeId} {k : IntKind} {bytes : Nat} {a0 : Option Addr} {len cap : Nat} {d : DataW H} {p : List MemPlace}
    (ht : P.underlying t = some (.slice e)) (he : P.underlying e = some (.int k)) (hc : P.cellsOf e = 1) (hby : P.bytesOf e = bytes)
    (h : DataW.Trod enc P W 0 (fun _ => true) true t (.slice a0 len cap) d p) (hsz : ∀ elems spare, d = .slice elems spare → (elems.length + spare.length) * P.bytesOf e ≤ reachBytes) :
    ∃ xs : List Int, Rd W 1 a0 len cap (ints k xs) ∧ (∀ x ∈ xs, (Lit.int k x).wf = true) ∧ cap * bytes ≤ 140737488351232 := by
  obtain ⟨fuel, hf⟩ := h
  rcases open_ints ht he hc hf with ⟨hcs, _⟩ | ⟨x, l, c, zs, hcs, _, hl, hm, hz, hx, hcell, hwz⟩
  · simp [Value.cells] at hcs
    obtain ⟨rfl, rfl, rfl⟩ := hcs
    exact ⟨[], { len := rfl, nil := fun _ => ⟨rfl, rfl⟩, spot := fun h => by omega, lecap := by omega, lemax := by omega, lt := fun h => by simp at h, cell := fun j h => by simp at h }, (fun x h => absurd h (by simp)), by omega⟩
  · simp [Value.cells] at hcs
    obtain ⟨rfl, rfl, rfl⟩ := hcs
    simp only [if_true] at hz
    simp only [Prod.mk.injEq] at hx
    have hr := hsz _ _ hx.1
    rw [hby] at hr
    simp only [lits, List.length_map, List.length_take, List.length_drop, reachBytes] at hr
    have hm' : cap ≤ 9223372036854775807 := hm
    refine ⟨zs.take len, rd_of_cells (by simp; omega) hl hm' ?_, fun x hx => hwz x (List.mem_of_mem_take hx), ?_⟩
    · intro i hi
      simp [ints] at hi
      rw [hcell i (by omega)]
      simp [ints, List.getD, show i < zs.length by omega]
    · have e1 : min len zs.length + (zs.length - len) = cap := by omega
      rw [e1] at hr
      exact hr

theorem view_arr {H : Type} {enc : TypeId × Value → H} {P : Program} {W : World} {t e : TypeId} {k : IntKind} {n : Nat} {r : Reach} {b0 : Nat} {v : Value} {base : Nat} {spare : Nat → Bool} {held : Bool} {d : DataW H} {p : List MemPlace}
    (ht : P.underlying t = some (.array n e)) (he : P.underlying e = some (.int k)) (hc : P.cellsOf e = 1) (hct : P.cellsOf t = n)
    (hv : Value.okWide P W r b0 t v) (h : DataW.Trod enc P W base spare held t v d p) : ∃ xs : List Int, xs.length = n ∧ v = .agg (ints k xs).toArray ∧ ∀ x ∈ xs, (Lit.int k x).wf = true := by
  have hv' : ∃ cs, v = .agg cs ∧ cs.size = P.cellsOf t := by
    simp only [Value.okWide, ht] at hv
    obtain ⟨cs, h1, h2, _⟩ := hv
    exact ⟨cs, h1, h2⟩
  obtain ⟨cs, rfl, hsz⟩ := hv'
  rw [hct] at hsz
  obtain ⟨fuel, hf⟩ := h
  obtain ⟨ys, m, _, _, _, hl, hel⟩ := DataW.trod_array ht hf
  have hone : ∀ i, i < n → ∃ z, cs.toList[i]? = some (.int k z) ∧ (Lit.int k z).wf = true := by
    intro i hi
    have h1 := hel i hi
    rw [hc, Nat.mul_one, List.getElem?_eq_getElem (by omega)] at h1
    obtain ⟨z, hz, _, hw⟩ := DataW.trod_int he h1
    refine ⟨z, ?_, hw⟩
    have h2 : (((Value.agg cs).cells.toList.drop i).take 1)[0]? = some (.int k z) := by rw [hz]; rfl
    rw [List.getElem?_take, if_pos (by omega), List.getElem?_drop, Nat.add_zero] at h2
    exact h2
  have hlen : cs.toList.length = n := by simpa using hsz
  clear hf hel hv hsz
  suffices hs : ∀ (l : List Value) (n : Nat), l.length = n → (∀ i, i < n → ∃ z, l[i]? = some (.int k z) ∧ (Lit.int k z).wf = true) → ∃ xs : List Int, xs.length = n ∧ l = ints k xs ∧ ∀ x ∈ xs, (Lit.int k x).wf = true by
    obtain ⟨xs, h1, h2, h3⟩ := hs cs.toList n hlen hone
    refine ⟨xs, h1, ?_, h3⟩
    rw [← h2]
  intro l
  induction l with
  | nil => intro n hn _; exact ⟨[], by simpa using hn, rfl, fun x h => absurd h (by simp)⟩
  | cons a l ih =>
    intro n hn hall
    cases n with
    | zero => simp at hn
    | succ n =>
      obtain ⟨z, hz, hw⟩ := hall 0 (by omega)
      simp at hz
      subst hz
      obtain ⟨xs, h1, h2, h3⟩ := ih n (by simpa using hn) (fun i hi => by have := hall (i + 1) (by omega); simpa using this)
      refine ⟨z :: xs, by simp [h1], by rw [h2]; rfl, fun x hx => ?_⟩
      rcases List.mem_cons.1 hx with rfl | hx
      · exact hw
      · exact h3 x hx
theorem two_of {xs : List Int} (h : xs.length = 2) : ∃ a b, xs = [a, b] := by
  match xs, h with
  | [a, b], _ => exact ⟨a, b, rfl⟩
theorem four_of {xs : List Int} (h : xs.length = 4) : ∃ a b c d, xs = [a, b, c, d] := by
  match xs, h with
  | [a, b, c, d], _ => exact ⟨a, b, c, d, rfl⟩
end Go.Am
