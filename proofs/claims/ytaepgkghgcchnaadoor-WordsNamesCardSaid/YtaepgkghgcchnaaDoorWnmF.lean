/-
 strings.Fields of the keys' text, as a function of plain data. Condition: the table of blanks.
-/
import Derived.Test.YtaepgkghgcchnaaDoorWdgA
import Derived.Test.YtaepgkghgcchnaaDoorShelf
import Derived.Test.YtaepgkghgcchnaaDoorPe9
set_option linter.unusedVariables false
set_option linter.unusedSimpArgs false
namespace Go.Pe
open Go Go.Am Go.RowKit

def keysB : List UInt8 := [97, 99, 113, 117, 105, 114, 101, 32, 97, 100, 100, 32, 97, 114, 114, 105, 118, 101, 32, 98, 97, 114, 114, 105, 101, 114, 32, 98, 114, 111, 97, 100, 99, 97, 115, 116, 32, 99, 111, 110, 100, 32, 100, 111, 32, 100, 111, 110, 101, 32, 101, 108, 115, 101, 32, 105, 102, 32, 108, 111, 99, 107, 32, 108, 111, 99, 107, 102, 111, 114, 32, 108, 111, 111, 112, 32, 109, 117, 116, 101, 120, 32, 111, 110, 99, 101, 32, 112, 117, 116, 32, 113, 117, 101, 117, 101, 32, 114, 101, 97, 100, 32, 114, 101, 108, 101, 97, 115, 101, 32, 114, 108, 111, 99, 107, 32, 114, 117, 110, 108, 111, 99, 107, 32, 114, 119, 108, 111, 99, 107, 32, 115, 101, 109, 32, 115, 101, 116, 32, 115, 105, 103, 110, 97, 108, 32, 116, 97, 107, 101, 32, 116, 104, 114, 101, 97, 100, 32, 116, 114, 121, 97, 99, 113, 117, 105, 114, 101, 32, 116, 114, 121, 108, 111, 99, 107, 32, 117, 110, 108, 111, 99, 107, 32, 118, 97, 114, 32, 119, 97, 105, 116, 32, 119, 97, 105, 116, 102, 111, 114, 32, 119, 97, 105, 116, 111, 110, 32, 119, 108, 111, 99, 107, 32, 119, 114, 105, 116, 101, 32, 119, 117, 110, 108, 111, 99, 107]
def keysT : List (List UInt8) := [[97, 99, 113, 117, 105, 114, 101], [97, 100, 100], [97, 114, 114, 105, 118, 101], [98, 97, 114, 114, 105, 101, 114], [98, 114, 111, 97, 100, 99, 97, 115, 116], [99, 111, 110, 100], [100, 111], [100, 111, 110, 101], [101, 108, 115, 101], [105, 102], [108, 111, 99, 107], [108, 111, 99, 107, 102, 111, 114], [108, 111, 111, 112], [109, 117, 116, 101, 120], [111, 110, 99, 101], [112, 117, 116], [113, 117, 101, 117, 101], [114, 101, 97, 100], [114, 101, 108, 101, 97, 115, 101], [114, 108, 111, 99, 107], [114, 117, 110, 108, 111, 99, 107], [114, 119, 108, 111, 99, 107], [115, 101, 109], [115, 101, 116], [115, 105, 103, 110, 97, 108], [116, 97, 107, 101], [116, 104, 114, 101, 97, 100], [116, 114, 121, 97, 99, 113, 117, 105, 114, 101], [116, 114, 121, 108, 111, 99, 107], [117, 110, 108, 111, 99, 107], [118, 97, 114], [119, 97, 105, 116], [119, 97, 105, 116, 102, 111, 114], [119, 97, 105, 116, 111, 110], [119, 108, 111, 99, 107], [119, 114, 105, 116, 101], [119, 117, 110, 108, 111, 99, 107]]
theorem NbZ : keysT.length = 37 := by decide +kernel
def txW (l : List (List UInt8)) : List PV := l.map .s
def gFields : List PV → Option PV
 | [.s t] => if t = keysB then some (.osl 1 37 (txW keysT)) else none
 | _ => none
theorem NeA : Go.Lib.fields keysB = keysT := by decide +kernel
theorem Nfr : ∀ b ∈ keysB, b.toNat < 128 := by decide +kernel
theorem NgB (w : World) (o : Obj) : (w.alloc o).heap[w.heap.size]? = some o := by
 show (w.heap.push o)[w.heap.size]? = some o
 simp
theorem NiB {F : Nat → Nat → Option Value} : ∀ l : List (List UInt8), FC F (l.map fun x => Value.string ⟨x.toArray⟩) (txW l)
 | [] => FC.nil
 | x :: l => FC.cons (.s x) (NiB l)
theorem NfX {Gl : Gmap} (hT : ∀ c : Nat, c < 256 → Gl 0 c = some (.int .u8 (if Go.Lib.isSp (UInt8.ofNat c) then 1 else 0))) : Na3 Go.Proofs.Tryd.prog Gl 11 gFields := by
 intro args r hr F w base vs gv hF hG hbase ha
 unfold gFields at hr
 split at hr
 ·rename_i t
  split at hr
  ·rename_i ht
   subst ht
   simp only [Sj] at hr
   subst hr
   obtain ⟨ha1, rfl⟩ := ha
   obtain ⟨v, rfl⟩ : ∃ v, vs = [v] := List.length_eq_one_iff.1 ha1.1
   have := (ha1.2 0 v _ rfl rfl).s_inv
   subst this
   have hc := Go.Proofs.Any.strings_Fields_core Go.Proofs.Tryd.lays157 (by kernel_rfl) ⟨keysB.toArray⟩ w (by decide +kernel) (fun j b hb => Nfr b (List.mem_of_getElem? (by simpa using hb))) (fun c hc => hF _ _ _ (hG _ _ _ (hT c hc)))
   refine hc.mono ?_
   rintro e w' ⟨rfl, rfl⟩
   rw [show (⟨keysB.toArray⟩ : ByteArray).data.toList = keysB from rfl, NeA]
   have keep : ∀ b o u, F b o = some u → (w.alloc (.cells (keysT.map fun l => Value.string ⟨l.toArray⟩).toArray 9)).cell? ⟨b, o, none⟩ = some u := fun b o u hu => by
    have h1 := hF b o u hu
    rw [World.cell?_alloc_old _ _ _ (Nat.ne_of_lt (World.block_lt_of_cell? w _ h1))]
    exact h1
   refine ⟨_, F, rfl, fun b o x hx => hx, keep, rfl, rfl, rfl, (by show w.heap.size ≤ (w.heap.push _).size; simp), fun j hj _ => (by show (w.heap.push _)[j]? = _; rw [Array.getElem?_push, if_neg (Nat.ne_of_lt hj)]), fun b o x hx => .inl hx, ?_⟩
   refine ⟨w.heap.size, .inl (Nat.le_refl _), 37, 37, _, 9, (0, 0), rfl, by omega, by decide, by omega, by omega, NgB w _, .inl rfl, by decide +kernel, by decide +kernel, ?_, ?_, hbase⟩
   ·have e : (txW keysT).length = 37 := by decide +kernel
    rw [e]
    have e2 : (keysT.map fun l => Value.string ⟨l.toArray⟩).toArray.toList.take 37 = keysT.map fun l => Value.string ⟨l.toArray⟩ := List.take_of_length_le (by rw [List.length_map, NbZ]; exact Nat.le_refl _)
    rw [e2]
    exact NiB _
   ·intro o
    cases hFo : F w.heap.size o with
    | none => rfl
    | some x =>
      have h1 := hF _ _ _ hFo
      have hlt := World.block_lt_of_cell? w _ h1
      simp at hlt
  ·cases hr
 ·cases hr
end Go.Pe
