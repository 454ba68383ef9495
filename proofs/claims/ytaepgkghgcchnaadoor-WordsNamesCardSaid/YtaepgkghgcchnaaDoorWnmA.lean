/-
 Words: letters and digits, one behind the other, as a name or a key, or as an int and a name. Plain. No condition.
-/
import Derived.Test.YtaepgkghgcchnaaDoorWdgA
set_option linter.unusedVariables false
set_option linter.unusedSimpArgs false
namespace Go.Pe
open Go Go.Am Go.RowKit

def alT : List UInt8 := Nj6
def alC (n : Nat) : UInt8 := alT.getD (n % 63) 0
theorem NhD (n : Nat) : cls (alC n) = 3 ∨ cls (alC n) = 4 := by
 have h : ∀ m, m < 63 → cls (alT.getD m 0) = 3 ∨ cls (alT.getD m 0) = 4 := by decide +kernel
 exact h _ (Nat.mod_lt _ (by omega))
theorem NdP (c : UInt8) : (cls c = 3) = (48 ≤ c.toNat ∧ c.toNat ≤ 57) := by
 have := NcL (p := fun c => decide (cls c = 3) == (decide (48 ≤ c.toNat) && decide (c.toNat ≤ 57))) (by decide +kernel) c
 have e : decide (cls c = 3) = (decide (48 ≤ c.toNat) && decide (c.toNat ≤ 57)) := by simpa using this
 by_cases h : cls c = 3
 ·rw [decide_eq_true h] at e
  have e2 := e.symm
  rw [Bool.and_eq_true, decide_eq_true_eq, decide_eq_true_eq] at e2
  exact propext ⟨fun _ => e2, fun _ => h⟩
 ·rw [decide_eq_false h] at e
  refine propext ⟨fun q => absurd q h, fun q => ?_⟩
  rw [decide_eq_true q.1, decide_eq_true q.2] at e
  cases e
def alnum (l : List UInt8) : Prop := ∀ c ∈ l, cls c = 3 ∨ cls c = 4
theorem alnum.head {c : UInt8} {r : List UInt8} (h : alnum (c :: r)) : cls c = 3 ∨ cls c = 4 := h c List.mem_cons_self
theorem alnum.tail {c : UInt8} {r : List UInt8} (h : alnum (c :: r)) : alnum r := fun x hx => h x (List.mem_cons_of_mem _ hx)
theorem alnum.drop {l : List UInt8} (h : alnum l) (n : Nat) : alnum (l.drop n) := fun c hc => h c (List.mem_of_mem_drop hc)
def runT (l : List UInt8) : List UInt8 := l.map fun b => alC b.toNat
theorem NfA (l : List UInt8) : alnum (runT l) := by
 intro c hc
 obtain ⟨b, _, rfl⟩ := List.mem_map.1 hc
 exact NhD _
theorem Ngp (l : List UInt8) (c : UInt8) : runT (l ++ [c]) = runT l ++ [alC c.toNat] := by simp [runT]
theorem NcH (l : List UInt8) : (runT l).length = l.length := by simp [runT]
theorem NcM {c : UInt8} (h : cls c = 3 ∨ cls c = 4) : NbB c = false ∧ c ≠ 35 ∧ cls c ≠ 5 := by
 have := NcL (p := fun c => !(decide (cls c = 3) || decide (cls c = 4)) || (!NbB c && !(c == 35) && !(decide (cls c = 5)))) (by decide +kernel) c
 have e : (decide (cls c = 3) || decide (cls c = 4)) = true := by simpa using h
 rw [e] at this
 simpa [and_assoc] using this
theorem Ned : ∀ {l : List UInt8}, alnum l → NeI 4 l = l.length
 | [], _ => rfl
 | c :: l, h => by
   unfold NeI
   rw [if_pos (by rcases h.head with h | h; exact .inl h; exact .inr ⟨h, rfl⟩), Ned h.tail, List.length_cons]
   omega
theorem Nbm {c : UInt8} {r : List UInt8} (h : cls c = 3 ∨ cls c = 4) : Nbe false (c :: r) = 0 := by
 unfold Nbe
 rw [if_neg (by rw [(NcM h).1]; decide), if_neg (NcM h).2.1]
theorem Nd4 {c : UInt8} {r : List UInt8} (h4 : cls c = 4) (h : alnum (c :: r)) : NeD (c :: r) = some (if Nc2 (32 :: (c :: r) ++ [32]) NaS then 3 else 2, c :: r, 0, (c :: r).length) := by
 have hp := Nbm (r := r) h.head
 have he : Nda (c :: r) = (c :: r).length := by
  show (if cls c = 5 then (if (c :: r).take 2 = [45, 62] ∨ (c :: r).take 2 = [61, 61] then 2 else 1) else 1 + NeI (cls c) r) = _
  rw [if_neg (by omega), h4, Ned h.tail, List.length_cons]
  omega
 unfold NeD
 rw [hp, if_neg (by simp), List.drop_zero]
 unfold NjY
 have hg : (c :: r).getD 0 0 = c := rfl
 simp only [hg, h4, he, List.take_length]
 rw [if_neg (by omega), if_pos trivial]
theorem Ngo : ∀ (l : List UInt8) (n : Nat), n ≤ l.length → (∀ c ∈ l.take n, cls c = 3) → n ≤ NeI 3 l
 | _, 0, _, _ => Nat.zero_le _
 | [], n + 1, h, _ => by simp at h
 | c :: l, n + 1, h, hd => by
   unfold NeI
   rw [if_pos (.inl (hd c (by simp)))]
   have := Ngo l n (by simpa using h) (fun x hx => hd x (by simp [hx]))
   omega
theorem NgY {l : List UInt8} {D : Nat} (h0 : 0 < D) (hD : D ≤ l.length) (hd : ∀ c ∈ l.take D, cls c = 3) : NeD l = none ∨ ∃ n e, NeD l = some (1, [], n, e) ∧ D ≤ e ∧ e ≤ l.length := by
 obtain ⟨c, r, rfl⟩ : ∃ c r, l = c :: r := by cases l with
  | nil => simp at hD; omega
  | cons c r => exact ⟨c, r, rfl⟩
 obtain ⟨d, rfl⟩ : ∃ d, D = d + 1 := ⟨D - 1, by omega⟩
 have hc : cls c = 3 := hd c (by simp)
 have hp := Nbm (r := r) (.inl hc)
 have he : d + 1 ≤ Nda (c :: r) := by
  show d + 1 ≤ (if cls c = 5 then (if (c :: r).take 2 = [45, 62] ∨ (c :: r).take 2 = [61, 61] then 2 else 1) else 1 + NeI (cls c) r)
  rw [if_neg (by omega), hc]
  have := Ngo r d (by simpa using hD) (fun x hx => hd x (by simp [hx]))
  omega
 have hle := NhK (c :: r)
 unfold NeD
 rw [hp, if_neg (by simp), List.drop_zero]
 unfold NjY
 have hg : (c :: r).getD 0 0 = c := rfl
 simp only [hg, hc, if_true]
 split
 ·exact .inr ⟨_, _, rfl, he, hle⟩
 ·exact .inl rfl
end Go.Pe
