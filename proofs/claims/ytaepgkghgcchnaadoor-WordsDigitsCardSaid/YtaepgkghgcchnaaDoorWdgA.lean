/-
 Words: digits, one behind the other, as an int. Plain. No condition.
-/
import Derived.Test.YtaepgkghgcchnaaDoorWordsG
import Derived.Test.YtaepgkghgcchnaaDoorWordsS
set_option linter.unusedVariables false
set_option linter.unusedSimpArgs false
namespace Go.Pe
open Go Go.Am Go.RowKit

def dgB (n : Nat) : UInt8 := UInt8.ofNat (48 + n % 10)
theorem Net (n : Nat) : (dgB n).toNat = 48 + n % 10 := by
 unfold dgB
 rw [UInt8.toNat_ofNat']
 omega
theorem NhI (l : List Nat) : digs (l.map dgB) := by
 intro c hc
 obtain ⟨n, _, rfl⟩ := List.mem_map.1 hc
 rw [Net]; omega
theorem digs.append {a b : List UInt8} (h : digs a) (k : digs b) : digs (a ++ b) := fun c hc => (List.mem_append.1 hc).elim (h c) (k c)
theorem digs.take {a : List UInt8} (h : digs a) (n : Nat) : digs (a.take n) := fun c hc => h c (List.mem_of_mem_take hc)
theorem NbY {c : UInt8} (h : 48 ≤ c.toNat ∧ c.toNat ≤ 57) : cls c = 3 := by
 have := NdN (p := fun c => !(decide (48 ≤ c.toNat) && decide (c.toNat ≤ 57)) || cls c == 3) (by decide +kernel) c
 simpa [h.1, h.2] using this
theorem NcH {c : UInt8} (h : 48 ≤ c.toNat ∧ c.toNat ≤ 57) : NbA c = false ∧ c ≠ 35 := by
 have := NdN (p := fun c => !(decide (48 ≤ c.toNat) && decide (c.toNat ≤ 57)) || (!NbA c && !(c == 35))) (by decide +kernel) c
 simpa [h.1, h.2] using this
def Nb4 (c : UInt8) : List UInt8 → List UInt8
 | [] => []
 | x :: r => if x = c then Nb4 c r else x :: r
theorem Ndr : ∀ (l : List UInt8) (c : UInt8), Nb4 48 l ++ [c] = Nae (l ++ [c])
 | [], c => rfl
 | x :: r, c => by
   have ih := Ndr r c
   have hc : ∃ d q, r ++ [c] = d :: q := by cases r <;> exact ⟨_, _, rfl⟩
   obtain ⟨d, q, hd⟩ := hc
   show Nb4 48 (x :: r) ++ [c] = Nae (x :: (r ++ [c]))
   rw [hd]
   unfold Nb4 Nae
   split
   ·rw [ih, hd]
   ·rw [List.cons_append, hd]
theorem Ndl : ∀ {l : List UInt8} (b : List UInt8), digs l → (b = [] ∨ ∃ r, b = 32 :: r) → NeK 3 (l ++ b) = l.length
 | [], b, _, hb => by
   rcases hb with rfl | ⟨r, rfl⟩
   ·rfl
   ·show NeK 3 (32 :: r) = 0
    unfold NeK
    rw [if_neg (by decide)]
 | c :: l, b, h, hb => by
   show NeK 3 (c :: (l ++ b)) = _
   unfold NeK
   rw [if_pos (.inl (NbY h.head)), Ndl b h.tail hb, List.length_cons]
   omega
theorem NeF {l : List UInt8} (h : digs l) : NdD 0 l = if NaW 0 l ≤ 9223372036854775807 then some (NaW 0 l) else none := Nii l 0 h (by omega)
theorem NeD {d b : List UInt8} (hd : d ≠ []) (h : digs d) (hb : b = [] ∨ ∃ r, b = 32 :: r) :
 NbW (d ++ b) 0 = if NaW 0 d ≤ 9223372036854775807 then Nch 1 [] (NaW 0 d) 1 0 d.length else NaV 100 1 := by
 obtain ⟨c, r, rfl⟩ : ∃ c r, d = c :: r := by cases d with | nil => exact absurd rfl hd | cons c r => exact ⟨c, r, rfl⟩
 have hc := h.head
 have hp : Nbf false ((c :: r) ++ b) = 0 := by
  show Nbf false (c :: (r ++ b)) = 0
  unfold Nbf
  rw [if_neg (by rw [(NcH hc).1]; decide), if_neg (NcH hc).2]
 have he : NdJ ((c :: r) ++ b) = (c :: r).length := by
  show (if cls c = 5 then (if (c :: (r ++ b)).take 2 = [45, 62] ∨ (c :: (r ++ b)).take 2 = [61, 61] then 2 else 1) else 1 + NeK (cls c) (r ++ b)) = _
  rw [if_neg (by rw [NbY hc]; decide), NbY hc, Ndl b h.tail hb, List.length_cons]
  omega
 have ht : ((c :: r) ++ b).take ((c :: r).length) = c :: r := List.take_left' rfl
 have hg : ((c :: r) ++ b).getD 0 0 = c := rfl
 have hn : Ng1 ((c :: r) ++ b) = if NaW 0 (c :: r) ≤ 9223372036854775807 then some (1, [], (NaW 0 (c :: r) : Int), (c :: r).length) else none := by
  unfold Ng1
  rw [hp, if_neg (by simp), List.drop_zero]
  unfold Nkt
  simp only [hg, NbY hc, he, ht, if_true, NeF h]
  split
  ·rename_i n hn
   split at hn
   ·rw [if_pos (by assumption)]
    simp only [Sj] at hn
    rw [hn]
   ·cases hn
  ·rename_i hn
   split at hn
   ·cases hn
   ·rw [if_neg (by assumption)]
 rw [Ng2 (Nat.zero_le _), List.drop_zero, hn, hp]
 have hl : Ndg ((c :: r) ++ b) (0 + 0) = 1 := rfl
 rw [hl]
 split
 ·show Nch 1 [] _ 1 ((0 + 0 : Nat) : Int) ((0 + 0 + (c :: r).length : Nat) : Int) = _
  simp
 ·rfl
theorem NgT {d : List UInt8} (h : digs d) : ((decide ((Nae d).length < 19) || (decide ((Nae d).length = 19) && (Op.bytesLess (Nae d) mostT || Nae d == mostT))) = true) ↔ NaW 0 d ≤ 9223372036854775807 := by
 rcases Nat.lt_trichotomy (Nae d).length 19 with h1 | h1 | h1
 ·have := NeP h h1
  simp [h1, this]
 ·have h2 := Nfz h h1
  have e1 : decide ((Nae d).length < 19) = false := by simp [h1]
  have e2 : decide ((Nae d).length = 19) = true := by simp [h1]
  rw [e1, e2, Bool.false_or, Bool.true_and]
  constructor
  ·intro h3
   rw [h3] at h2
   have : ¬ 9223372036854775807 < NaW 0 d := by simpa using h2.symm
   omega
  ·intro h3
   have : decide (9223372036854775807 < NaW 0 d) = false := by simp; omega
   rw [this] at h2
   generalize (Op.bytesLess (Nae d) mostT || Nae d == mostT) = z at h2 ⊢
   cases z
   ·cases h2
   ·rfl
 ·have h2 := Nfy h h1
  have e1 : decide ((Nae d).length < 19) = false := by simp; omega
  have e2 : decide ((Nae d).length = 19) = false := by simp; omega
  rw [e1, e2, Bool.false_or, Bool.false_and]
  constructor
  ·intro h3; cases h3
  ·intro h3; omega
theorem Nei : ∀ (l : List UInt8) (n : Nat) (c : UInt8), NaW n (l ++ [c]) = NaW n l * 10 + (c.toNat - 48)
 | [], n, c => rfl
 | x :: l, n, c => by
   show NaW (n * 10 + (x.toNat - 48)) (l ++ [c]) = _
   rw [Nei l]; rfl
theorem Ngo {d : List UInt8} (h : digs d) {i : Nat} (hi : i < d.length) : NaW 0 (d.take (i + 1)) % 10 + 48 = (d[i]).toNat ∧ NaW 0 (d.take (i + 1)) / 10 = NaW 0 (d.take i) := by
 have e : d.take (i + 1) = d.take i ++ [d[i]] := by rw [List.take_succ_eq_append_getElem hi]
 have hc := h d[i] (List.getElem_mem hi)
 rw [e, Nei]
 omega
theorem Nej (d : List UInt8) (i : Nat) : NaW 0 (d.take i) ≤ NaW 0 d := by
 have h : ∀ (a b : List UInt8) (n : Nat), NaW n (a ++ b) = NaW (NaW n a) b := by
  intro a
  induction a with
  | nil => intro b n; rfl
  | cons x a ih => intro b n; exact ih b _
 have e := h (d.take i) (d.drop i) 0
 rw [List.take_append_drop] at e
 rw [e]
 exact Neh _ _
end Go.Pe
