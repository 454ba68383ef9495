/-
  Events: a frame of which some bytes next to each other are others. Plain mathematics. No condition.
-/
import Derived.Test.YtogdkhejfkbnmaaEvtO
import Derived.Test.YtogdkhejfkbnmaaCrcN
set_option linter.unusedVariables false
set_option linter.unusedSimpArgs false
namespace Go.Pe
open Go Go.Am Go.RowKit

def xorAt : List UInt8 → Nat → List UInt8 → List UInt8
  | F, _, [] => F
  | F, q, t :: ts => xorAt (F.set q (F.getD q 0 ^^^ t)) (q + 1) ts
theorem xorAt_eq (ts : List UInt8) : ∀ (a x r : List UInt8), x.length = ts.length → xorAt (a ++ (x ++ r)) a.length ts = a ++ (List.zipWith (· ^^^ ·) x ts ++ r) := by
  induction ts with
  | nil => intro a x r h; have : x = [] := List.length_eq_zero_iff.1 h; subst this; rfl
  | cons t ts ih =>
    intro a x r h
    cases x with
    | nil => simp at h
    | cons b x =>
      have h1 : (a ++ (b :: x ++ r)).getD a.length 0 = b := by simp [List.getD_eq_getElem?_getD]
      have h2 : (a ++ (b :: x ++ r)).set a.length (b ^^^ t) = (a ++ [b ^^^ t]) ++ (x ++ r) := by simp [List.set_append]
      show xorAt ((a ++ (b :: x ++ r)).set a.length ((a ++ (b :: x ++ r)).getD a.length 0 ^^^ t)) (a.length + 1) ts = _
      rw [h1, h2, show a.length + 1 = (a ++ [b ^^^ t]).length by simp, ih _ _ _ (by simpa using h)]
      simp
theorem xorAt_len (ts : List UInt8) : ∀ (F : List UInt8) (q : Nat), (xorAt F q ts).length = F.length := by
  induction ts with
  | nil => intro F q; rfl
  | cons t ts ih => intro F q; show (xorAt _ _ ts).length = _; rw [ih, List.length_set]
theorem u8_xor_self {b t : UInt8} (h : b ^^^ t = b) : t = 0 := by
  have h2 : b ^^^ (b ^^^ t) = b ^^^ b := by rw [h]
  rw [← UInt8.xor_assoc, UInt8.xor_self, UInt8.zero_xor] at h2
  exact h2
theorem zipx_same : ∀ {x ts : List UInt8}, x.length = ts.length → List.zipWith (· ^^^ ·) x ts = x → ∀ t ∈ ts, t = 0
  | [], [], _, _, t, ht => by simp at ht
  | b :: x, t' :: ts, hl, h, t, ht => by
    simp only [List.zipWith_cons_cons, List.cons.injEq] at h
    rcases List.mem_cons.1 ht with rfl | ht
    · exact u8_xor_self h.1
    · exact zipx_same (by simpa using hl) h.2 t ht
theorem zipx_zero : ∀ {x ts : List UInt8}, x.length = ts.length → (∀ t ∈ ts, t = 0) → List.zipWith (· ^^^ ·) x ts = x
  | [], [], _, _ => rfl
  | b :: x, t :: ts, hl, h => by
    simp only [List.zipWith_cons_cons, List.cons.injEq]
    exact ⟨by rw [h t (by simp), UInt8.xor_zero], zipx_zero (by simpa using hl) fun t ht => h t (by simp [ht])⟩
theorem be4_inj {a b : Nat} (ha : a < 4294967296) (hb : b < 4294967296) (h : be4 a = be4 b) : a = b := by
  unfold be4 at h
  simp only [List.cons.injEq, and_true] at h
  obtain ⟨h1, h2, h3, h4⟩ := h
  have e1 := congrArg UInt8.toNat h1
  have e2 := congrArg UInt8.toNat h2
  have e3 := congrArg UInt8.toNat h3
  have e4 := congrArg UInt8.toNat h4
  simp only [UInt8.toNat_ofNat'] at e1 e2 e3 e4
  omega
theorem varF_bytes : ∀ (f n i : Nat), n < 128 ^ (f + 1) → i < (varF f n).length → (128 ≤ ((varF f n).getD i 0).toNat ↔ i + 1 < (varF f n).length) := by
  intro f
  induction f with
  | zero =>
    intro n i hn hi
    unfold varF at hi ⊢
    simp only [List.length_singleton] at hi ⊢
    have : i = 0 := by omega
    subst this
    have h128 : n < 128 := by simpa using hn
    simp only [List.getD_cons_zero, ofNat_small (show n < 256 by omega)]
    omega
  | succ f ih =>
    intro n i hn hi
    unfold varF at hi ⊢
    by_cases h : n < 128
    · rw [if_pos h] at hi ⊢
      simp only [List.length_singleton] at hi ⊢
      have : i = 0 := by omega
      subst this
      simp only [List.getD_cons_zero, ofNat_small (show n < 256 by omega)]
      omega
    · rw [if_neg h] at hi ⊢
      simp only [List.length_cons] at hi ⊢
      cases i with
      | zero =>
        have := varF_pos f (n / 128)
        simp only [List.getD_cons_zero, ofNat_small (show n % 128 + 128 < 256 by omega)]
        omega
      | succ i =>
        have hd : n / 128 < 128 ^ (f + 1) := by
          rw [Nat.div_lt_iff_lt_mul (by omega), ← Nat.pow_succ]; exact hn
        have := ih (n / 128) i hd (by omega)
        simp only [List.getD_cons_succ]
        omega
theorem varint_bytes {n i : Nat} (hn : n < 18446744073709551616) (hi : i < (varint n).length) : 128 ≤ ((varint n).getD i 0).toNat ↔ i + 1 < (varint n).length :=
  varF_bytes 9 n i (Nat.lt_of_lt_of_le hn (by decide)) hi
theorem pt_len (x e : Ev) : 5 ≤ (pt x e).length := by
  have h1 := dInt_len x.T e.T
  have h2 := dInt_len x.J e.J
  have h3 := dInt_len x.A e.A
  have h4 := dInt_len x.B e.B
  unfold pt
  simp only [List.length_cons, List.length_append]
  omega
theorem bodyL_ge {l : List Ev} (h : l ≠ []) : 6 ≤ (bodyL l).length := by
  have hb : bodyL l = varint l.length ++ pts .zero l := putsL_pts l _ _
  have h1 := varint_pos l.length
  cases l with
  | nil => exact absurd rfl h
  | cons e r =>
    have h2 := pt_len .zero e
    rw [hb]
    show 6 ≤ (varint _ ++ (pt .zero e ++ pts e r)).length
    simp only [List.length_append]
    omega
theorem frameL_split (l : List Ev) : frameL l = varint (bodyL l).length ++ (bodyL l ++ be4 (crc (bodyL l))) := rfl
theorem be4_len (s : Nat) : (be4 s).length = 4 := rfl
theorem readL_other {l : List Ev} (h2 : l.length ≤ 4096) {B : List UInt8} (hl : B.length = (bodyL l).length) (hc : crc B ≠ crc (bodyL l)) : readL (varint (bodyL l).length ++ (B ++ be4 (crc (bodyL l)))) 0 = .inr 12 := by
  have hB := bodyL_le h2
  have hx : (varint (bodyL l).length ++ (B ++ be4 (crc (bodyL l)))).drop 0 = varint (bodyL l).length ++ (B ++ be4 (crc (bodyL l))) := List.drop_zero
  have hg := getU_varint hx (Nat.zero_le _) (by omega)
  have hg' : getU (varint (bodyL l).length ++ (B ++ be4 (crc (bodyL l)))) 0 = ((bodyL l).length, ((varint (bodyL l).length).length : Int), 0) := by
    rw [show (0 : Int) = ((0 : Nat) : Int) from rfl, hg]; simp
  unfold readL
  have e0 : (((varint (bodyL l).length).length : Nat) : Int).toNat = (varint (bodyL l).length).length := by omega
  have t1 : (B ++ be4 (crc (bodyL l))).take ((bodyL l).length + 4) = B ++ be4 (crc (bodyL l)) := List.take_of_length_le (by rw [List.length_append, be4_len]; omega)
  have t2 : (B ++ be4 (crc (bodyL l))).take (bodyL l).length = B := by rw [← hl, List.take_left]
  simp only [hg', ne_eq, not_true_eq_false, if_false, e0, List.drop_left, t1, t2]
  have hs : ¬ sealB B = B ++ be4 (crc (bodyL l)) := by
    intro h
    unfold sealB at h
    exact hc (be4_inj (crc_lt _) (crc_lt _) (List.append_cancel_left h))
  rw [if_neg (by omega), if_neg (by simp only [List.length_append, be4_len]; omega), if_neg hs]
theorem readL_turned {l : List Ev} (h2 : l.length ≤ 4096) {p : Nat} {ts : List UInt8} (h4 : ts.length ≤ 4) (hp : p + ts.length ≤ (bodyL l).length) :
    ((∀ t ∈ ts, t = 0) → xorAt (frameL l) ((varint (bodyL l).length).length + p) ts = frameL l) ∧ ((∃ t ∈ ts, t ≠ 0) → readL (xorAt (frameL l) ((varint (bodyL l).length).length + p) ts) 0 = .inr 12) := by
  obtain ⟨a, ha⟩ : ∃ a, (bodyL l).take p = a := ⟨_, rfl⟩
  obtain ⟨x, hx⟩ : ∃ x, ((bodyL l).drop p).take ts.length = x := ⟨_, rfl⟩
  obtain ⟨s, hs⟩ : ∃ s, ((bodyL l).drop p).drop ts.length = s := ⟨_, rfl⟩
  have hal : a.length = p := by rw [← ha, List.length_take]; omega
  have hxl : x.length = ts.length := by rw [← hx, List.length_take, List.length_drop]; omega
  have hb : bodyL l = a ++ x ++ s := by rw [← ha, ← hx, ← hs, List.append_assoc, List.take_append_drop, List.take_append_drop]
  have key : xorAt (frameL l) ((varint (bodyL l).length).length + p) ts = varint (bodyL l).length ++ ((a ++ List.zipWith (· ^^^ ·) x ts ++ s) ++ be4 (crc (bodyL l))) := by
    have := xorAt_eq ts (varint (bodyL l).length ++ a) x (s ++ be4 (crc (bodyL l))) hxl
    rw [List.length_append, hal] at this
    rw [frameL_split]
    have e : varint (bodyL l).length ++ (bodyL l ++ be4 (crc (bodyL l))) = varint (bodyL l).length ++ a ++ (x ++ (s ++ be4 (crc (bodyL l)))) := by
      generalize be4 (crc (bodyL l)) = c
      generalize varint (bodyL l).length = v
      rw [hb]
      simp
    rw [e, this]
    simp
  constructor
  · intro h
    rw [key, zipx_zero hxl h, frameL_split, ← hb]
  · rintro ⟨t, ht, hne⟩
    rw [key]
    refine readL_other h2 ?_ ?_
    · rw [hb]; simp [hxl]
    · intro hc
      rw [hb] at hc
      have := crc_burst (by simp [hxl]) (by simp [hxl]; omega) hc
      exact hne (zipx_same hxl this t ht)
end Go.Pe
