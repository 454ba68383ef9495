/-
  What the laws of events share. No condition.
-/
import Derived.Test.YtadblicfhhllgaaEvtJ
import Derived.Test.YtadblicfhhllgaaEvtW
import Derived.Test.YtadblicfhhllgaaEvtAr
set_option linter.unusedVariables false
set_option linter.unusedSimpArgs false
namespace Go.Pe
open Go Go.Am Go.RowKit

theorem ibits_xor8n (a b : Nat) (ha : a < 256) (hb : b < 256) : ibits .xor .u8 (a : Int) (b : Int) = some (.i .u8 ((a ^^^ b : Nat) : Int)) := by
  rw [← u8_xor_nat a b ha hb]; rfl
theorem ibits_xor8 (a b : UInt8) : ibits .xor .u8 (a.toNat : Int) (b.toNat : Int) = some (.i .u8 ((a ^^^ b).toNat : Int)) := by
  rw [UInt8.toNat_xor]
  exact ibits_xor8n _ _ a.toNat_lt b.toNat_lt
theorem set_getD {l : List UInt8} {i : Nat} {c : UInt8} (h : i < l.length) : (l.set i c).getD i 0 = c := by
  simp [List.getD_eq_getElem?_getD, h]
theorem getU_err {xs : List UInt8} {a : Int} : (getU xs a).2.2 = 0 ∨ (getU xs a).2.2 = 2 ∨ (getU xs a).2.2 = 10 ∨ (getU xs a).2.2 = 11 := by
  unfold getU
  repeat' split
  all_goals simp
theorem readL_err {b : List UInt8} {at0 e : Int} (h : readL b at0 = .inr e) : e ≠ 0 := by
  have hu := @getU_err b at0
  unfold readL at h
  simp only at h
  split at h
  · rename_i hz
    simp only [Sum.inr.injEq] at h
    rw [← h]; exact hz
  split at h
  · simp only [Sum.inr.injEq] at h
    omega
  split at h
  · simp only [Sum.inr.injEq] at h
    omega
  split at h
  · split at h
    · simp at h
    · simp only [Sum.inr.injEq] at h
      omega
  · simp only [Sum.inr.injEq] at h
    omega
theorem cut_in {v : PV} {l : List UInt8} (hv : inL v = some l) {a : Nat} (ha : a ≤ l.length) (h0 : 0 < a) : sliceP 1 none (some (.i .i64 (a : Int))) v = some (.fsl a (ofBytes (l.take a))) := upto_in hv ha (by intro e; rw [e] at ha; simp at ha; omega)
theorem in_takeN {l : List UInt8} {a : Nat} (ha : a ≤ l.length) : inL (.fsl a (ofBytes (l.take a))) = some (l.take a) := in_take ha
theorem pts_len (l : List Ev) : ∀ X, (pts X l).length ≤ 41 * l.length := by
  intro X
  have h1 := putsL_len l [] X
  rw [putsL_pts] at h1
  simpa using h1
/-- a byte turned: never read as the same events -/
theorem turned_ne {l : List Ev} {p : Nat} {u : UInt8} (hp : p < (frameL l).length) (hu : u ≠ 0) {y : List Ev} {m : Int} (h : readL ((frameL l).set p ((frameL l).getD p 0 ^^^ u)) (Int.ofNat 0) = .inl (y, m)) : y ≠ l := by
  intro e
  subst e
  obtain ⟨a, rest, ha, _, _, _, _, hd, _⟩ := readL_inv h
  have ha0 : a = 0 := by simp at ha; omega
  subst ha0
  rw [List.drop_zero] at hd
  have hl := congrArg List.length hd
  rw [List.length_append, List.length_set] at hl
  have hr : rest = [] := List.length_eq_zero_iff.1 (by omega)
  rw [hr, List.append_nil] at hd
  have hg := congrArg (fun s : List UInt8 => s.getD p 0) hd
  simp only [set_getD hp] at hg
  apply hu
  have h2 : (frameL y).getD p 0 ^^^ ((frameL y).getD p 0 ^^^ u) = (frameL y).getD p 0 ^^^ (frameL y).getD p 0 := by rw [hg]
  rw [← UInt8.xor_assoc, UInt8.xor_self, UInt8.zero_xor] at h2
  exact h2
/-- the same cells at a place that is still there -/
theorem upto_own {k n p : Nat} (h : p ≤ n) : sliceP 1 none (some (.i .i64 (p : Int))) (.rsl k 1 0 n) = some (.rsl k 1 0 p) := by
  unfold sliceP bound
  simp only []
  rw [if_pos ⟨by omega, by omega⟩]
  simp
theorem deep_upto {st : St} {k p : Nat} {fz : Bool} {m : List UInt8} (hk : st.get k = some (.cells (ofBytes m) fz)) (h : p ≤ m.length) : deep st 12 (.rsl k 1 0 p) = some (.fsl p (ofBytes (m.take p))) := by
  have := deep_bytes (off := 0) (n := p) hk (by omega)
  rw [List.drop_zero] at this
  exact this
theorem get_at (S : St) (n k : Nat) (o : Option PObj) : St.get ⟨(S.put k o).sto, n⟩ k = o := St.get_putk S k o
theorem get_at_ne {S : St} {n k k' : Nat} {o : Option PObj} (h : k ≠ k') : St.get ⟨(S.put k o).sto, n⟩ k' = S.get k' := St.get_put_ne h
theorem cells_at {st : St} {k : Nat} {fz : Bool} {l : List UInt8} (hk : st.get k = some (.cells (ofBytes l) fz)) : cellsOf st 1 (.rsl k 1 0 l.length) = some (l.length, ofBytes l) := by
  unfold cellsOf
  simp only [hk, cut?, len_ofBytes, Nat.mul_one, Nat.zero_add, List.drop_zero, ne_eq, not_true_eq_false, if_false]
  rw [if_pos (Nat.le_refl _), take_ofBytes, List.take_length]
  rfl
theorem app_at {st : St} {k : Nat} {l news : List UInt8} (hk : st.get k = some (.cells (ofBytes l) false)) {key : Nat} (hl : l.length + news.length ≤ maxBytes) :
    appendP st key 1 1 news.length (ofBytes news) (.rsl k 1 0 l.length) = some (.rsl key 1 0 (l ++ news).length, (st.put k none).put key (some (.cells (ofBytes (l ++ news)) false))) := by
  unfold appendP
  simp only [hk, len_ofBytes, append_ofBytes, List.length_append]
  rw [if_pos ⟨trivial, trivial, by omega, by omega⟩]
/-- a cut behind which a part may have returned -/
theorem WC_cutR {cfg : Cfg} {callE : CallE} {n : Nat} {a b : MCode} {x : Now} {Q : MExit → Now → Prop} (R : Now → Prop) (h : WC cfg callE n a x fun e x' => match e with | .nrm => R x' | .ex id => Q (.ex id) x' | .ret => Q .ret x') (k : ∀ x', R x' → WC cfg callE n b x' Q) : WC cfg callE n (.seq a b) x Q := by
  rw [Z0]
  refine h.mono ?_
  intro e x' hr
  cases e with
  | nrm => rw [Z0v_]; exact k x' hr
  | ex id => rw [Z0w_]; exact hr
  | ret => rw [Z0x_]; exact hr
end Go.Pe
