/-
  What the law's helpers of package bytes tell: laid, folds, errorAt, like; strings of bytes. Condition: the bytes are within 2^46.
-/
import Derived.Test.YtmjoneiagfegdaaBytesC
import Derived.Laws.IdiomStrings
import Derived.Lib.BufferRead
import Derived.Lib.SlBytesConst
import Derived.Deep.RegionWith
import Derived.Deep.RegionHeld
set_option linter.unusedVariables false
namespace Go.Proofs.Ytmjoneiagfegdaa
open Go.RowKit Go.Am

/-- 'string(b)' of bytes that may be read -/
theorem strB {P : Program} {T S e : TypeId} (hs : P.underlying T = some (.slice e)) (he : P.underlying e = some (.int .u8)) (hd : P.underlying S = some .string) {w : World} {ao : Option Addr} {n cap : Nat} {xs : List UInt8} (hr : Rd w 1 ao n cap (bytesC xs)) :
    (convert T S (.slice ao n cap)).run P w = .ok (.string ⟨xs.toArray⟩) w := by
  have hl := hr.byteLen
  cases ao with
  | none =>
    obtain ⟨rfl, rfl⟩ := hr.nil rfl
    have : xs = [] := List.eq_nil_of_length_eq_zero hl
    subst this
    exact Lib.run_convert_nil_bytes w T S e 0 hs he hd
  | some a =>
    subst hl
    refine run_convert_bytes_back w T S e a cap xs hs he hd ?_
    intro j hj
    have hsp := hr.spot (by omega)
    obtain ⟨b, o, s⟩ := a
    simp at hsp
    subst hsp
    rw [Addr.add_lit]
    have := hr.byteCell j hj
    rw [bi_lt hj] at this
    exact this
theorem strD {P : Program} {T S e : TypeId} (hs : P.underlying T = some (.slice e)) (he : P.underlying e = some (.int .u8)) (hd : P.underlying S = some .string) {w : World} {ao : Option Addr} {n cap : Nat} {xs : List UInt8} (hr : Rd w 1 ao n cap (bytesC xs)) :
    (convert T S (.slice ao n cap)).run P w.drew = .ok (.string ⟨xs.toArray⟩) w.drew := strB hs he hd (hr.fresh (drw w))

set_option maxHeartbeats 1000000 in
theorem laid_any (N : Nat) (ao : Option Addr) (n cap : Nat) (ys : List UInt8) (w : World) (hN : N < 18446744073709551616) (hy : Rd w 1 ao n cap (bytesC ys)) (b : Bool) (hq : (varint N == ys) = b) :
    Calls Try.prog 36 #[.int .u64 (N : Int), .slice ao n cap] w fun e w' => e = .returned (.bool b) ∧ Below w.heap.size w w' := by
  have hs0 := strD Try.underlying23 Try.underlying5 Try.underlying9 hy
  have Hy := Lib.hid hy
  clear hy
  go_enter Try.func36, Try.ntmps36
  go_wp2_with fail
  go_region_with (go_at_call_of 11 N; refine (uint_any none 0 0 [] N w.drew w.heap.size (World.ownsRow_nil _ _ _ _) (Nat.le_refl _) hN (by omega)).mono ?_; rintro e w1 ⟨hg, ao1, n1, cap1, rfl, hown1⟩; have hs1 := strB Try.underlying23 Try.underlying5 Try.underlying9 (own_rd hown1); have hs2 := strB Try.underlying23 Try.underlying5 Try.underlying9 ((Hy.out.fresh (drw w)).grown hg (by intro _ h; cases h)); have Hb := Lib.hid (bgo (drw w) (gb_to hg (Nat.le_refl _) (by intro b h; cases h))); clear hg hown1)
  all_goals (go_wp2_with fail; go_ret; exact ⟨rfl, Hb.out⟩)

theorem getI_fold (n : Int) (h : in64 n) : getI (varint (foldN n)) 0 = (n, ((varint (foldN n)).length : Int), 0) := by
  have h1 := getU_varint (xs := varint (foldN n)) (rest := []) (a := 0) (n := foldN n) (by simp) (by omega) (foldN_lt h)
  rw [Int.natCast_zero] at h1
  unfold getI
  rw [h1]
  simp [openI_foldN]

set_option maxHeartbeats 1000000 in
theorem folds_any (N : Int) (m : Nat) (w : World) (hN : in64 N) (hm : m < 18446744073709551616) (hq : (varint (foldN N) == varint m) = true) :
    Calls Try.prog 21 #[.int .i64 N, .int .u64 (m : Int)] w fun e w' => e = .returned (.bool true) ∧ Below w.heap.size w w' := by
  have Hg := Lib.hid (getI_fold N hN)
  go_enter Try.func21, Try.ntmps21
  go_wp2_with fail
  refine (int_any none 0 0 [] N w w.heap.size (World.ownsRow_nil _ _ _ _) (Nat.le_refl _) hN (by omega)).mono ?_
  rintro e w1 ⟨hg, ao1, n1, cap1, rfl, hown1⟩
  rw [List.nil_append] at hown1
  have Hl := Lib.hid (own_rd hown1).byteLen
  have Hb := Lib.hid (gb_to hg (Nat.le_refl _) (by intro b h; cases h))
  have Ho := Lib.hid hown1
  rw [Hl.out] at Hg
  clear hg hown1
  go_wp2_with fail
  refine (getint_any ao1 n1 cap1 _ 0 w1 (own_rd Ho.out) (by unfold in64; omega) N n1 0 Hg.out).mono ?_
  rintro e w' ⟨rfl, rfl⟩
  have hs0 := strD Try.underlying23 Try.underlying5 Try.underlying9 (own_rd Ho.out)
  go_wp2_with fail
  go_region_held (fun w' => (convert 23 9 (.slice ao1 n1 cap1)).run Try.prog w' = .ok (.string ⟨(varint (foldN N)).toArray⟩) w') (first | exact hs0 | exact hs2) ((go_at_call_of 11 m; refine (uint_any none 0 0 [] m w1.drew w1.heap.size (World.ownsRow_nil _ _ _ _) (Nat.le_refl _) hm (by omega)).mono ?_; rintro e w2 ⟨hg2, ao2, n2, cap2, rfl, hown2⟩; rw [List.nil_append] at hown2; have hs1 := strB Try.underlying23 Try.underlying5 Try.underlying9 (own_rd hown2); have hs2 := strB Try.underlying23 Try.underlying5 Try.underlying9 (((own_rd Ho.out).fresh (drw w1)).grown hg2 (by intro _ h; cases h)); have Hb2 := Lib.hid (bgo Hb.out (bgo (drw w1) (gb_to hg2 (Nat.le_refl _) (by intro b h; cases h)))); clear hg2 hown2))
  all_goals (go_wp2_with fail; go_ret; exact ⟨rfl, Hb2.out⟩)

set_option maxHeartbeats 400000 in
/-- the error of a number that is none -/
theorem errorat_any (ao : Option Addr) (n cap : Nat) (xs : List UInt8) (at_ : Int) (w : World) (hx : Rd w 1 ao n cap (bytesC xs)) (hat : in64 at_) (er : Int) (hv : getU xs at_ = (0, 0, er)) (her : er ≠ 0) :
    Calls Try.prog 20 #[.slice ao n cap, .int .i64 at_] w fun e w' => e = .returned (.int .i64 er) ∧ w = w' := by
  have Hv := Lib.hid hv
  have Hi : Hid (getI xs at_ = (0, 0, er)) := by
    show _ = _
    unfold getI; rw [hv]; simp [her]
  clear hv her
  go_enter Try.func20, Try.ntmps20
  go_wp2_with fail
  refine (getuint_any ao n cap xs at_ w hx hat 0 0 er Hv.out).mono ?_
  rintro e w' ⟨rfl, rfl⟩
  go_wp2_with fail
  refine (getint_any ao n cap xs at_ w hx hat 0 0 er Hi.out).mono ?_
  rintro e w' ⟨rfl, rfl⟩
  go_wp2_with fail
  go_ret
  exact ⟨rfl, rfl⟩
end Go.Proofs.Ytmjoneiagfegdaa
