/-
  What Crc, Seal, Unseal, Blob and GetBlob of package bytes compute. Condition: the bytes are within 2^46.
-/
import Derived.Test.YtmjoneiagfegdaaBytesR
import Derived.Test.YtmjoneiagfegdaaCrcN
set_option linter.unusedVariables false
namespace Go.Proofs.Ytmjoneiagfegdaa
open Go.RowKit Go.Am

theorem bytesC_take (l : List UInt8) (k : Nat) : bytesC (l.take k) = (bytesC l).take k := by simp [bytesC, List.map_take]
theorem bytesC_drop (l : List UInt8) (k : Nat) : bytesC (l.drop k) = (bytesC l).drop k := by simp [bytesC, List.map_drop]
/-- parts of bytes, opaque -/
theorem uptoB {P : Program} {t e : TypeId} (ht : P.underlying t = some (.slice e)) (hs : ((P.info? e).map (·.size)) = some 1) {w : World} {ao : Option Addr} {n cap : Nat} {xs : List UInt8} (hr : Rd w 1 ao n cap (bytesC xs)) {i : Int} {h : Nat} (hi : i = (h : Int)) (hh : h ≤ n) :
    (∀ w, (Instr.sliceAt t (.slice ao n cap) none (some (.int .i64 i)) none).run P w = .ok (.slice ao h cap) w) ∧ Rd w 1 ao h cap (bytesC (xs.take h)) := by
  subst hi
  refine ⟨fun w => run_slice_h' ht hs ao n cap h (by have := hr.lecap; omega) w, ?_⟩
  have := hr.upto hh
  rwa [Nat.mul_one, ← bytesC_take] at this
theorem fromB {P : Program} {t e : TypeId} (ht : P.underlying t = some (.slice e)) (hs : ((P.info? e).map (·.size)) = some 1) {w : World} {ao : Option Addr} {n cap : Nat} {xs : List UInt8} (hr : Rd w 1 ao n cap (bytesC xs)) {i : Int} {k : Nat} (hi : i = (k : Int)) (hk : k ≤ n) :
    ∃ ao' cap', (∀ w, (Instr.sliceAt t (.slice ao n cap) (some (.int .i64 i)) none none).run P w = .ok (.slice ao' (n - k) cap') w) ∧ Rd w 1 ao' (n - k) cap' (bytesC (xs.drop k)) := by
  subst hi
  obtain ⟨ao', cap', h1, h2⟩ := hr.from ht hs hk
  rw [Nat.mul_one, ← bytesC_drop] at h2
  exact ⟨ao', cap', h1, h2⟩
theorem midB {P : Program} {t e : TypeId} (ht : P.underlying t = some (.slice e)) (hs : ((P.info? e).map (·.size)) = some 1) {w : World} {ao : Option Addr} {n cap : Nat} {xs : List UInt8} (hr : Rd w 1 ao n cap (bytesC xs)) {i j : Int} {k h : Nat} (hi : i = (k : Int)) (hj : j = (h : Int)) (hk : k ≤ h) (hh : h ≤ n) :
    ∃ ao' cap', (∀ w, (Instr.sliceAt t (.slice ao n cap) (some (.int .i64 i)) (some (.int .i64 j)) none).run P w = .ok (.slice ao' (h - k) cap') w) ∧ Rd w 1 ao' (h - k) cap' (bytesC ((xs.drop k).take (h - k))) := by
  subst hi; subst hj
  obtain ⟨ao', cap', h1, h2⟩ := hr.mid ht hs hk hh
  rw [Nat.mul_one, Nat.mul_one, ← bytesC_drop, ← bytesC_take] at h2
  exact ⟨ao', cap', h1, h2⟩

theorem and1_u32 (x : Nat) (h : x < 4294967296) : bits .and .u32 (x : Int) 1 = ((x % 2 : Nat) : Int) := by
  have := u32_and_nat x 1 h (by decide)
  rw [nat_mask1] at this
  exact this
theorem halfTo_lt {r : Nat} (h : r < 4294967296) : ∀ k, halfTo r k < 4294967296
  | 0 => by unfold halfTo; omega
  | k + 1 => by
    unfold halfTo; split
    · refine xor_lt32 (halfTo_lt h k) ?_
      exact Nat.lt_of_le_of_lt (Nat.div_le_self _ _) (by decide)
    · exact halfTo_lt h k

set_option maxHeartbeats 1000000 in
theorem half_any (r : Nat) (w : World) (h : r < 4294967296) : Calls Try.prog 40 #[.int .u32 (r : Int)] w fun e w' => e = .returned (.int .u32 ((m4 r : Nat) : Int)) ∧ w = w' := by
  have Hh := Lib.hid (half_eq r)
  go_enter Try.func40, Try.ntmps40
  go_wp2_with fail
  go_loop [3, 7] (fun o i => ∃ k : Nat, k ≤ 4 ∧ i = .int .i64 k ∧ ∃ x : Nat, x < 4294967296 ∧ o = .int .u32 (x : Int) ∧ Hid (x = halfTo r k)) (fun _ i => 4 - (intOf i).toNat)
  case atStart => exact ⟨0, by omega, rfl, r / 16, by omega, by first | rfl | go_num, rfl⟩
  case round =>
    obtain ⟨k, hk, rfl, x, hx, rfl, hh⟩ := hrel
    have hc : k = 0 ∨ k = 1 ∨ k = 2 ∨ k = 3 ∨ k = 4 := by omega
    rcases hc with rfl | rfl | rfl | rfl | rfl
    · have ha := and1_u32 r h
      rcases Nat.mod_two_eq_zero_or_one r with hb | hb
      · have hbb : (((r % 2 : Nat) : Int) == 1) = false := by simp; omega
        have Hs : Hid (x = halfTo r 1) := by rw [hh.out]; unfold Hid; conv => rhs; unfold halfTo
                                             rw [if_neg (by simp; omega)]
        clear hb
        go_wp2_with fail
        go_round
        case rel => exact ⟨1, by omega, rfl, x, hx, rfl, Hs⟩
        case measure => simp [intOf]
      · have hbb : (((r % 2 : Nat) : Int) == 1) = true := by simp; omega
        have hxo : bits .xor .u32 (x : Int) 498536548 = ((x ^^^ 498536548 : Nat) : Int) := u32_xor_nat x 498536548 hx (by decide)
        have Hs : Hid (x ^^^ 498536548 = halfTo r 1) := by rw [hh.out]; unfold Hid; conv => rhs; unfold halfTo
                                                           rw [if_pos (by simpa using hb)]
        have Hxl := Lib.hid (xor_lt32 hx (show 498536548 < 4294967296 by decide))
        clear hb
        go_wp2_with fail
        go_round
        case rel => exact ⟨1, by omega, rfl, x ^^^ 498536548, Hxl.out, by first | rfl | rw [← hxo], Hs⟩
        case measure => simp [intOf]
    · have ha : bits .and .u32 ((r : Int) / 2) 1 = ((r / 2 % 2 : Nat) : Int) := and1_u32 (r / 2) (by omega)
      rcases Nat.mod_two_eq_zero_or_one (r / 2) with hb | hb
      · have hbb : (((r / 2 % 2 : Nat) : Int) == 1) = false := by simp; omega
        have Hs : Hid (x = halfTo r 2) := by rw [hh.out]; unfold Hid; conv => rhs; unfold halfTo
                                             rw [if_neg (by simp; omega)]
        clear hb
        go_wp2_with fail
        go_round
        case rel => exact ⟨2, by omega, rfl, x, hx, rfl, Hs⟩
        case measure => simp [intOf]
      · have hbb : (((r / 2 % 2 : Nat) : Int) == 1) = true := by simp; omega
        have hxo : bits .xor .u32 (x : Int) 997073096 = ((x ^^^ 997073096 : Nat) : Int) := u32_xor_nat x 997073096 hx (by decide)
        have Hs : Hid (x ^^^ 997073096 = halfTo r 2) := by rw [hh.out]; unfold Hid; conv => rhs; unfold halfTo
                                                           rw [if_pos (by simpa using hb)]
        have Hxl := Lib.hid (xor_lt32 hx (show 997073096 < 4294967296 by decide))
        clear hb
        go_wp2_with fail
        go_round
        case rel => exact ⟨2, by omega, rfl, x ^^^ 997073096, Hxl.out, by first | rfl | rw [← hxo], Hs⟩
        case measure => simp [intOf]
    · have ha : bits .and .u32 ((r : Int) / 4) 1 = ((r / 4 % 2 : Nat) : Int) := and1_u32 (r / 4) (by omega)
      rcases Nat.mod_two_eq_zero_or_one (r / 4) with hb | hb
      · have hbb : (((r / 4 % 2 : Nat) : Int) == 1) = false := by simp; omega
        have Hs : Hid (x = halfTo r 3) := by rw [hh.out]; unfold Hid; conv => rhs; unfold halfTo
                                             rw [if_neg (by simp; omega)]
        clear hb
        go_wp2_with fail
        go_round
        case rel => exact ⟨3, by omega, rfl, x, hx, rfl, Hs⟩
        case measure => simp [intOf]
      · have hbb : (((r / 4 % 2 : Nat) : Int) == 1) = true := by simp; omega
        have hxo : bits .xor .u32 (x : Int) 1994146192 = ((x ^^^ 1994146192 : Nat) : Int) := u32_xor_nat x 1994146192 hx (by decide)
        have Hs : Hid (x ^^^ 1994146192 = halfTo r 3) := by rw [hh.out]; unfold Hid; conv => rhs; unfold halfTo
                                                            rw [if_pos (by simpa using hb)]
        have Hxl := Lib.hid (xor_lt32 hx (show 1994146192 < 4294967296 by decide))
        clear hb
        go_wp2_with fail
        go_round
        case rel => exact ⟨3, by omega, rfl, x ^^^ 1994146192, Hxl.out, by first | rfl | rw [← hxo], Hs⟩
        case measure => simp [intOf]
    · have ha : bits .and .u32 ((r : Int) / 8) 1 = ((r / 8 % 2 : Nat) : Int) := and1_u32 (r / 8) (by omega)
      rcases Nat.mod_two_eq_zero_or_one (r / 8) with hb | hb
      · have hbb : (((r / 8 % 2 : Nat) : Int) == 1) = false := by simp; omega
        have Hs : Hid (x = halfTo r 4) := by rw [hh.out]; unfold Hid; conv => rhs; unfold halfTo
                                             rw [if_neg (by simp; omega)]
        clear hb
        go_wp2_with fail
        go_round
        case rel => exact ⟨4, by omega, rfl, x, hx, rfl, Hs⟩
        case measure => simp [intOf]
      · have hbb : (((r / 8 % 2 : Nat) : Int) == 1) = true := by simp; omega
        have hxo : bits .xor .u32 (x : Int) 3988292384 = ((x ^^^ 3988292384 : Nat) : Int) := u32_xor_nat x 3988292384 hx (by decide)
        have Hs : Hid (x ^^^ 3988292384 = halfTo r 4) := by rw [hh.out]; unfold Hid; conv => rhs; unfold halfTo
                                                            rw [if_pos (by simpa using hb)]
        have Hxl := Lib.hid (xor_lt32 hx (show 3988292384 < 4294967296 by decide))
        clear hb
        go_wp2_with fail
        go_round
        case rel => exact ⟨4, by omega, rfl, x ^^^ 3988292384, Hxl.out, by first | rfl | rw [← hxo], Hs⟩
        case measure => simp [intOf]
    · go_wp2_with fail
      go_ret
      exact ⟨by rw [← Hh.out, ← hh.out]; rfl, rfl⟩

theorem crc_step (xs : List UInt8) (k : Nat) (h : k < xs.length) : crcReg 4294967295 (xs.take (k + 1)) = m4 (m4 (crcReg 4294967295 (xs.take k) ^^^ bi xs k)) := by
  rw [bi_lt h, List.take_succ_eq_append_getElem h, crcReg_append]
  rfl

set_option maxHeartbeats 400000 in
theorem crc_any (ao : Option Addr) (n cap : Nat) (xs : List UInt8) (w : World) (hx : Rd w 1 ao n cap (bytesC xs)) :
    Calls Try.prog 16 #[.slice ao n cap] w fun e w' => e = .returned (.int .u32 ((crc xs : Nat) : Int)) ∧ w = w' := by
  have hl3 := hx.lecap
  have hl4 := hx.lemax
  have hix := idx_run (P := Try.prog) hx Try.underlying23 el_u8.sz .i64
  have hcx := hx.byteCell
  have Hl := Lib.hid hx.byteLen
  clear hx
  go_enter Try.func16, Try.ntmps16
  go_wp2_with fail
  go_loop [3, 8] (fun r i => ∃ k acc : Nat, k ≤ n ∧ i = .int .i64 k ∧ r = .int .u32 (acc : Int) ∧ acc < 4294967296 ∧ Hid (crcReg 4294967295 (xs.take k) = acc)) (fun _ i => n - (intOf i).toNat)
  case atStart => exact ⟨0, 4294967295, by omega, rfl, rfl, by omega, by simp [Hid, crcReg]⟩
  case round =>
    obtain ⟨k, acc, hk, rfl, rfl, hacc, H⟩ := hrel
    by_cases hlt : k < n
    · have hb := bi_lt256 xs k
      have hxo : bits .xor .u32 (acc : Int) (bi xs k : Int) = ((acc ^^^ bi xs k : Nat) : Int) := u32_xor_nat acc (bi xs k) hacc (by omega)
      have Hlt : Hid (acc ^^^ bi xs k < 4294967296) := xor_lt32 hacc (by omega)
      have Hst : Hid (crcReg 4294967295 (xs.take (k + 1)) = m4 (m4 (acc ^^^ bi xs k))) := by
        show _ = _
        rw [crc_step xs k (by have := Hl.out; omega), H.out]
      go_wp2_with fail
      refine (half_any (acc ^^^ bi xs k) _ Hlt.out).mono ?_
      rintro e w' ⟨rfl, rfl⟩
      go_wp2_with fail
      refine (half_any (m4 (acc ^^^ bi xs k)) _ (m4_lt Hlt.out)).mono ?_
      rintro e w' ⟨rfl, rfl⟩
      go_wp2_with fail
      go_round
      case rel => exact ⟨k + 1, m4 (m4 (acc ^^^ bi xs k)), by omega, by go_num, rfl, m4_lt (m4_lt Hlt.out), Hst⟩
      case measure => show n - ((k : Int) + 1).toNat < n - (k : Int).toNat; omega
    · have Hf : Hid (crc xs = 4294967295 - acc) := by
        show _ = _
        unfold crc
        rw [← H.out, List.take_of_length_le (by have := Hl.out; omega)]
      go_wp2_with fail
      go_ret
      exact ⟨by rw [Hf.out]; first | go_num | (congr 2; omega), rfl⟩

/-- the four bytes of a sum; what is sealed -/
def be4 (s : Nat) : List UInt8 := [UInt8.ofNat (s / 16777216), UInt8.ofNat (s / 65536), UInt8.ofNat (s / 256), UInt8.ofNat s]
def sealB (l : List UInt8) : List UInt8 := l ++ be4 (crc l)
theorem be4_length (s : Nat) : (be4 s).length = 4 := rfl
theorem sealB_length (l : List UInt8) : (sealB l).length = l.length + 4 := by simp [sealB, be4]
theorem be4_cells (s : Nat) (h : s < 4294967296) : bytesC (be4 s) = [.int .u8 ((s : Int) / 16777216), .int .u8 ((s : Int) / 65536 % 256), .int .u8 ((s : Int) / 256 % 256), .int .u8 ((s : Int) % 256)] := by
  simp [bytesC, be4, UInt8.toNat_ofNat']
  omega

set_option maxHeartbeats 400000 in
theorem seal_any (ao : Option Addr) (n cap : Nat) (xs : List UInt8) (w : World) (hx : Rd w 1 ao n cap (bytesC xs)) (hs : n ≤ 70368744177664) :
    Calls Try.prog 17 #[.slice ao n cap] w fun e w' => Below w.heap.size w w' ∧
      ∃ ao' cap', e = .returned (.slice ao' (n + 4) cap') ∧ w'.ownsRow w.heap.size 5 1 (.slice ao' (n + 4) cap') (n + 4) (bytesC (sealB xs)) := by
  have hlt := crc_lt xs
  obtain ⟨s, hsum⟩ : ∃ s, crc xs = s := ⟨_, rfl⟩
  rw [hsum] at hlt
  have Hs := Lib.hid hsum
  have Hc := Lib.hid (be4_cells s hlt)
  clear hsum
  go_enter Try.func17, Try.ntmps17
  go_wp2_with fail
  refine (crc_any ao n cap xs _ hx).mono ?_
  rintro e w' ⟨rfl, rfl⟩
  rw [Hs.out]
  go_wp2_with fail
  refine (concat2 (w.heap.size + 1) ao (some ⟨w.heap.size, 0, none⟩) n 4 cap 4 xs (be4 s) _ ?_ ?_ ?_ ?_ (by omega)).mono ?_
  · exact (Blk.at (by simp)).cell (i := 0) (by simp)
  · exact (Blk.at (by simp)).cell (i := 1) (by simp)
  · exact hx.fresh (bgo (alc _ _) (alc _ _))
  · rw [Hc.out]; exact (Rd.at rfl (by simp) (by omega)).fresh (alc _ _)
  rintro e w1 ⟨hb1, ao1, cap1, rfl, hown1⟩
  have H := Lib.hid (And.intro (bgo (bgo (alc w _) (alc _ _)) hb1) (own_base (base' := w.heap.size) hown1 (by simp; omega)))
  clear hb1 hown1
  go_wp2_with fail
  go_ret
  exact ⟨H.out.1, ao1, cap1, rfl, by unfold sealB; rw [Hs.out]; exact H.out.2⟩

/-- what was sealed; the error -/
def unsealB (l : List UInt8) : List UInt8 × Int := if l.length < 4 then ([], 11) else if sealB (l.take (l.length - 4)) = l then (l.take (l.length - 4), 0) else ([], 12)
theorem unsealB_le (l : List UInt8) : (unsealB l).1.length ≤ l.length := by unfold unsealB; split; simp; split <;> simp <;> omega

set_option maxHeartbeats 400000 in
theorem unseal_any (ao : Option Addr) (n cap : Nat) (xs : List UInt8) (w : World) (hx : Rd w 1 ao n cap (bytesC xs)) (hs : n ≤ 70368744177664) (v : List UInt8) (er : Int) (hv : unsealB xs = (v, er)) :
    Calls Try.prog 18 #[.slice ao n cap] w fun e w' => Below w.heap.size w w' ∧
      ∃ ao' n' cap', e = .returned (.tuple #[.slice ao' n' cap', .int .i64 er]) ∧ w'.ownsRow w.heap.size 5 1 (.slice ao' n' cap') n' (bytesC v) := by
  have Hl := Lib.hid hx.byteLen
  unfold unsealB at hv
  rw [Hl.out] at hv
  by_cases h4 : n < 4
  · rw [if_pos h4, Prod.mk.injEq] at hv
    obtain ⟨rfl, rfl⟩ := hv
    go_enter Try.func18, Try.ntmps18
    go_wp2_with fail
    go_ret2
    exact ⟨brefl _, none, 0, 0, rfl, World.ownsRow_nil _ _ _ _⟩
  · rw [if_neg h4] at hv
    obtain ⟨hsl, hr⟩ := uptoB (P := Try.prog) Try.underlying23 el_u8.sz hx (i := (n : Int) - 4) (h := n - 4) (by omega) (by omega)
    have Hr := Lib.hid hr
    have Hx := Lib.hid hx
    obtain ⟨b, hb⟩ : ∃ b, decide (sealB (xs.take (n - 4)) = xs) = b := ⟨_, rfl⟩
    have Hb := Lib.hid hb
    clear hr hx
    go_enter Try.func18, Try.ntmps18
    go_wp2_with fail
    refine (seal_any ao (n - 4) cap _ _ Hr.out (by omega)).mono ?_
    rintro e w1 ⟨hb1, ao1, cap1, rfl, hown1⟩
    have H1 := Lib.hid (And.intro hb1 hown1)
    clear hb1 hown1
    go_wp2_with fail
    refine (equalB ao1 ao _ n cap1 cap _ xs w1 (own_rd H1.out.2) (Hx.out.fresh H1.out.1) b Hb.out).mono ?_
    rintro e w2 ⟨rfl, hb2⟩
    have H2 := Lib.hid (bgo H1.out.1 hb2)
    clear hb2
    cases b with
    | false =>
      rw [if_neg (by simpa using hb), Prod.mk.injEq] at hv
      obtain ⟨rfl, rfl⟩ := hv
      clear hb
      go_wp2_with fail
      go_ret2
      exact ⟨H2.out, none, 0, 0, rfl, World.ownsRow_nil _ _ _ _⟩
    | true =>
      rw [if_pos (by simpa using hb), Prod.mk.injEq] at hv
      obtain ⟨rfl, rfl⟩ := hv
      clear hb
      go_wp2_with fail
      refine (cloneB ao (n - 4) cap _ w2 (Hr.out.fresh H2.out) (by omega)).mono ?_
      rintro e w3 ⟨hb3, ao3, cap3, rfl, hown3⟩
      have H3 := Lib.hid (And.intro (bgo H2.out hb3) (own_base (base' := w.heap.size) hown3 H2.out.size))
      clear hb3 hown3
      go_wp2_with fail
      go_ret2
      exact ⟨H3.out.1, ao3, _, cap3, rfl, H3.out.2⟩

set_option maxHeartbeats 400000 in
/-- a string, laid out behind bytes of the call's own -/
theorem blob_any (ao bo : Option Addr) (n cap m c2 : Nat) (xs ys : List UInt8) (w : World) (base : Nat) (hown : w.ownsRow base 5 1 (.slice ao n cap) n (bytesC xs)) (hbase : base ≤ w.heap.size)
    (hy : Rd w 1 bo m c2 (bytesC ys)) (hdis : 0 < m → ∀ b, (Value.slice ao n cap).ownBlock = some b → blk bo ≠ b) (hb : n + m ≤ 70368744177664) :
    Calls Try.prog 31 #[.slice ao n cap, .slice bo m c2] w fun e w' => w.grownBy w' (Value.slice ao n cap).ownBlock ∧
      ∃ ao' n' cap', e = .returned (.slice ao' n' cap') ∧ w'.ownsRow w.heap.size 5 1 (.slice ao' n' cap') n' (bytesC (xs ++ varint ys.length ++ ys)) := by
  have hl2 := hy.lecap
  have hl3 := hy.lemax
  have Hl := Lib.hid hy.byteLen
  have Hy := Lib.hid hy
  clear hy
  go_enter Try.func31, Try.ntmps31
  go_wp2_with fail
  refine (uint_any ao n cap xs m w base hown hbase (by omega) (by omega)).mono ?_
  rintro e w1 ⟨hg, ao1, n1, cap1, rfl, hown1⟩
  have hn1 : n1 ≤ n + 10 := by
    have h1 := (own_rd hown1).byteLen
    have h2 := (own_rd hown).byteLen
    have h3 := varint_le m
    simp at h1; omega
  have Hy1 := Lib.hid (Hy.out.grown hg (by
    intro hp e
    exact hdis (by simpa [Hl.out] using hp) _ e.symm rfl))
  have H := Lib.hid (And.intro hg hown1)
  clear hg hown1 hown
  go_wp2_with fail
  refine (concat2 w1.heap.size ao1 bo n1 m cap1 c2 (xs ++ varint m) ys _ ?_ ?_ ?_ ?_ (by omega)).mono ?_
  · exact (Blk.at (by simp)).cell (i := 0) (by simp)
  · exact (Blk.at (by simp)).cell (i := 1) (by simp)
  · exact (own_rd H.out.2).fresh (alc _ _)
  · exact Hy1.out.fresh (alc _ _)
  rintro e w2 ⟨hb2, ao2, cap2, rfl, hown2⟩
  have H2 := Lib.hid (And.intro (gb_trans H.out.1 (gb_below (bgo (alc w1 _) hb2) none) (fun b hb => by cases hb)) (own_base (base' := w.heap.size) hown2 (by have := H.out.1.size; simp; omega)))
  clear hb2 hown2
  go_wp2_with fail
  go_ret
  refine ⟨H2.out.1, ao2, _, cap2, rfl, ?_⟩
  rw [Hl.out]; exact H2.out.2

/-- what a string's reader tells -/
def getB (xs : List UInt8) (at_ most : Int) : List UInt8 × Int × Int :=
  if (getU xs at_).2.2 ≠ 0 then ([], 0, (getU xs at_).2.2)
  else if most < 0 ∨ most < (getU xs at_).1 then ([], 0, 3)
  else if (xs.length : Int) - (getU xs at_).2.1 < (getU xs at_).1 then ([], 0, 11)
  else ((xs.drop (getU xs at_).2.1.toNat).take (getU xs at_).1, (getU xs at_).2.1 + (getU xs at_).1, 0)

set_option maxHeartbeats 1000000 in
theorem getblob_any (ao : Option Addr) (n cap : Nat) (xs : List UInt8) (at_ most : Int) (w : World) (hx : Rd w 1 ao n cap (bytesC xs)) (hat : in64 at_) (hmost : in64 most) (hs : n ≤ 140737488355328) (v : List UInt8) (nx er : Int) (hv : getB xs at_ most = (v, nx, er)) :
    Calls Try.prog 22 #[.slice ao n cap, .int .i64 at_, .int .i64 most] w fun e w' => Below w.heap.size w w' ∧
      ∃ ao' n' cap', e = .returned (.tuple #[.slice ao' n' cap', .int .i64 nx, .int .i64 er]) ∧ w'.ownsRow w.heap.size 5 1 (.slice ao' n' cap') n' (bytesC v) := by
  have Hl := Lib.hid hx.byteLen
  obtain ⟨uv, un, ue, hu⟩ : ∃ uv un ue, getU xs at_ = (uv, un, ue) := ⟨_, _, _, rfl⟩
  have hlt := getU_lt xs at_
  unfold getB at hv
  rw [hu] at hv hlt
  simp only [] at hv hlt
  have Hu := Lib.hid hu
  have Hx := Lib.hid hx
  by_cases h0 : ue = 0
  · rw [if_neg (by simpa using h0)] at hv
    have hok := getU_ok (xs := xs) (a := at_) (by rw [hu]; exact h0)
    rw [hu] at hok
    simp only [] at hok
    obtain ⟨hat0, hat1, _, _, hun, hun2⟩ := hok
    rw [Hl.out] at hun2
    obtain ⟨k, rfl⟩ := Int.eq_ofNat_of_zero_le (show 0 ≤ un by omega)
    have hk : k ≤ n := by omega
    have hb0 : (ue != 0) = false := by simpa using h0
    rw [Hl.out] at hv
    subst h0
    clear hu hun hun2 hx
    by_cases h1 : most < 0
    · rw [if_pos (.inl h1), Prod.mk.injEq, Prod.mk.injEq] at hv
      obtain ⟨rfl, rfl, rfl⟩ := hv
      have hb1 : decide (most < 0) = true := by simpa using h1
      go_enter Try.func22, Try.ntmps22
      go_wp2_with fail
      refine (getuint_any ao n cap xs at_ _ Hx.out hat uv k 0 Hu.out).mono ?_
      rintro e w' ⟨rfl, rfl⟩
      go_wp2_with fail
      go_ret3
      exact ⟨brefl _, none, 0, 0, rfl, World.ownsRow_nil _ _ _ _⟩
    · obtain ⟨M, rfl⟩ := Int.eq_ofNat_of_zero_le (show 0 ≤ most by omega)
      have hb1 : decide ((M : Int) < 0) = false := by simp
      clear h1
      by_cases h2 : M < uv
      · rw [if_pos (.inr (by omega)), Prod.mk.injEq, Prod.mk.injEq] at hv
        obtain ⟨rfl, rfl, rfl⟩ := hv
        go_enter Try.func22, Try.ntmps22
        go_wp2_with fail
        refine (getuint_any ao n cap xs at_ _ Hx.out hat uv k 0 Hu.out).mono ?_
        rintro e w' ⟨rfl, rfl⟩
        go_wp2_with fail
        go_ret3
        exact ⟨brefl _, none, 0, 0, rfl, World.ownsRow_nil _ _ _ _⟩
      · rw [if_neg (by omega)] at hv
        obtain ⟨ao2, cap2, hsl, hr2⟩ := fromB (P := Try.prog) Try.underlying23 el_u8.sz Hx.out (i := (k : Int)) (k := k) rfl hk
        have hc2 := hr2.lecap
        have hc3 := hr2.lemax
        clear hr2
        unfold in64 at hmost
        by_cases h3 : n - k < uv
        · rw [if_pos (by omega), Prod.mk.injEq, Prod.mk.injEq] at hv
          obtain ⟨rfl, rfl, rfl⟩ := hv
          go_enter Try.func22, Try.ntmps22
          go_wp2_with fail
          refine (getuint_any ao n cap xs at_ _ Hx.out hat uv k 0 Hu.out).mono ?_
          rintro e w' ⟨rfl, rfl⟩
          go_wp2_with fail
          go_ret3
          exact ⟨brefl _, none, 0, 0, rfl, World.ownsRow_nil _ _ _ _⟩
        · rw [if_neg (by omega), Prod.mk.injEq, Prod.mk.injEq] at hv
          obtain ⟨rfl, rfl, rfl⟩ := hv
          obtain ⟨ao3, cap3, hsl3, hr3⟩ := midB (P := Try.prog) Try.underlying23 el_u8.sz Hx.out (i := (k : Int)) (j := (k : Int) + (uv : Int)) (k := k) (h := k + uv) rfl (by omega) (by omega) (by omega)
          rw [show k + uv - k = uv by omega] at hr3
          simp only [show k + uv - k = uv by omega] at hsl3
          have Hr3 := Lib.hid hr3
          have hc4 := hr3.lecap
          have hc5 := hr3.lemax
          clear hr3
          go_enter Try.func22, Try.ntmps22
          go_wp2_with fail
          refine (getuint_any ao n cap xs at_ _ Hx.out hat uv k 0 Hu.out).mono ?_
          rintro e w' ⟨rfl, rfl⟩
          go_wp2_with fail
          refine (cloneB ao3 uv cap3 _ w Hr3.out (by omega)).mono ?_
          rintro e w3 ⟨hb3, ao4, cap4, rfl, hown3⟩
          have H3 := Lib.hid (And.intro hb3 hown3)
          clear hb3 hown3
          go_wp2_with fail
          go_ret3
          refine ⟨H3.out.1, ao4, _, cap4, rfl, ?_⟩
          simpa using H3.out.2
  · rw [if_pos (by simpa using h0), Prod.mk.injEq, Prod.mk.injEq] at hv
    obtain ⟨rfl, rfl, rfl⟩ := hv
    have hb0 : (ue != 0) = true := by simpa using h0
    clear hu hx h0
    go_enter Try.func22, Try.ntmps22
    go_wp2_with fail
    refine (getuint_any ao n cap xs at_ _ Hx.out hat uv un ue Hu.out).mono ?_
    rintro e w' ⟨rfl, rfl⟩
    go_wp2_with fail
    go_ret3
    exact ⟨brefl _, none, 0, 0, rfl, World.ownsRow_nil _ _ _ _⟩
end Go.Proofs.Ytmjoneiagfegdaa
