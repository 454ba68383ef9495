/-
  BytesPlaces's walk: it tells true of all bytes, any place, any turn. Condition: the reach alone.
-/
import Derived.Test.YtmjoneiagfegdaaPlacesM
import Derived.Test.YtmjoneiagfegdaaBytesA
import Derived.Deep.QuietTactic
import Derived.BigQuiet
import Derived.Deep.RegionHeld
import Derived.Deep.CutRange
import Derived.StillTailTactics
set_option linter.unusedVariables false
namespace Go.Proofs.Ytmjoneiagfegdaa
open Go.RowKit Go.Am

theorem strN {P : Program} {T S e : TypeId} (hs : P.underlying T = some (.slice e)) (he : P.underlying e = some (.int .u8)) (hd : P.underlying S = some .string) {w : World} {ao : Option Addr} {n cap : Nat} {xs : List UInt8} (hr : Rd w 1 ao n cap (bytesC xs)) :
    ∀ m, (convert T S (.slice ao n cap)).run P (w.drewN m) = .ok (.string ⟨xs.toArray⟩) (w.drewN m) := fun m => strB hs he hd (hr.fresh (drn w m))

theorem idx_at {P : Program} {t e : TypeId} {ao : Option Addr} {n cap : Nat} {w0 : World} {cs : List Value} (hr : Rd w0 1 ao n cap cs) (ht : P.underlying t = some (.slice e)) (hs : ((P.info? e).map (·.size)) = some 1)
    {i : Int} {k : Nat} (hi : i = (k : Int)) (hk : k < n) (w : World) : (Instr.indexAt t (.slice ao n cap) (.int .i64 i)).run P w = .ok (.pointer (some ⟨blk ao, off ao + k, none⟩)) w := by
  have := idx_run hr ht hs .i64 i w (by omega) (by omega)
  rw [this]; subst hi; simp
theorem idx_own {P : Program} {t e : TypeId} {g n cap : Nat} {w0 : World} {cs : List Value} (hr : Rd w0 1 (some ⟨g, 0, none⟩) n cap cs) (ht : P.underlying t = some (.slice e)) (hs : ((P.info? e).map (·.size)) = some 1)
    {i : Int} {k : Nat} (hi : i = (k : Int)) (hk : k < n) (w : World) : (Instr.indexAt t (.slice (some ⟨g, 0, none⟩) n cap) (.int .i64 i)).run P w = .ok (.pointer (some ⟨g, k, none⟩)) w := by
  rw [idx_at hr ht hs hi hk w]; simp

theorem idx_agg {P : Program} {t e : TypeId} {n : Nat} {e2 : TypeId} {i0 : TypeInfo} {cs : Array Value} (ht : P.underlying t = some (.array n e)) (hi : P.info? e = some i0) (hs : i0.size = 1) (hte : P.underlying e = some (.slice e2)) {i : Int} {k : Nat} (he : i = (k : Int)) (hk : k < n) (hc : k < cs.size) (w : World) :
    (Instr.index t (.agg cs) (.int .i64 i)).run P w = .ok cs[k] w := by
  subst he
  simp [Instr.index, run_underlying ht, asIntOf, sizeOf, typeInfo, hi, hs, hk]
  simp [part, isAgg, run_underlying hte, hc]
theorem xor8 (a b : Nat) (ha : a < 256) (hb : b < 256) : ∃ c : UInt8, bits .xor .u8 (a : Int) (b : Int) = (c.toNat : Int) := by
  refine ⟨UInt8.ofNat (a ^^^ b), ?_⟩
  rw [u8_xor_nat a b ha hb, ofNat_small (Nat.xor_lt_two_pow (n := 8) ha hb)]

set_option maxRecDepth 100000 in
set_option maxHeartbeats 2000000 in
theorem places_any (ao : Option Addr) (n cap K0 turn sum : Nat) (xs : List UInt8) (w : World) (hx : Rd w 1 ao n cap (bytesC xs)) (hk : K0 < 65536) (ht : turn < 256) (hsum : sum < 4294967296) :
    Calls Try.prog 6 #[.slice ao n cap, .int .u16 (K0 : Int), .int .u8 (turn : Int), .int .u32 (sum : Int)] w fun e w' => e = .returned (.bool true) ∧ Below w.heap.size w w' := by
  have Hl := Lib.hid hx.byteLen
  have hlc := hx.lecap
  have hlm := hx.lemax
  by_cases hout : n < 2 ∨ 300 < n
  · have hb1 : (decide ((n : Int) < 2) || decide (300 < (n : Int))) = true := by simp; omega
    clear hx
    by_cases h2 : n < 2
    · clear hout hb1
      go_enter Try.func6, Try.ntmps6
      go_wp2_with fail
      refine (awake_any _).mono ?_
      rintro e w' ⟨rfl, hb⟩
      have Hb := Lib.hid hb; clear hb
      go_wp2_with fail
      go_ret
      exact ⟨rfl, Hb.out⟩
    · have h3 : 300 < n := by omega
      clear hout hb1
      go_enter Try.func6, Try.ntmps6
      go_wp2_with fail
      refine (awake_any _).mono ?_
      rintro e w' ⟨rfl, hb⟩
      have Hb := Lib.hid hb; clear hb
      go_wp2_with fail
      go_ret
      exact ⟨rfl, Hb.out⟩
  · have hn2 : 2 ≤ n := by omega
    have hn3 : n ≤ 300 := by omega
    clear hout
    obtain ⟨K, hK⟩ : ∃ K : Nat, (K0 : Int) % ((n : Int) - 1) = (K : Int) := ⟨K0 % (n - 1), by
      rw [show (n : Int) - 1 = ((n - 1 : Nat) : Int) by omega]; rfl⟩
    have hK2 : K + 1 < n := by
      have := Int.emod_lt_of_pos (K0 : Int) (show 0 < (n : Int) - 1 by omega)
      omega
    have Hx := Lib.hid hx
    go_enter Try.func6, Try.ntmps6
    go_wp2_with fail
    refine (seal_any ao n cap xs w hx (by omega)).mono ?_
    rintro e w1 ⟨hb1, ao1, cap1, rfl, hown1⟩
    have B1 := Lib.hid hb1
    have S1 := Lib.hid (own_rd hown1)
    have X1 := Lib.hid (hx.fresh hb1)
    clear hx hb1 hown1
    obtain ⟨hsl, hr⟩ := uptoB (P := Try.prog) Try.underlying23 el_u8.sz S1.out (i := (n : Int)) (h := n) rfl (by omega)
    rw [show (sealB xs).take n = xs by unfold sealB; rw [← Hl.out]; simp] at hr
    have hs1 := strN Try.underlying23 Try.underlying5 Try.underlying9 hr
    have hs2 := strN Try.underlying23 Try.underlying5 Try.underlying9 X1.out
    have hsum4 : IntKind.i64.wrap ((n : Int) + 4) = (n : Int) + 4 := by rw [IntKind.wrap_i64]; omega
    have heq : (xs == xs) = true := by simp
    clear hr
    go_wp2_with fail
    go_quiet (fail)
    clear hs1 hs2 hsl hsum4 heq
    have B2 := Lib.hid (bgo B1.out (drn w1 nq))
    have S2 := Lib.hid (S1.out.fresh (drn w1 nq))
    have X2 := Lib.hid (X1.out.fresh (drn w1 nq))
    generalize w1.drewN nq = w2 at *
    clear B1 S1 X1
    go_wp2_with (at_builtin; refine wpl_append el_u8 rfl (.tmp 53) (.tmp 54) rfl rfl (World.ownsRow_lit w2 #[] 0 (Nat.le_refl _) (by decide) rfl) rfl (S2.out.fresh (alc _ _)) (bytesC_one _) (by omega) (by simp) ?_)
    intro ao1c c1 w3 hown hg
    have Nw3 := Lib.hid ((alc w2 (.cells #[] 5)).grown hg (by simp) (fun k hk => by simp [Value.ownBlock] at hk; omega))
    have Bw3 := Lib.hid (bgo B2.out Nw3.out)
    have Ow3 : w3.ownsRow w2.heap.size 5 1 (.slice ao1c (n + 4) c1) (n + 4) (bytesC (sealB xs)) := by simpa using hown
    obtain ⟨g1, rfl, gl1, gh1⟩ := own_some Ow3 (by omega)
    have H1 := Lib.hid Ow3
    have Sw3 := Lib.hid (S2.out.fresh Nw3.out)
    have Xw3 := Lib.hid (X2.out.fresh Nw3.out)
    clear hown hg Ow3
    go_wp2_with (at_builtin; refine wpl_append el_u8 rfl (.tmp 56) (.tmp 57) rfl rfl (World.ownsRow_lit w3 #[] 0 (Nat.le_refl _) (by decide) rfl) rfl (Sw3.out.fresh (alc _ _)) (bytesC_one _) (by omega) (by simp) ?_)
    intro ao2c c2 w4 hown hg
    have Nw4 := Lib.hid ((alc w3 (.cells #[] 5)).grown hg (by simp) (fun k hk => by simp [Value.ownBlock] at hk; omega))
    have Bw4 := Lib.hid (bgo Bw3.out Nw4.out)
    have Ow4 : w4.ownsRow w3.heap.size 5 1 (.slice ao2c (n + 4) c2) (n + 4) (bytesC (sealB xs)) := by simpa using hown
    obtain ⟨g2, rfl, gl2, gh2⟩ := own_some Ow4 (by omega)
    have H2 := Lib.hid Ow4
    have Sw4 := Lib.hid (Sw3.out.fresh Nw4.out)
    have Xw4 := Lib.hid (Xw3.out.fresh Nw4.out)
    clear hown hg Ow4
    go_wp2_with (at_builtin; refine wpl_append el_u8 rfl (.tmp 59) (.tmp 60) rfl rfl (World.ownsRow_lit w4 #[] 0 (Nat.le_refl _) (by decide) rfl) rfl (Sw4.out.fresh (alc _ _)) (bytesC_one _) (by omega) (by simp) ?_)
    intro ao3c c3 w5 hown hg
    have Nw5 := Lib.hid ((alc w4 (.cells #[] 5)).grown hg (by simp) (fun k hk => by simp [Value.ownBlock] at hk; omega))
    have Bw5 := Lib.hid (bgo Bw4.out Nw5.out)
    have Ow5 : w5.ownsRow w4.heap.size 5 1 (.slice ao3c (n + 4) c3) (n + 4) (bytesC (sealB xs)) := by simpa using hown
    obtain ⟨g3, rfl, gl3, gh3⟩ := own_some Ow5 (by omega)
    have H3 := Lib.hid Ow5
    have Sw5 := Lib.hid (Sw4.out.fresh Nw5.out)
    have Xw5 := Lib.hid (Xw4.out.fresh Nw5.out)
    clear hown hg Ow5
    have hz2 := B2.out.size
    have hbl : blk ao1 < w2.heap.size := S2.out.lt (by simp [sealB_length])
    have hz3 := Nw3.out.size
    have hz4 := Nw4.out.size
    have K1 := Lib.hid (own_below H1.out (Nw4.out.trans (Nw5.out.mono hz4)) (Nat.le_refl _))
    have K2 := Lib.hid (own_below H2.out Nw5.out (Nat.le_refl _))
    have hg12 : g1 < g2 := by omega
    have hg23 : g2 < g3 := by omega
    clear H1 H2 Nw3 Nw4 Nw5 Bw3 Bw4 Sw3 Sw4 Xw3 Xw4 S2 X2 B2
    have hSl := (sealB_length xs).trans (by rw [Hl.out] : xs.length + 4 = n + 4)
    have hcS := Sw5.out.byteCell
    have hiA := idx_at (P := Try.prog) Sw5.out Try.underlying23 el_u8.sz (i := (K : Int)) (k := K) rfl (by omega)
    have hiB := idx_at (P := Try.prog) Sw5.out Try.underlying23 el_u8.sz (i := (K : Int) + 1) (k := K + 1) (by omega) (by omega)
    have hiC := idx_own (P := Try.prog) (own_rd K1.out) Try.underlying23 el_u8.sz (i := (K : Int)) (k := K) rfl (by omega)
    have hiD := idx_own (P := Try.prog) (own_rd K1.out) Try.underlying23 el_u8.sz (i := (K : Int) + 1) (k := K + 1) (by omega) (by omega)
    have hcK := hcS K (by omega)
    have hcK1 := hcS (K + 1) (by omega)
    have hd1 := (own_rd K1.out).byteCell K (by omega)
    have hd2 := (own_rd K1.out).byteCell (K + 1) (by omega)
    simp only [blk_some, off_some, Nat.zero_add] at hd1 hd2
    have hw1 : IntKind.i64.wrap ((K : Int) + 1) = (K : Int) + 1 := by rw [IntKind.wrap_i64]; omega
    have hne : g1 ≠ blk ao1 := by omega
    have hf1 := World.ownsRow.frozenAt K1.out K
    have hf2 := World.ownsRow.frozenAt K1.out (K + 1)
    clear hcS
    go_wp2_with fail
    go_region_held (fun w' => w'.cell? ⟨blk ao1, off ao1 + K, none⟩ = some (.int .u8 (bi (sealB xs) K)) ∧ w'.cell? ⟨blk ao1, off ao1 + (K + 1), none⟩ = some (.int .u8 (bi (sealB xs) (K + 1)))) (first | exact ⟨hcK, hcK1⟩ | go_keep) (fail)
    have T6 : Hid ((((w5.setCell ⟨g1, K, none⟩ (.int .u8 (bi (sealB xs) (K + 1)))).setCell ⟨g1, K + 1, none⟩ (.int .u8 (bi (sealB xs) K))).drew).ownsRow w2.heap.size 5 1 (.slice (some ⟨g1, 0, none⟩) (n + 4) c1) (n + 4) (bytesC (((sealB xs).set K (gb (sealB xs) (K + 1))).set (K + 1) (gb (sealB xs) K)))) := by
      rw [← bytesC_set, ← bytesC_set]
      exact own_below (World.ownsRow.stored (World.ownsRow.stored K1.out K _).1 (K + 1) _).1 (drw _) (Nat.le_refl _)
    have G6 : Hid (Below g1 w5 (((w5.setCell ⟨g1, K, none⟩ (.int .u8 (bi (sealB xs) (K + 1)))).setCell ⟨g1, K + 1, none⟩ (.int .u8 (bi (sealB xs) K))).drew)) :=
      (((Below.refl g1 w5).setCell (p := ⟨g1, K, none⟩) (Nat.le_refl _) _).setCell (p := ⟨g1, K + 1, none⟩) (Nat.le_refl _) _).trans ((drw _).mono (by simp; omega))
    have U6 : Hid ((((w5.setCell ⟨g1, K, none⟩ (.int .u8 (bi (sealB xs) (K + 1)))).setCell ⟨g1, K + 1, none⟩ (.int .u8 (bi (sealB xs) K))).drew).ownsRow w3.heap.size 5 1 (.slice (some ⟨g2, 0, none⟩) (n + 4) c2) (n + 4) (bytesC (sealB xs))) :=
      own_below (ownsRow_setCell_other (ownsRow_setCell_other K2.out (by simp [Value.ownBlock]; omega) _) (by simp [Value.ownBlock]; omega) _) (drw _) (Nat.le_refl _)
    have V6 : Hid ((((w5.setCell ⟨g1, K, none⟩ (.int .u8 (bi (sealB xs) (K + 1)))).setCell ⟨g1, K + 1, none⟩ (.int .u8 (bi (sealB xs) K))).drew).ownsRow w4.heap.size 5 1 (.slice (some ⟨g3, 0, none⟩) (n + 4) c3) (n + 4) (bytesC (sealB xs))) :=
      own_below (ownsRow_setCell_other (ownsRow_setCell_other H3.out (by simp [Value.ownBlock]; omega) _) (by simp [Value.ownBlock]; omega) _) (drw _) (Nat.le_refl _)
    have B6 := Lib.hid (Bw5.out.trans (G6.out.mono (by omega)))
    have S6 := Lib.hid (Sw5.out.below G6.out (fun _ => by omega))
    have X6 := Lib.hid (Xw5.out.below G6.out (fun h => by have := Hx.out.lt h; omega))
    generalize (((w5.setCell ⟨g1, K, none⟩ (.int .u8 (bi (sealB xs) (K + 1)))).setCell ⟨g1, K + 1, none⟩ (.int .u8 (bi (sealB xs) K))).drew) = w6 at *
    clear G6 hiA hiB hiC hiD hcK hcK1 hd1 hd2 hw1 hf1 hf2 K1 K2 H3 Sw5 Xw5 Bw5 hne
    have hiE := idx_own (P := Try.prog) (own_rd U6.out) Try.underlying23 el_u8.sz (i := (K : Int)) (k := K) rfl (by omega)
    have hdE := (own_rd U6.out).byteCell K (by omega)
    simp only [blk_some, off_some, Nat.zero_add] at hdE
    have hfE := World.ownsRow.frozenAt U6.out K
    obtain ⟨ct, hct⟩ := xor8 (bi (sealB xs) K) turn (bi_lt256 _ _) ht
    have T7 : Hid ((w6.setCell ⟨g2, K, none⟩ (.int .u8 (ct.toNat : Int))).ownsRow w3.heap.size 5 1 (.slice (some ⟨g2, 0, none⟩) (n + 4) c2) (n + 4) (bytesC ((sealB xs).set K ct))) := by
      rw [← bytesC_set]; exact (World.ownsRow.stored U6.out K _).1
    have U7 : Hid ((w6.setCell ⟨g2, K, none⟩ (.int .u8 (ct.toNat : Int))).ownsRow w2.heap.size 5 1 (.slice (some ⟨g1, 0, none⟩) (n + 4) c1) (n + 4) (bytesC (((sealB xs).set K (gb (sealB xs) (K + 1))).set (K + 1) (gb (sealB xs) K)))) :=
      ownsRow_setCell_other T6.out (by simp [Value.ownBlock]; omega) _
    have V7 : Hid ((w6.setCell ⟨g2, K, none⟩ (.int .u8 (ct.toNat : Int))).ownsRow w4.heap.size 5 1 (.slice (some ⟨g3, 0, none⟩) (n + 4) c3) (n + 4) (bytesC (sealB xs))) :=
      ownsRow_setCell_other V6.out (by simp [Value.ownBlock]; omega) _
    have G7 : Hid (Below g2 w6 (w6.setCell ⟨g2, K, none⟩ (.int .u8 (ct.toNat : Int)))) := (Below.refl g2 w6).setCell (p := ⟨g2, K, none⟩) (Nat.le_refl _) _
    have B7 := Lib.hid (B6.out.trans (G7.out.mono (by omega)))
    have S7 := Lib.hid (S6.out.below G7.out (fun _ => by omega))
    have X7 := Lib.hid (X6.out.below G7.out (fun h => by have := Hx.out.lt h; omega))
    clear G7 T6 U6 V6 B6 S6 X6
    go_upto_region 11 with (fail)
    generalize w6.setCell ⟨g2, K, none⟩ (.int .u8 (ct.toNat : Int)) = w7 at *
    clear hiE hdE hfE hct
    go_wp2_with fail
    go_loopw [85] (fun i wr => ∃ (j : Nat) (T : List UInt8), j ≤ 4 ∧ T.length = 4 ∧ i = .int .i64 j ∧ Hid (
        wr.ownsRow w2.heap.size 5 1 (.slice (some ⟨g1, 0, none⟩) (n + 4) c1) (n + 4) (bytesC (((sealB xs).set K (gb (sealB xs) (K + 1))).set (K + 1) (gb (sealB xs) K)))
        ∧ wr.ownsRow w3.heap.size 5 1 (.slice (some ⟨g2, 0, none⟩) (n + 4) c2) (n + 4) (bytesC ((sealB xs).set K ct))
        ∧ wr.ownsRow w4.heap.size 5 1 (.slice (some ⟨g3, 0, none⟩) (n + 4) c3) (n + 4) (bytesC (xs ++ T))
        ∧ Below w.heap.size w wr ∧ Rd wr 1 ao1 (n + 4) cap1 (bytesC (sealB xs)) ∧ Rd wr 1 ao n cap (bytesC xs))) (fun i _ => 4 - (intOf i).toNat)
    case atStart => exact ⟨0, be4 (crc xs), by omega, rfl, rfl, U7.out, T7.out, V7.out, B7.out, S7.out, X7.out⟩
    case round =>
      clear T7 U7 V7 B7 S7 X7
      obtain ⟨j, T, hj, hT, rfl, H⟩ := hrel
      by_cases hlt : j < 4
      · have hiF := idx_own (P := Try.prog) (own_rd H.out.2.2.1) Try.underlying23 el_u8.sz (i := (n : Int) + (j : Int)) (k := n + j) (by omega) (by omega)
        have hdF := (own_rd H.out.2.2.1).byteCell (n + j) (by omega)
        simp only [blk_some, off_some, Nat.zero_add] at hdF
        have hfF := World.ownsRow.frozenAt H.out.2.2.1 (n + j)
        have hwA : IntKind.i64.wrap ((n : Int) + (j : Int)) = (n : Int) + (j : Int) := by rw [IntKind.wrap_i64]; omega
        have hwB : IntKind.i64.wrap (8 * (j : Int)) = 8 * (j : Int) := by rw [IntKind.wrap_i64]; omega
        go_wp2_with fail
        go_still_tail 13, (by kernel_rfl)
        repeat still_step
        try refine wpStill_nil ?_
        change wpList _ _ _ _ _ wr.drew
        go_wp2_with fail
        go_roundw
        case rel =>
          obtain ⟨c, hc⟩ := xor8 (bi (xs ++ T) (n + j)) (sum / 2 ^ (8 * j) % 256) (bi_lt256 _ _) (Nat.mod_lt _ (by decide))
          rw [show (sum : Int) / 2 ^ (8 * j) % 256 = ((sum / 2 ^ (8 * j) % 256 : Nat) : Int) by push_cast; rfl, hc]
          have G : Below g3 wr ((wr.setCell ⟨g3, n + j, none⟩ (.int .u8 (c.toNat : Int))).drew) := ((Below.refl g3 wr).setCell (p := ⟨g3, n + j, none⟩) (Nat.le_refl _) _).trans ((drw _).mono (by have := (own_lt H.out.2.2.1 (by simp)).2; simp at this; simp; omega))
          refine ⟨j + 1, T.set j c, by omega, by simp [hT], by go_num, ?_, ?_, ?_, ?_, ?_, ?_⟩
          · exact own_below (ownsRow_setCell_other H.out.1 (by simp [Value.ownBlock]; omega) _) (drw _) (Nat.le_refl _)
          · exact own_below (ownsRow_setCell_other H.out.2.1 (by simp [Value.ownBlock]; omega) _) (drw _) (Nat.le_refl _)
          · have e : bytesC (xs ++ T.set j c) = (bytesC (xs ++ T)).set (n + j) (.int .u8 (c.toNat : Int)) := by
              rw [bytesC_set, List.set_append_right _ _ (by rw [Hl.out]; omega), Hl.out, Nat.add_sub_cancel_left]
            rw [e]
            exact own_below (World.ownsRow.stored H.out.2.2.1 (n + j) _).1 (drw _) (Nat.le_refl _)
          · exact H.out.2.2.2.1.trans (G.mono (by omega))
          · exact H.out.2.2.2.2.1.below G (fun _ => by omega)
          · exact H.out.2.2.2.2.2.below G (fun h => by have := Hx.out.lt h; omega)
        case measure => show 4 - ((j : Int) + 1).toNat < 4 - (j : Int).toNat; omega
      · have Hs1 := Lib.hid (seen_set2 (xs := xs) (k := K) (by rw [Hl.out]; exact hK2))
        have Hs2 := Lib.hid (seen_set1 (xs := xs) (k := K) (by rw [Hl.out]; omega) ct)
        have Hs3 := Lib.hid (seen_back (xs := xs) hT)
        obtain ⟨L1, hL1⟩ : ∃ L, ((sealB xs).set K (gb (sealB xs) (K + 1))).set (K + 1) (gb (sealB xs) K) = L := ⟨_, rfl⟩
        obtain ⟨L2, hL2⟩ : ∃ L, (sealB xs).set K ct = L := ⟨_, rfl⟩
        obtain ⟨L3, hL3⟩ : ∃ L, xs ++ T = L := ⟨_, rfl⟩
        rw [hL1] at Hs1
        rw [hL2] at Hs2
        rw [hL3] at Hs3
        rw [hL1, hL2, hL3] at H
        have hj4 : j = 4 := by omega
        subst hj4
        clear hL1 hL2 hL3 hT hlt hj
        have H2 : Hid (Below w.heap.size w wr ∧ Rd wr 1 ao1 (n + 4) cap1 (bytesC (sealB xs)) ∧ Rd wr 1 ao n cap (bytesC xs) ∧
          Rd wr 1 (some ⟨g1, 0, none⟩) (n + 4) c1 (bytesC L1) ∧ Rd wr 1 (some ⟨g2, 0, none⟩) (n + 4) c2 (bytesC L2) ∧ Rd wr 1 (some ⟨g3, 0, none⟩) (n + 4) c3 (bytesC L3)) :=
          ⟨H.out.2.2.2.1, H.out.2.2.2.2.1, H.out.2.2.2.2.2, own_rd H.out.1, own_rd H.out.2.1, own_rd H.out.2.2.1⟩
        clear H gl1 gh1 gl2 gh2 gl3 gh3 hg12 hg23 hz2 hz3 hz4 hbl
        obtain ⟨i0, hi0, hsz0⟩ := Option.map_eq_some_iff.1 (show (Try.prog.info? 23).map (·.size) = some 1 by kernel_rfl)
        have hag0 : ∀ w : World, (Instr.index 40 (.agg #[.slice (some ⟨g1, 0, none⟩) (n + 4) c1, .slice (some ⟨g2, 0, none⟩) (n + 4) c2, .slice (some ⟨g3, 0, none⟩) (n + 4) c3]) (.int .i64 0)).run Try.prog w = .ok (.slice (some ⟨g1, 0, none⟩) (n + 4) c1) w :=
          fun w => idx_agg (P := Try.prog) (cs := #[.slice (some ⟨g1, 0, none⟩) (n + 4) c1, .slice (some ⟨g2, 0, none⟩) (n + 4) c2, .slice (some ⟨g3, 0, none⟩) (n + 4) c3]) Try.underlying40 hi0 hsz0 Try.underlying23 (k := 0) rfl (by omega) (by simp) w
        have hag1 : ∀ w : World, (Instr.index 40 (.agg #[.slice (some ⟨g1, 0, none⟩) (n + 4) c1, .slice (some ⟨g2, 0, none⟩) (n + 4) c2, .slice (some ⟨g3, 0, none⟩) (n + 4) c3]) (.int .i64 1)).run Try.prog w = .ok (.slice (some ⟨g2, 0, none⟩) (n + 4) c2) w :=
          fun w => idx_agg (P := Try.prog) (cs := #[.slice (some ⟨g1, 0, none⟩) (n + 4) c1, .slice (some ⟨g2, 0, none⟩) (n + 4) c2, .slice (some ⟨g3, 0, none⟩) (n + 4) c3]) Try.underlying40 hi0 hsz0 Try.underlying23 (k := 1) rfl (by omega) (by simp) w
        have hag2 : ∀ w : World, (Instr.index 40 (.agg #[.slice (some ⟨g1, 0, none⟩) (n + 4) c1, .slice (some ⟨g2, 0, none⟩) (n + 4) c2, .slice (some ⟨g3, 0, none⟩) (n + 4) c3]) (.int .i64 2)).run Try.prog w = .ok (.slice (some ⟨g3, 0, none⟩) (n + 4) c3) w :=
          fun w => idx_agg (P := Try.prog) (cs := #[.slice (some ⟨g1, 0, none⟩) (n + 4) c1, .slice (some ⟨g2, 0, none⟩) (n + 4) c2, .slice (some ⟨g3, 0, none⟩) (n + 4) c3]) Try.underlying40 hi0 hsz0 Try.underlying23 (k := 2) rfl (by omega) (by simp) w
        clear hi0 hsz0
        go_wp2_with fail
        go_loopw [107] (fun i wr => ∃ (j : Nat), j ≤ 3 ∧ i = .int .i64 j ∧ Hid (Below w.heap.size w wr ∧ Rd wr 1 ao1 (n + 4) cap1 (bytesC (sealB xs)) ∧ Rd wr 1 ao n cap (bytesC xs) ∧
          Rd wr 1 (some ⟨g1, 0, none⟩) (n + 4) c1 (bytesC L1) ∧ Rd wr 1 (some ⟨g2, 0, none⟩) (n + 4) c2 (bytesC L2) ∧ Rd wr 1 (some ⟨g3, 0, none⟩) (n + 4) c3 (bytesC L3))) (fun i _ => 3 - (intOf i).toNat)
        case atStart => exact ⟨0, by omega, rfl, H2.out⟩
        case round =>
          clear H2
          obtain ⟨i, hi, rfl, H⟩ := hrel
          have hc : i = 0 ∨ i = 1 ∨ i = 2 ∨ i = 3 := by omega
          clear hi
          rcases hc with rfl | rfl | rfl | rfl
          · by_cases hs : L1 = sealB xs
            · have hu : Hid (unsealB L1 = (xs, 0)) := by show _ = _; rw [Hs1.out, if_pos hs]
              have hb : (L1 == sealB xs) = true := by simpa using hs
              have hb2 : (xs == xs) = true := by simp
              go_wp2_with fail
              refine (unseal_any _ (n + 4) c1 L1 _ H.out.2.2.2.1 (by omega) xs 0 hu.out).mono ?_
              rintro e w9 ⟨hb9, ao9, n9, cap9, rfl, hown9⟩
              have H9 : Hid (Below w.heap.size w w9 ∧ Rd w9 1 ao1 (n + 4) cap1 (bytesC (sealB xs)) ∧ Rd w9 1 ao n cap (bytesC xs) ∧
                Rd w9 1 (some ⟨g1, 0, none⟩) (n + 4) c1 (bytesC L1) ∧ Rd w9 1 (some ⟨g2, 0, none⟩) (n + 4) c2 (bytesC L2) ∧ Rd w9 1 (some ⟨g3, 0, none⟩) (n + 4) c3 (bytesC L3)) :=
                ⟨bgo H.out.1 hb9, H.out.2.1.fresh hb9, H.out.2.2.1.fresh hb9, H.out.2.2.2.1.fresh hb9, H.out.2.2.2.2.1.fresh hb9, H.out.2.2.2.2.2.fresh hb9⟩
              have q1 := strB Try.underlying23 Try.underlying5 Try.underlying9 H9.out.2.2.2.1
              have q2 := strB Try.underlying23 Try.underlying5 Try.underlying9 H9.out.2.1
              have q3 := strB Try.underlying23 Try.underlying5 Try.underlying9 H9.out.2.2.1
              have q4 := strB Try.underlying23 Try.underlying5 Try.underlying9 (own_rd hown9)
              clear hb9 hown9 H hs
              go_wp2_with fail
              go_roundw
              case rel => exact ⟨_, _, _, _, _, _, _, _, _, _, _, _, _, _, _, _, _, _, _, _, _, _, _, _, _, _, _, _, _, _, _, _, _, _, _, _, _, _, _, _, _, ⟨1, by omega, rfl, H9.out⟩, rfl⟩
              case measure => simp [intOf]
            · have hu : Hid (unsealB L1 = ([], 12)) := by show _ = _; rw [Hs1.out, if_neg hs]
              have hb : (L1 == sealB xs) = false := by simpa using hs
              go_wp2_with fail
              refine (unseal_any _ (n + 4) c1 L1 _ H.out.2.2.2.1 (by omega) [] 12 hu.out).mono ?_
              rintro e w9 ⟨hb9, ao9, n9, cap9, rfl, hown9⟩
              have H9 : Hid (Below w.heap.size w w9 ∧ Rd w9 1 ao1 (n + 4) cap1 (bytesC (sealB xs)) ∧ Rd w9 1 ao n cap (bytesC xs) ∧
                Rd w9 1 (some ⟨g1, 0, none⟩) (n + 4) c1 (bytesC L1) ∧ Rd w9 1 (some ⟨g2, 0, none⟩) (n + 4) c2 (bytesC L2) ∧ Rd w9 1 (some ⟨g3, 0, none⟩) (n + 4) c3 (bytesC L3)) :=
                ⟨bgo H.out.1 hb9, H.out.2.1.fresh hb9, H.out.2.2.1.fresh hb9, H.out.2.2.2.1.fresh hb9, H.out.2.2.2.2.1.fresh hb9, H.out.2.2.2.2.2.fresh hb9⟩
              have q1 := strB Try.underlying23 Try.underlying5 Try.underlying9 H9.out.2.2.2.1
              have q2 := strB Try.underlying23 Try.underlying5 Try.underlying9 H9.out.2.1
              clear hb9 hown9 H hs
              go_wp2_with fail
              go_roundw
              case rel => exact ⟨_, _, _, _, _, _, _, _, _, _, _, _, _, _, _, _, _, _, _, _, _, _, _, _, _, _, _, _, _, _, _, _, _, _, _, _, _, _, _, _, _, ⟨1, by omega, rfl, H9.out⟩, rfl⟩
              case measure => simp [intOf]
          · by_cases hs : L2 = sealB xs
            · have hu : Hid (unsealB L2 = (xs, 0)) := by show _ = _; rw [Hs2.out, if_pos hs]
              have hb : (L2 == sealB xs) = true := by simpa using hs
              have hb2 : (xs == xs) = true := by simp
              go_wp2_with fail
              refine (unseal_any _ (n + 4) c2 L2 _ H.out.2.2.2.2.1 (by omega) xs 0 hu.out).mono ?_
              rintro e w9 ⟨hb9, ao9, n9, cap9, rfl, hown9⟩
              have H9 : Hid (Below w.heap.size w w9 ∧ Rd w9 1 ao1 (n + 4) cap1 (bytesC (sealB xs)) ∧ Rd w9 1 ao n cap (bytesC xs) ∧
                Rd w9 1 (some ⟨g1, 0, none⟩) (n + 4) c1 (bytesC L1) ∧ Rd w9 1 (some ⟨g2, 0, none⟩) (n + 4) c2 (bytesC L2) ∧ Rd w9 1 (some ⟨g3, 0, none⟩) (n + 4) c3 (bytesC L3)) :=
                ⟨bgo H.out.1 hb9, H.out.2.1.fresh hb9, H.out.2.2.1.fresh hb9, H.out.2.2.2.1.fresh hb9, H.out.2.2.2.2.1.fresh hb9, H.out.2.2.2.2.2.fresh hb9⟩
              have q1 := strB Try.underlying23 Try.underlying5 Try.underlying9 H9.out.2.2.2.2.1
              have q2 := strB Try.underlying23 Try.underlying5 Try.underlying9 H9.out.2.1
              have q3 := strB Try.underlying23 Try.underlying5 Try.underlying9 H9.out.2.2.1
              have q4 := strB Try.underlying23 Try.underlying5 Try.underlying9 (own_rd hown9)
              clear hb9 hown9 H hs
              go_wp2_with fail
              go_roundw
              case rel => exact ⟨_, _, _, _, _, _, _, _, _, _, _, _, _, _, _, _, _, _, _, _, _, _, _, _, _, _, _, _, _, _, _, _, _, _, _, _, _, _, _, _, _, ⟨2, by omega, rfl, H9.out⟩, rfl⟩
              case measure => simp [intOf]
            · have hu : Hid (unsealB L2 = ([], 12)) := by show _ = _; rw [Hs2.out, if_neg hs]
              have hb : (L2 == sealB xs) = false := by simpa using hs
              go_wp2_with fail
              refine (unseal_any _ (n + 4) c2 L2 _ H.out.2.2.2.2.1 (by omega) [] 12 hu.out).mono ?_
              rintro e w9 ⟨hb9, ao9, n9, cap9, rfl, hown9⟩
              have H9 : Hid (Below w.heap.size w w9 ∧ Rd w9 1 ao1 (n + 4) cap1 (bytesC (sealB xs)) ∧ Rd w9 1 ao n cap (bytesC xs) ∧
                Rd w9 1 (some ⟨g1, 0, none⟩) (n + 4) c1 (bytesC L1) ∧ Rd w9 1 (some ⟨g2, 0, none⟩) (n + 4) c2 (bytesC L2) ∧ Rd w9 1 (some ⟨g3, 0, none⟩) (n + 4) c3 (bytesC L3)) :=
                ⟨bgo H.out.1 hb9, H.out.2.1.fresh hb9, H.out.2.2.1.fresh hb9, H.out.2.2.2.1.fresh hb9, H.out.2.2.2.2.1.fresh hb9, H.out.2.2.2.2.2.fresh hb9⟩
              have q1 := strB Try.underlying23 Try.underlying5 Try.underlying9 H9.out.2.2.2.2.1
              have q2 := strB Try.underlying23 Try.underlying5 Try.underlying9 H9.out.2.1
              clear hb9 hown9 H hs
              go_wp2_with fail
              go_roundw
              case rel => exact ⟨_, _, _, _, _, _, _, _, _, _, _, _, _, _, _, _, _, _, _, _, _, _, _, _, _, _, _, _, _, _, _, _, _, _, _, _, _, _, _, _, _, ⟨2, by omega, rfl, H9.out⟩, rfl⟩
              case measure => simp [intOf]
          · by_cases hs : L3 = sealB xs
            · have hu : Hid (unsealB L3 = (xs, 0)) := by show _ = _; rw [Hs3.out, if_pos hs]
              have hb : (L3 == sealB xs) = true := by simpa using hs
              have hb2 : (xs == xs) = true := by simp
              go_wp2_with fail
              refine (unseal_any _ (n + 4) c3 L3 _ H.out.2.2.2.2.2 (by omega) xs 0 hu.out).mono ?_
              rintro e w9 ⟨hb9, ao9, n9, cap9, rfl, hown9⟩
              have H9 : Hid (Below w.heap.size w w9 ∧ Rd w9 1 ao1 (n + 4) cap1 (bytesC (sealB xs)) ∧ Rd w9 1 ao n cap (bytesC xs) ∧
                Rd w9 1 (some ⟨g1, 0, none⟩) (n + 4) c1 (bytesC L1) ∧ Rd w9 1 (some ⟨g2, 0, none⟩) (n + 4) c2 (bytesC L2) ∧ Rd w9 1 (some ⟨g3, 0, none⟩) (n + 4) c3 (bytesC L3)) :=
                ⟨bgo H.out.1 hb9, H.out.2.1.fresh hb9, H.out.2.2.1.fresh hb9, H.out.2.2.2.1.fresh hb9, H.out.2.2.2.2.1.fresh hb9, H.out.2.2.2.2.2.fresh hb9⟩
              have q1 := strB Try.underlying23 Try.underlying5 Try.underlying9 H9.out.2.2.2.2.2
              have q2 := strB Try.underlying23 Try.underlying5 Try.underlying9 H9.out.2.1
              have q3 := strB Try.underlying23 Try.underlying5 Try.underlying9 H9.out.2.2.1
              have q4 := strB Try.underlying23 Try.underlying5 Try.underlying9 (own_rd hown9)
              clear hb9 hown9 H hs
              go_wp2_with fail
              go_roundw
              case rel => exact ⟨_, _, _, _, _, _, _, _, _, _, _, _, _, _, _, _, _, _, _, _, _, _, _, _, _, _, _, _, _, _, _, _, _, _, _, _, _, _, _, _, _, ⟨3, by omega, rfl, H9.out⟩, rfl⟩
              case measure => simp [intOf]
            · have hu : Hid (unsealB L3 = ([], 12)) := by show _ = _; rw [Hs3.out, if_neg hs]
              have hb : (L3 == sealB xs) = false := by simpa using hs
              go_wp2_with fail
              refine (unseal_any _ (n + 4) c3 L3 _ H.out.2.2.2.2.2 (by omega) [] 12 hu.out).mono ?_
              rintro e w9 ⟨hb9, ao9, n9, cap9, rfl, hown9⟩
              have H9 : Hid (Below w.heap.size w w9 ∧ Rd w9 1 ao1 (n + 4) cap1 (bytesC (sealB xs)) ∧ Rd w9 1 ao n cap (bytesC xs) ∧
                Rd w9 1 (some ⟨g1, 0, none⟩) (n + 4) c1 (bytesC L1) ∧ Rd w9 1 (some ⟨g2, 0, none⟩) (n + 4) c2 (bytesC L2) ∧ Rd w9 1 (some ⟨g3, 0, none⟩) (n + 4) c3 (bytesC L3)) :=
                ⟨bgo H.out.1 hb9, H.out.2.1.fresh hb9, H.out.2.2.1.fresh hb9, H.out.2.2.2.1.fresh hb9, H.out.2.2.2.2.1.fresh hb9, H.out.2.2.2.2.2.fresh hb9⟩
              have q1 := strB Try.underlying23 Try.underlying5 Try.underlying9 H9.out.2.2.2.2.2
              have q2 := strB Try.underlying23 Try.underlying5 Try.underlying9 H9.out.2.1
              clear hb9 hown9 H hs
              go_wp2_with fail
              go_roundw
              case rel => exact ⟨_, _, _, _, _, _, _, _, _, _, _, _, _, _, _, _, _, _, _, _, _, _, _, _, _, _, _, _, _, _, _, _, _, _, _, _, _, _, _, _, _, ⟨3, by omega, rfl, H9.out⟩, rfl⟩
              case measure => simp [intOf]
          · go_wp2_with fail
            refine (awake_any _).mono ?_
            rintro e w9 ⟨rfl, hb9⟩
            have B9 := Lib.hid (bgo H.out.1 hb9)
            clear hb9
            go_wp2_with fail
            go_ret
            exact ⟨rfl, B9.out⟩
end Go.Proofs.Ytmjoneiagfegdaa
