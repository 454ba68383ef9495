/-
  BytesNumbers's walk: the fixed examples come out true. No condition.
-/
import Derived.Test.YtmjoneiagfegdaaBytesA
import Derived.Deep.CutRange
set_option linter.unusedVariables false
namespace Go.Proofs.Ytmjoneiagfegdaa
open Go.RowKit Go.Am

theorem idx_nums {P : Program} {t e : TypeId} {n : Nat} {k0 : IntKind} {i0 : TypeInfo} {cs : Array Value} (ht : P.underlying t = some (.array n e)) (hi : P.info? e = some i0) (hs : i0.size = 1) (hte : P.underlying e = some (.int k0)) {i : Int} {k : Nat} (he : i = (k : Int)) (hk : k < n) (hc : k < cs.size) (w : World) :
    (Instr.index t (.agg cs) (.int .i64 i)).run P w = .ok cs[k] w := by
  subst he
  simp [Instr.index, run_underlying ht, asIntOf, sizeOf, typeInfo, hi, hs, hk]
  simp [part, isAgg, run_underlying hte, hc]
theorem getU_num (n : Nat) (h : n < 18446744073709551616) : getU (varint n) 0 = (n, ((varint n).length : Int), 0) := by
  have h1 := getU_varint (xs := varint n) (rest := []) (a := 0) (n := n) (by simp) (by omega) h
  rw [Int.natCast_zero] at h1
  rw [h1]; simp
/-- the least and the greatest numbers of k bytes -/
def loT (k : Nat) : Nat := [0, 0, 128, 16384, 2097152, 268435456, 34359738368, 4398046511104, 562949953421312, 72057594037927936, 9223372036854775808, 0].getD k 0
def hiT (k : Nat) : Nat := [0, 127, 16383, 2097151, 268435455, 34359738367, 4398046511103, 562949953421311, 72057594037927935, 9223372036854775807, 18446744073709551615, 18446744073709551615].getD k 0
theorem tabs : ∀ k : Fin 12, 1 ≤ k.val → k.val ≤ 10 → (varint (loT k)).length = k ∧ (varint (hiT k)).length = k ∧ loT k < 18446744073709551616 ∧ hiT k < 18446744073709551616 ∧
    (hiT k + 1) % 18446744073709551616 = loT (k + 1) ∧ (k.val ≠ 9 → (hiT k * 128 % 18446744073709551616) ||| 127 = hiT (k + 1)) := by decide +kernel


set_option maxHeartbeats 400000 in
/-- 'ten': nine bytes that go on, and what is handed in -/
theorem ten_any (ao : Option Addr) (n cap : Nat) (xs : List UInt8) (w : World) (hx : Rd w 1 ao n cap (bytesC xs)) (hn : n ≤ 1000) :
    Calls Try.prog 19 #[.slice ao n cap] w fun e w' => Below w.heap.size w w' ∧
      ∃ ao' cap', e = .returned (.slice ao' (9 + n) cap') ∧ w'.ownsRow w.heap.size 5 1 (.slice ao' (9 + n) cap') (9 + n) (bytesC (List.replicate 9 128 ++ xs)) := by
  go_enter Try.func19, Try.ntmps19
  go_wp2_with (at_builtin; refine wpl_append el_u8 rfl (.tmp 3) (.tmp 4) rfl rfl (World.ownsRow_lit w #[.int .u8 128, .int .u8 128, .int .u8 128, .int .u8 128, .int .u8 128, .int .u8 128, .int .u8 128, .int .u8 128, .int .u8 128] 9 (Nat.le_refl _) (by decide) rfl) rfl (hx.fresh (alc _ _)) (bytesC_one _) (by omega) (by simp) ?_)
  intro ao1 cap1 w1 hown hg
  have H : Hid (Below w.heap.size w w1 ∧ w1.ownsRow w.heap.size 5 1 (.slice ao1 (9 + n) cap1) (9 + n) (bytesC (List.replicate 9 128 ++ xs))) :=
    ⟨(alc w _).grown hg (by simp) (fun k hk => by simp [Value.ownBlock] at hk; omega), by rw [bytesC_append]; exact hown⟩
  clear hown hg
  go_wp2_with fail
  go_ret
  exact ⟨H.out.1, ao1, cap1, rfl, H.out.2⟩

set_option maxRecDepth 100000 in
set_option maxHeartbeats 4000000 in
theorem numbers_any (w : World) : Calls Try.prog 7 #[] w fun e w' => e = .returned (.bool true) ∧ Below w.heap.size w w' := by
  go_enter Try.func7, Try.ntmps7
  go_wp2_with fail
  go_loopw [1, 2, 3] (fun a b c wr => ∃ k : Nat, 1 ≤ k ∧ k ≤ 11 ∧ c = .int .i64 k ∧ a = .int .u64 ((loT k : Nat) : Int) ∧ b = .int .u64 ((hiT k : Nat) : Int) ∧ Hid (Below w.heap.size w wr)) (fun _ _ c _ => 11 - (intOf c).toNat)
  case atStart => exact ⟨1, by omega, by omega, rfl, rfl, rfl, brefl _⟩
  case round =>
    obtain ⟨k, hk1, hk, rfl, rfl, rfl, H⟩ := hrel
    by_cases hlt : k ≤ 10
    · obtain ⟨t1, t2, t3, t4, t5, t6⟩ := tabs ⟨k, by omega⟩ hk1 hlt
      simp only [] at t1 t2 t5 t6
      obtain ⟨a, ha⟩ : ∃ a, loT k = a := ⟨_, rfl⟩
      obtain ⟨b, hb⟩ : ∃ b, hiT k = b := ⟨_, rfl⟩
      simp only [ha, hb] at t1 t2 t3 t4 t5 t6 ⊢
      have T5 := Lib.hid t5
      have T6 := Lib.hid t6
      have GA : Hid (getU (varint a) 0 = (a, (k : Int), 0)) := by show _ = _; rw [getU_num a t3, t1]
      have GB : Hid (getU (varint b) 0 = (b, (k : Int), 0)) := by show _ = _; rw [getU_num b t4, t2]
      have LA := Lib.hid t1
      have LB := Lib.hid t2
      clear t1 t2 t5 t6 ha hb
      obtain ⟨i0, hi0, hsz0⟩ := Option.map_eq_some_iff.1 (show (Try.prog.info? 22).map (·.size) = some 1 by kernel_rfl)
      have hag0 : ∀ w : World, (Instr.index 44 (.agg #[.int .u64 (a : Int), .int .u64 (b : Int)]) (.int .i64 0)).run Try.prog w = .ok (.int .u64 (a : Int)) w :=
        fun w => idx_nums (P := Try.prog) (cs := #[.int .u64 (a : Int), .int .u64 (b : Int)]) Try.underlying44 hi0 hsz0 Try.underlying22 (k := 0) rfl (by omega) (by simp) w
      have hag1 : ∀ w : World, (Instr.index 44 (.agg #[.int .u64 (a : Int), .int .u64 (b : Int)]) (.int .i64 1)).run Try.prog w = .ok (.int .u64 (b : Int)) w :=
        fun w => idx_nums (P := Try.prog) (cs := #[.int .u64 (a : Int), .int .u64 (b : Int)]) Try.underlying44 hi0 hsz0 Try.underlying22 (k := 1) rfl (by omega) (by simp) w
      clear hi0 hsz0
      have hd : (k : Int) ≤ 10 := by omega
      go_wp2_with fail
      go_loopw [38] (fun i wr => ∃ j : Nat, j ≤ 2 ∧ i = .int .i64 j ∧ Hid (Below w.heap.size w wr)) (fun i _ => 2 - (intOf i).toNat)
      case atStart => exact ⟨0, by omega, rfl, H.out⟩
      case round =>
        clear H
        obtain ⟨j, hj, rfl, H2⟩ := hrel
        have hc : j = 0 ∨ j = 1 ∨ j = 2 := by omega
        clear hj
        rcases hc with rfl | rfl | rfl
        · go_wp2_with fail
          refine (uint_any none 0 0 [] a _ _ (World.ownsRow_nil _ _ _ _) (Nat.le_refl _) t3 (by omega)).mono ?_
          rintro e w3 ⟨hg3, ao3, n3, cap3, rfl, hown3⟩
          rw [List.nil_append] at hown3
          have R3 := Lib.hid (own_rd hown3)
          obtain rfl : k = n3 := LA.out.symm.trans R3.out.byteLen
          have B3 := Lib.hid (bgo H2.out (gb_to hg3 (Nat.le_refl _) (by intro b h; cases h)))
          clear hg3 hown3 H2
          go_wp2_with fail
          refine (getuint_any ao3 k cap3 _ 0 w3 R3.out (by unfold in64; omega) a _ 0 GA.out).mono ?_
          rintro e w' ⟨rfl, rfl⟩
          clear R3
          go_wp2_with fail
          go_roundw
          case rel => exact ⟨1, by omega, rfl, B3.out⟩
          case measure => simp [intOf]
        · go_wp2_with fail
          refine (uint_any none 0 0 [] b _ _ (World.ownsRow_nil _ _ _ _) (Nat.le_refl _) t4 (by omega)).mono ?_
          rintro e w3 ⟨hg3, ao3, n3, cap3, rfl, hown3⟩
          rw [List.nil_append] at hown3
          have R3 := Lib.hid (own_rd hown3)
          obtain rfl : k = n3 := LB.out.symm.trans R3.out.byteLen
          have B3 := Lib.hid (bgo H2.out (gb_to hg3 (Nat.le_refl _) (by intro b h; cases h)))
          clear hg3 hown3 H2
          go_wp2_with fail
          refine (getuint_any ao3 k cap3 _ 0 w3 R3.out (by unfold in64; omega) b _ 0 GB.out).mono ?_
          rintro e w' ⟨rfl, rfl⟩
          clear R3
          go_wp2_with fail
          go_roundw
          case rel => exact ⟨2, by omega, rfl, B3.out⟩
          case measure => simp [intOf]
        · clear GA GB LA LB hag0 hag1
          have hw1 : IntKind.u64.wrap ((b : Int) + 1) = ((loT (k + 1) : Nat) : Int) := by rw [IntKind.wrap_u64, ← T5.out]; omega
          by_cases h9 : k = 9
          · subst h9
            go_wp2_with fail
            go_roundw
            case rel => exact ⟨10, by omega, by omega, rfl, rfl, rfl, H2.out⟩
            case measure => simp [intOf]
          · have hk9 : ((k : Int) == 9) = false := by simp; omega
            have hor : bits .or .u64 (IntKind.u64.wrap ((b : Int) * 128)) 127 = ((hiT (k + 1) : Nat) : Int) := by
              have e : IntKind.u64.wrap ((b : Int) * 128) = ((b * 128 % 18446744073709551616 : Nat) : Int) := by rw [IntKind.wrap_u64]; omega
              have := u64_or_nat (b * 128 % 18446744073709551616) 127 (Nat.mod_lt _ (by decide)) (by decide)
              rw [T6.out h9] at this
              rw [e]; exact this
            go_wp2_with fail
            go_roundw
            case rel => exact ⟨k + 1, by omega, by omega, by go_num, rfl, rfl, H2.out⟩
            case measure => show 11 - ((k : Int) + 1).toNat < 11 - (k : Int).toNat; omega
    · have hk11 : k = 11 := by omega
      subst hk11
      clear hlt hk hk1
      go_wp2_with fail

      refine (ten_any none 0 0 [] _ ?_ (by omega)).mono ?_
      · exact Rd.nilB
      rintro e v1 ⟨hb, aov1, capv1, rfl, hown⟩
      have Bv1 := Lib.hid (bgo H.out hb)
      have Rv1 := Lib.hid (own_rd hown)
      clear hb hown
      go_wp2_with fail
      refine (errorat_any aov1 _ capv1 _ 0 v1 Rv1.out (by unfold in64; omega) 11 (by decide) (by decide)).mono ?_
      rintro e w' ⟨rfl, rfl⟩
      clear Rv1 H
      go_wp2_with fail
      refine (ten_any _ 1 1 [0] _ ?_ (by omega)).mono ?_
      · exact rdLit (by simp) rfl rfl (by omega)
      rintro e v2 ⟨hb, aov2, capv2, rfl, hown⟩
      have Bv2 := Lib.hid (bgo (bgo Bv1.out (alc _ _)) hb)
      have Rv2 := Lib.hid (own_rd hown)
      clear hb hown
      go_wp2_with fail
      refine (errorat_any aov2 _ capv2 _ 0 v2 Rv2.out (by unfold in64; omega) 10 (by decide) (by decide)).mono ?_
      rintro e w' ⟨rfl, rfl⟩
      clear Rv2 Bv1
      go_wp2_with fail
      refine (ten_any _ 1 1 [2] _ ?_ (by omega)).mono ?_
      · exact rdLit (by simp) rfl rfl (by omega)
      rintro e v3 ⟨hb, aov3, capv3, rfl, hown⟩
      have Bv3 := Lib.hid (bgo (bgo Bv2.out (alc _ _)) hb)
      have Rv3 := Lib.hid (own_rd hown)
      clear hb hown
      go_wp2_with fail
      refine (errorat_any aov3 _ capv3 _ 0 v3 Rv3.out (by unfold in64; omega) 10 (by decide) (by decide)).mono ?_
      rintro e w' ⟨rfl, rfl⟩
      clear Rv3 Bv2
      go_wp2_with fail
      refine (ten_any _ 1 1 [128] _ ?_ (by omega)).mono ?_
      · exact rdLit (by simp) rfl rfl (by omega)
      rintro e v4 ⟨hb, aov4, capv4, rfl, hown⟩
      have Bv4 := Lib.hid (bgo (bgo Bv3.out (alc _ _)) hb)
      have Rv4 := Lib.hid (own_rd hown)
      clear hb hown
      go_wp2_with fail
      refine (errorat_any aov4 _ capv4 _ 0 v4 Rv4.out (by unfold in64; omega) 10 (by decide) (by decide)).mono ?_
      rintro e w' ⟨rfl, rfl⟩
      clear Rv4 Bv3
      go_wp2_with fail
      refine (ten_any _ 2 2 [129, 1] _ ?_ (by omega)).mono ?_
      · exact rdLit (by simp) rfl rfl (by omega)
      rintro e v5 ⟨hb, aov5, capv5, rfl, hown⟩
      have Bv5 := Lib.hid (bgo (bgo Bv4.out (alc _ _)) hb)
      have Rv5 := Lib.hid (own_rd hown)
      clear hb hown
      go_wp2_with fail
      refine (errorat_any aov5 _ capv5 _ 0 v5 Rv5.out (by unfold in64; omega) 10 (by decide) (by decide)).mono ?_
      rintro e w' ⟨rfl, rfl⟩
      clear Rv5 Bv4
      go_wp2_with fail
      refine (errorat_any none 0 0 [] 0 v5 Rd.nilB (by unfold in64; omega) 11 (by decide) (by decide)).mono ?_
      rintro e w' ⟨rfl, rfl⟩
      go_wp2_with fail
      refine (errorat_any _ 1 1 [1] (1) _ ?_ (by unfold in64; omega) 11 (by decide) (by decide)).mono ?_
      · exact rdLit (by simp) rfl rfl (by omega)
      rintro e w' ⟨rfl, rfl⟩
      have Bv6 := Lib.hid (bgo Bv5.out (alc _ (.cells #[.int .u8 1] 5)))
      generalize v5.alloc (.cells #[.int .u8 1] 5) = v6 at *
      clear Bv5
      go_wp2_with fail
      refine (errorat_any _ 1 1 [1] (2) _ ?_ (by unfold in64; omega) 2 (by decide) (by decide)).mono ?_
      · exact rdLit (by simp) rfl rfl (by omega)
      rintro e w' ⟨rfl, rfl⟩
      have Bv7 := Lib.hid (bgo Bv6.out (alc _ (.cells #[.int .u8 1] 5)))
      generalize v6.alloc (.cells #[.int .u8 1] 5) = v7 at *
      clear Bv6
      go_wp2_with fail
      refine (errorat_any _ 1 1 [1] (-1) _ ?_ (by unfold in64; omega) 2 (by decide) (by decide)).mono ?_
      · exact rdLit (by simp) rfl rfl (by omega)
      rintro e w' ⟨rfl, rfl⟩
      have Bv8 := Lib.hid (bgo Bv7.out (alc _ (.cells #[.int .u8 1] 5)))
      generalize v7.alloc (.cells #[.int .u8 1] 5) = v8 at *
      clear Bv7
      go_wp2_with fail
      have Rz : Rd (v8.alloc (.cells #[.int .i64 0, .int .i64 0, .int .i64 0, .int .i64 0, .int .i64 0, .int .i64 0, .int .i64 0, .int .i64 0, .int .i64 0] 3)) 1 (some ⟨v8.heap.size, 0, none⟩) 9 9 (ints .i64 (List.replicate 9 0)) := Rd.at rfl rfl (by omega)
      have Bz := Lib.hid (bgo Bv8.out (alc _ (.cells #[.int .i64 0, .int .i64 0, .int .i64 0, .int .i64 0, .int .i64 0, .int .i64 0, .int .i64 0, .int .i64 0, .int .i64 0] 3)))
      generalize v8.alloc (.cells #[.int .i64 0, .int .i64 0, .int .i64 0, .int .i64 0, .int .i64 0, .int .i64 0, .int .i64 0, .int .i64 0, .int .i64 0] 3) = vz at *
      generalize v8.heap.size = gz at *
      clear Bv8
      go_loop [112] (fun i => ∃ k : Nat, k ≤ 9 ∧ i = .int .i64 k) (fun i => 9 - (intOf i).toNat)
      case atStart => exact ⟨0, by omega, rfl⟩
      case round =>
        obtain ⟨k, hk, rfl⟩ := hrel
        by_cases hlt : k < 9
        · have hd : (k : Int) < 9 := by omega
          have hie := idx_run (P := Try.prog) Rz Try.underlying48 (show (Try.prog.info? 3).map (·.size) = some 1 by kernel_rfl) .i64 (k : Int)
          have hce := Rz.intCell k hlt
          simp only [blk_some, off_some, Nat.zero_add, Int.toNat_natCast, Nat.mul_one] at hie hce
          have hz : gi (List.replicate 9 0) k = 0 := by rw [gi_lt (by simpa using hlt)]; exact List.getElem_replicate _
          rw [hz] at hce
          have hie2 := fun w => hie w (by omega) (by omega)
          clear hie hz
          go_wp2_with fail
          go_round
          case rel => exact ⟨k + 1, by omega, by go_num⟩
          case measure => show 9 - ((k : Int) + 1).toNat < 9 - (k : Int).toNat; omega
        · have hk9 : k = 9 := by omega
          subst hk9
          clear Rz hlt hk
          go_wp2_with fail
          refine (folds_any (-9223372036854775808) 18446744073709551615 _ (by unfold in64; omega) (by omega) (by decide)).mono ?_
          rintro e v9 ⟨rfl, hb⟩
          have Bv9 := Lib.hid (bgo Bz.out hb)
          clear hb Bz
          go_wp2_with fail
          refine (folds_any (9223372036854775807) 18446744073709551614 _ (by unfold in64; omega) (by omega) (by decide)).mono ?_
          rintro e v10 ⟨rfl, hb⟩
          have Bv10 := Lib.hid (bgo Bv9.out hb)
          clear hb Bv9
          go_wp2_with fail
          refine (crc_any none 0 0 [] _ Rd.nilB).mono ?_
          rw [show crc [] = 0 by decide +kernel]
          rintro e w' ⟨rfl, rfl⟩
          go_wp2_with fail
          refine (crc_any _ 1 1 [0] _ ?_).mono ?_
          · exact rdLit (by simp) rfl rfl (by omega)
          rw [show crc [0] = 3523407757 by decide +kernel]
          rintro e w' ⟨rfl, rfl⟩
          have Bv11 := Lib.hid (bgo Bv10.out (alc _ (.cells #[.int .u8 0] 5)))
          generalize v10.alloc (.cells #[.int .u8 0] 5) = v11 at *
          clear Bv10
          go_wp2_with fail
          refine (crc_any _ 1 1 [255] _ ?_).mono ?_
          · exact rdLit (by simp) rfl rfl (by omega)
          rw [show crc [255] = 4278190080 by decide +kernel]
          rintro e w' ⟨rfl, rfl⟩
          have Bv12 := Lib.hid (bgo Bv11.out (alc _ (.cells #[.int .u8 255] 5)))
          generalize v11.alloc (.cells #[.int .u8 255] 5) = v12 at *
          clear Bv11
          go_wp2_with fail
          refine (crc_any _ 4 4 [255, 255, 255, 255] _ ?_).mono ?_
          · exact rdLit (by simp) rfl rfl (by omega)
          rw [show crc [255, 255, 255, 255] = 4294967295 by decide +kernel]
          rintro e w' ⟨rfl, rfl⟩
          have Bv13 := Lib.hid (bgo Bv12.out (alc _ (.cells #[.int .u8 255, .int .u8 255, .int .u8 255, .int .u8 255] 5)))
          generalize v12.alloc (.cells #[.int .u8 255, .int .u8 255, .int .u8 255, .int .u8 255] 5) = v13 at *
          clear Bv12
          go_wp2_with fail
          refine (getblob_any _ 2 2 [2, 7] (0) (2) _ ?_ (by unfold in64; omega) (by unfold in64; omega) (by omega) [] 0 11 (by decide)).mono ?_
          · exact rdLit (by simp) rfl rfl (by omega)
          rintro e v14 ⟨hb, aov14, nv14, capv14, rfl, hown⟩
          have Bv14 := Lib.hid (bgo (bgo Bv13.out (alc _ _)) hb)
          clear hb hown Bv13
          go_wp2_with fail
          refine (getblob_any _ 3 3 [2, 7, 7] (0) (1) _ ?_ (by unfold in64; omega) (by unfold in64; omega) (by omega) [] 0 3 (by decide)).mono ?_
          · exact rdLit (by simp) rfl rfl (by omega)
          rintro e v15 ⟨hb, aov15, nv15, capv15, rfl, hown⟩
          have Bv15 := Lib.hid (bgo (bgo Bv14.out (alc _ _)) hb)
          clear hb hown Bv14
          go_wp2_with fail
          refine (getblob_any _ 1 1 [0] (0) (-1) _ ?_ (by unfold in64; omega) (by unfold in64; omega) (by omega) [] 0 3 (by decide)).mono ?_
          · exact rdLit (by simp) rfl rfl (by omega)
          rintro e v16 ⟨hb, aov16, nv16, capv16, rfl, hown⟩
          have Bv16 := Lib.hid (bgo (bgo Bv15.out (alc _ _)) hb)
          clear hb hown Bv15
          go_wp2_with fail
          refine (getblob_any _ 4 4 [2, 7, 8, 9] (0) (2) _ ?_ (by unfold in64; omega) (by unfold in64; omega) (by omega) [7, 8] 3 0 (by decide)).mono ?_
          · exact rdLit (by simp) rfl rfl (by omega)
          rintro e v17 ⟨hb, aov17, nv17, capv17, rfl, hown⟩
          have Bv17 := Lib.hid (bgo (bgo Bv16.out (alc _ _)) hb)
          have RS := Lib.hid (own_rd hown)
          clear hb hown Bv16
          have hmk : ∀ w : World, (Instr.makeSlice 23 (.int .i64 3) (.int .i64 3)).run Try.prog w = .ok (.slice (some ⟨w.heap.size, 0, none⟩) 3 3) (w.alloc (.cells (madeCells #[.int .u8 0] 3) 5)) :=
            fun w => run_make_row' 23 5 (.int .u8 0) 1 Try.underlying23 el_u8.info rfl .i64 .i64 3 (by omega) (by omega) w
          go_wp2_with fail
          refine (unseal_any _ 3 3 [0, 0, 0] _ ?_ (by omega) [] 11 (by decide +kernel)).mono ?_
          · exact rdLit (by simp) (made_bytes 3) (by simp [madeCells]) (by omega)
          rintro e v18 ⟨hb, aov18, nv18, capv18, rfl, hown⟩
          have Bv18 := Lib.hid (bgo (bgo Bv17.out (alc _ _)) hb)
          have RS' := Lib.hid (RS.out.fresh (bgo (alc _ _) hb))
          clear RS
          have RS := RS'
          clear RS'
          clear hb hown Bv17
          go_wp2_with fail
          refine (unseal_any _ 4 4 [0, 0, 0, 1] _ ?_ (by omega) [] 12 (by decide +kernel)).mono ?_
          · exact rdLit (by simp) rfl rfl (by omega)
          rintro e v19 ⟨hb, aov19, nv19, capv19, rfl, hown⟩
          have Bv19 := Lib.hid (bgo (bgo Bv18.out (alc _ _)) hb)
          have RS' := Lib.hid (RS.out.fresh (bgo (alc _ _) hb))
          clear RS
          have RS := RS'
          clear RS'
          clear hb hown Bv18
          go_wp2_with fail
          refine (unseal_any _ 8 8 [255, 255, 255, 255, 255, 255, 255, 255] _ ?_ (by omega) [255, 255, 255, 255] 0 (by decide +kernel)).mono ?_
          · exact rdLit (by simp) rfl rfl (by omega)
          rintro e v20 ⟨hb, aov20, nv20, capv20, rfl, hown⟩
          have Bv20 := Lib.hid (bgo (bgo Bv19.out (alc _ _)) hb)
          have RS' := Lib.hid (RS.out.fresh (bgo (alc _ _) hb))
          clear RS
          have RS := RS'
          clear RS'
          have RT := Lib.hid (own_rd hown)
          clear hb hown Bv19
          have hRS := strB Try.underlying23 Try.underlying5 Try.underlying9 RS.out
          have hRT := strB Try.underlying23 Try.underlying5 Try.underlying9 RT.out
          clear hmk
          go_wp2_with fail
          refine (awake_any _).mono ?_
          rintro e vE ⟨rfl, hb⟩
          have BE := Lib.hid (bgo Bv20.out hb)
          clear hb
          go_wp2_with fail
          go_ret
          exact ⟨rfl, BE.out⟩
end Go.Proofs.Ytmjoneiagfegdaa
