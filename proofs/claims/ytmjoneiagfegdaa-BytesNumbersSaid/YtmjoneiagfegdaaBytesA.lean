/-
  The chapter's examples for bytes ('awake') come out true. No condition.
-/
import Derived.Test.YtmjoneiagfegdaaBytesL
import Derived.Deep.OwnRows
set_option linter.unusedVariables false
namespace Go.Proofs.Ytmjoneiagfegdaa
open Go.RowKit Go.Am

/-- a row of bytes just laid, marked or not -/
theorem rdLit {w : World} {g n : Nat} {cs : Array Value} {e : TypeId} {m : Nat × Nat} {xs : List UInt8} (hg : g = w.heap.size) (hc : cs.toList = bytesC xs) (hl : cs.size = n) (hm : n ≤ 9223372036854775807) :
    Rd (w.alloc (.cells cs e m)) 1 (some ⟨g, 0, none⟩) n n (bytesC xs) := by
  subst hg
  rw [← hc]
  refine { len := by simpa using hl, nil := fun h => by simp at h, spot := fun _ => rfl, lecap := Nat.le_refl _, lemax := hm, lt := fun _ => by simp, cell := fun j hj => ?_ }
  simp at hj
  simp only [blk_some, off_some, Nat.zero_add]
  rw [World.cell?_alloc_mark]
  simp [hj]

theorem made_bytes (n : Nat) : (madeCells #[.int .u8 0] n).toList = bytesC (List.replicate n 0) := by
  apply List.ext_getElem
  · simp [madeCells]
  · intro i h1 h2
    simp [madeCells, bytesC, Nat.mod_one]

set_option maxHeartbeats 2000000 in
theorem awake_any (w : World) : Calls Try.prog 10 #[] w fun e w' => e = .returned (.bool true) ∧ Below w.heap.size w w' := by
  have kc := fun (w : World) (C : Array Value) (n c : Nat) => Lib.run_convert_bytes_const (P := Try.prog) w 23 5 C n c Try.underlying23 Try.underlying5
  have kd : ∀ (w : World) (C : Array Value) (n c : Nat), (convert 23 23 (.slice (some ⟨w.heap.size, 0, none⟩) n c)).run Try.prog (w.alloc (.cells C 5)).drew = .ok (.slice (some ⟨w.heap.size, 0, none⟩) n c) (w.alloc (.cells C 5 (C.size, C.size + 1))).drew := fun w C n c => kc w.drew C n c
  go_enter Try.func10, Try.ntmps10
  go_wp2_with fail
  refine (laid_any 0 _ 1 1 [0] _ (by omega) ?_ true (by decide)).mono ?_
  · exact rdLit (by simp) rfl rfl (by omega)
  rintro e w1 ⟨rfl, hb1⟩
  have B1 := Lib.hid (bgo (alc w _) hb1)
  clear hb1
  go_wp2_with fail
  refine (laid_any 127 _ 1 1 [127] _ (by omega) ?_ true (by decide)).mono ?_
  · exact rdLit (by simp) rfl rfl (by omega)
  rintro e w2 ⟨rfl, hb2⟩
  have B2 := Lib.hid (bgo (bgo B1.out (alc _ _)) hb2)
  clear hb2
  go_wp2_with fail
  refine (laid_any 128 _ 2 2 [128, 1] _ (by omega) ?_ true (by decide)).mono ?_
  · exact rdLit (by simp) rfl rfl (by omega)
  rintro e w3 ⟨rfl, hb3⟩
  have B3 := Lib.hid (bgo (bgo B2.out (alc _ _)) hb3)
  clear hb3
  go_wp2_with fail
  refine (laid_any 300 _ 2 2 [172, 2] _ (by omega) ?_ true (by decide)).mono ?_
  · exact rdLit (by simp) rfl rfl (by omega)
  rintro e w4 ⟨rfl, hb4⟩
  have B4 := Lib.hid (bgo (bgo B3.out (alc _ _)) hb4)
  clear hb4
  go_wp2_with fail
  refine (folds_any (-1) 1 _ (by unfold in64; omega) (by omega) (by decide)).mono ?_
  rintro e w5 ⟨rfl, hb5⟩
  have B5 := Lib.hid (bgo B4.out hb5)
  clear hb5
  go_wp2_with fail
  refine (folds_any 1 2 _ (by unfold in64; omega) (by omega) (by decide)).mono ?_
  rintro e w6 ⟨rfl, hb6⟩
  have B6 := Lib.hid (bgo B5.out hb6)
  clear hb6
  go_wp2_with fail
  refine (folds_any (-64) 127 _ (by unfold in64; omega) (by omega) (by decide)).mono ?_
  rintro e w7 ⟨rfl, hb7⟩
  have B7 := Lib.hid (bgo B6.out hb7)
  clear hb7
  go_wp2_with fail
  refine (blob_any none _ 0 0 2 2 [] [97, 98] _ _ (World.ownsRow_nil _ _ _ _) (Nat.le_refl _) ?_ ?_ (by omega)).mono ?_
  · exact rdLit (by simp) rfl rfl (by omega)
  · intro _ b h; cases h
  rintro e w8 ⟨hg8, ao8, n8, cap8, rfl, hown8⟩
  have hL : ([] ++ varint ([97, 98] : List UInt8).length ++ [97, 98] : List UInt8) = [2, 97, 98] := by decide
  rw [hL] at hown8
  have hs8 := strB Try.underlying23 Try.underlying5 Try.underlying9 (own_rd hown8)
  have B8 := Lib.hid (bgo (bgo B7.out (alc _ _)) (gb_to hg8 (Nat.le_refl _) (by intro b h; cases h)))
  clear hg8 hown8 hL
  go_wp2_with fail
  refine (errorat_any _ 2 2 [128, 0] 0 _ ?_ (by unfold in64; omega) 10 (by decide) (by decide)).mono ?_
  · exact rdLit (by simp) rfl rfl (by omega)
  rintro e w9 ⟨rfl, rfl⟩
  have B9 := Lib.hid (bgo B8.out (alc _ (.cells #[.int .u8 128, .int .u8 0] 5)))
  generalize w8.alloc (.cells #[.int .u8 128, .int .u8 0] 5) = w9 at *
  go_wp2_with fail
  refine (errorat_any _ 1 1 [128] 0 _ ?_ (by unfold in64; omega) 11 (by decide) (by decide)).mono ?_
  · exact rdLit (by simp) rfl rfl (by omega)
  rintro e w10 ⟨rfl, rfl⟩
  have B10 := Lib.hid (bgo B9.out (alc _ (.cells #[.int .u8 128] 5)))
  generalize w9.alloc (.cells #[.int .u8 128] 5) = w10 at *
  clear hs8
  go_wp2_with fail
  have hcrc : crc [49, 50, 51, 52, 53, 54, 55, 56, 57] = 3421780262 := by decide +kernel
  have hmk : ∀ w : World, (Instr.makeSlice 23 (.int .i64 4) (.int .i64 4)).run Try.prog w = .ok (.slice (some ⟨w.heap.size, 0, none⟩) 4 4) (w.alloc (.cells (madeCells #[.int .u8 0] 4) 5)) :=
    fun w => run_make_row' 23 5 (.int .u8 0) 1 Try.underlying23 el_u8.info rfl .i64 .i64 4 (by omega) (by omega) w
  have hms : ∀ w : World, (convert 23 9 (.slice (some ⟨w.heap.size, 0, none⟩) 4 4)).run Try.prog (w.alloc (.cells (madeCells #[.int .u8 0] 4) 5)) = .ok (.string ⟨#[0, 0, 0, 0]⟩) (w.alloc (.cells (madeCells #[.int .u8 0] 4) 5)) :=
    fun w => strB Try.underlying23 Try.underlying5 Try.underlying9 (xs := [0, 0, 0, 0]) (rdLit (n := 4) rfl (made_bytes 4) (by simp [madeCells]) (by omega))
  have hms3 := strD Try.underlying23 Try.underlying5 Try.underlying9 (xs := [0, 0, 0, 0]) (rdLit (e := 5) (m := (0, 0)) (cs := madeCells #[.int .u8 0] 4) (w := w10.alloc (.cells #[.int .u8 49, .int .u8 50, .int .u8 51, .int .u8 52, .int .u8 53, .int .u8 54, .int .u8 55, .int .u8 56, .int .u8 57] 5 (9, 10))) (g := w10.heap.size + 1) (n := 4) (by simp) (made_bytes 4) (by simp [madeCells]) (by omega))
  have hseal : (sealB []) = [0, 0, 0, 0] := by decide +kernel
  go_region_held (fun w' => True) (trivial) ((first
    | (go_at_call 16; refine (crc_any _ 9 9 [49, 50, 51, 52, 53, 54, 55, 56, 57] _ ?_).mono ?_; (exact (rdLit (w := w10) (n := 9) (cs := #[.int .u8 49, .int .u8 50, .int .u8 51, .int .u8 52, .int .u8 53, .int .u8 54, .int .u8 55, .int .u8 56, .int .u8 57]) (e := 5) (m := (9, 10)) rfl rfl rfl (by omega)).fresh (drw _)); rw [hcrc]; rintro e w' ⟨rfl, rfl⟩)
    | (go_at_call 17; refine (seal_any none 0 0 [] _ Rd.nilB (by omega)).mono ?_; rw [hseal]; rintro e w12 ⟨hb12, ao12, cap12, rfl, hown12⟩; have hs12 := strB Try.underlying23 Try.underlying5 Try.underlying9 (own_rd hown12); have hs13 := strB Try.underlying23 Try.underlying5 Try.underlying9 ((own_rd hown12).fresh (alc _ (.cells (madeCells #[.int .u8 0] 4) 5))); try (have hm12 := strB Try.underlying23 Try.underlying5 Try.underlying9 (xs := [0, 0, 0, 0]) (((rdLit (e := 5) (m := (0, 0)) (cs := madeCells #[.int .u8 0] 4) (w := w10.alloc (.cells #[.int .u8 49, .int .u8 50, .int .u8 51, .int .u8 52, .int .u8 53, .int .u8 54, .int .u8 55, .int .u8 56, .int .u8 57] 5 (9, 10))) (g := w10.heap.size + 1) (n := 4) (by simp) (made_bytes 4) (by simp [madeCells]) (by omega)).fresh (drw _)).fresh hb12)))))
  all_goals (go_wp2_with fail; go_ret; refine ⟨rfl, ?_⟩; first | exact bgo (bgo (bgo (bgo B10.out (alc _ _)) (alc _ _)) (drw _)) hb12 | exact bgo (bgo (bgo (bgo B10.out (alc _ _)) (drw _)) hb12) (alc _ _))
end Go.Proofs.Ytmjoneiagfegdaa
