/-
  slices.Grow of nothing, as a function of plain data. Condition: at most 2^47 bytes.
-/
import Derived.Test.YtmjoneiagfegdaaPe5
import Derived.Laws.BitsAllLaws
import Derived.Lib.AppendZeros
import Derived.Lib.SliceRun
set_option linter.unusedVariables false
namespace Go.Proofs.Ytmjoneiagfegdaa
open Go.RowKit Go.Am

theorem el_u8 : Elem Try.prog 23 5 (.int .u8 0) 1 1 := ⟨Try.underlying23, by kernel_rfl, rfl, by decide, by decide⟩
theorem grow_zero (w : World) :
    Calls Try.prog 48 #[.slice none 0 0, .int .i64 0] w fun e w' => Below w.heap.size w w' ∧ e = .returned (.slice none 0 0) := by
  go_enter Try.func48, Try.ntmps48
  go_wp2_with fail
  go_ret
  exact ⟨brefl _, rfl⟩
set_option maxRecDepth 20000 in
set_option maxHeartbeats 1000000 in
theorem grow_pos (N : Nat) (w : World) (h1 : 0 < N) (hb : N ≤ 140737488355328) :
    Calls Try.prog 48 #[.slice none 0 0, .int .i64 N] w fun e w' => Below w.heap.size w w' ∧
      ∃ cap, e = .returned (.slice (some ⟨w.heap.size, 0, none⟩) 0 cap) ∧ w'.ownsRow w.heap.size 5 1 (.slice (some ⟨w.heap.size, 0, none⟩) 0 cap) 0 (bytesC []) := by
  obtain ⟨i, hi, hz, hsize, hby⟩ := info_parts (el_u8).info
  have hr := Lib.hid (Lib.run_append_nil_zeros (P := Try.prog) w 23 3 23 5 i (.int .u8 0) .i64 .i64 Try.underlying23 Try.underlying3 hi hz N h1 (by omega) (by omega) (by rw [hby]; omega))
  have hcap := grownCap_ge w N 0 5
  have hcap2 : grownCap w N 0 5 ≤ 9223372036854775807 := grownCap_le_maxLen w N 0 5 (by unfold maxLen; omega)
  have hown : (w.drew.alloc (.cells (Builtin.zeroCells (Value.int .u8 0).cells N ++ Builtin.zeroCells (Value.int .u8 0).cells (grownCap w N 0 5 - N)) 5)).ownsRow w.heap.size 5 1 (.slice (some ⟨w.heap.size, 0, none⟩) 0 (grownCap w N 0 5)) 0 (bytesC []) :=
    World.ownsRow_made w.drew _ _ (Nat.le_refl _) hcap2 (by simp [size_zeroCells, Value.cells]; omega)
  have hbel : Below w.heap.size w (w.drew.alloc (.cells (Builtin.zeroCells (Value.int .u8 0).cells N ++ Builtin.zeroCells (Value.int .u8 0).cells (grownCap w N 0 5 - N)) 5)) := bgo (drw w) (alc _ _)
  generalize hW : w.drew.alloc (.cells (Builtin.zeroCells (Value.int .u8 0).cells N ++ Builtin.zeroCells (Value.int .u8 0).cells (grownCap w N 0 5 - N)) 5) = W2 at *
  generalize grownCap w N 0 5 = C at *
  have Hb := Lib.hid (And.intro hbel hown)
  clear hbel hown hW
  go_enter Try.func48, Try.ntmps48
  go_wp2_with (at_builtin; refine Lib.wpList_append_run _ rfl (.tmp 20) (.tmp 21) 23 3 rfl (.slice none 0 0) (.int .i64 N) rfl rfl _ W2 hr.out ?_)
  go_ret
  refine ⟨Hb.out.1, C, ?_, Hb.out.2⟩
  simp
end Go.Proofs.Ytmjoneiagfegdaa
namespace Go.Pe
open Go Go.Am Go.RowKit

def gGrow : List PV → Option PV
  | [.nsl, .i .i64 N] => if N = 0 then some .nsl else if 0 < N ∧ N ≤ 140737488355328 then some (.osl 1 0 []) else none
  | _ => none
theorem FRel.nsl_inv {F : Nat → Nat → Option Value} {v : Value} (h : FRel F v .nsl) : v = .slice none 0 0 := by cases h; rfl
theorem grow_ok {Gl : Gmap} : PureOK Go.Proofs.Try.prog Gl 48 gGrow := by
  intro args r hr F w base vs gv hF hG hbase ha
  unfold gGrow at hr
  split at hr
  · rename_i N
    obtain ⟨ha1, rfl⟩ := ha
    obtain ⟨u, v, rfl, hu, hv⟩ := FC.two ha1
    have := hu.nsl_inv
    subst this
    have := hv.i_inv
    subst this
    have keep : ∀ w' : World, Below w.heap.size w w' → ∀ b o x, F b o = some x → w'.cell? ⟨b, o, none⟩ = some x := by
      intro w' hb b o x hx
      have h1 := hF b o x hx
      have hlt := World.block_lt_of_cell? w _ h1
      rw [hb.cell (by simpa using hlt)]; exact h1
    split at hr
    · rename_i h0
      simp only [Option.some.injEq] at hr
      subst hr
      subst h0
      refine (Go.Proofs.Ytmjoneiagfegdaa.grow_zero w).mono ?_
      rintro e w' ⟨hb, rfl⟩
      exact ⟨_, F, rfl, fun b o x hx => hx, keep w' hb, hb.os, hb.tape, hb.output, hb.size, fun j hj _ => hb.block j hj, fun b o x hx => .inl hx, .nsl⟩
    · split at hr
      · rename_i h0
        simp only [Option.some.injEq] at hr
        subst hr
        have := Go.Proofs.Ytmjoneiagfegdaa.grow_pos N.toNat w (by omega) (by omega)
        rw [show ((N.toNat : Nat) : Int) = N by omega] at this
        refine this.mono ?_
        rintro e w' ⟨hb, cap, rfl, ho⟩
        refine ⟨_, F, rfl, fun b o x hx => hx, keep w' hb, hb.os, hb.tape, hb.output, hb.size, fun j hj _ => hb.block j hj, fun b o x hx => .inl hx, ?_⟩
        refine ⟨w.heap.size, .inl (Nat.le_refl _), ?_⟩
        rcases ho.2 with ⟨h, _⟩ | ⟨g, cap', cur, h, h2, h3, h4, h5, h6, h7⟩
        · simp at h
        · simp only [Value.slice.injEq, Option.some.injEq, Addr.mk.injEq, true_and, and_true] at h
          obtain ⟨rfl, rfl⟩ := h
          refine ⟨cur.size, cap, cur, 5, (0, 0), rfl, Nat.zero_le _, h5, by omega, by omega, h3, .inl rfl, rfl, by simp, FC.nil, ?_, hbase⟩
          intro o
          cases hFo : F w.heap.size o with
          | none => rfl
          | some x =>
            have h1 := hF _ _ _ hFo
            have hlt := World.block_lt_of_cell? w _ h1
            simp at hlt
      · simp at hr
  · simp at hr
end Go.Pe
