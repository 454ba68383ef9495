/-
 The statement CheckFirst: for every input the law returns true, and each argument reads as it did. No condition.
-/
import Derived.Test.YtjnofhibldppoaaChkG
import Derived.Test.YtjnofhibldppoaaView
import Derived.HandedShaped
set_option linter.unusedVariables false
set_option maxRecDepth 100000
namespace Go.Proofs.Ytjnofhibldppoaa.checkFirst
open Go.ChangeShapes Go.WideShapes Go.ChangeAt Go.RowKit Go.Am Go.Pe
open Go.ChangeMaps (open_string shut_string)

theorem own : ownKnob Try.prog.godebug = none := by kernel_rfl
theorem laidOut : laidOutB Try.prog = true := by kernel_rfl

theorem lifted (os : Os) (started : os.Started) (H : Type) (enc : TypeId × Value → H) :
 ReturnsInHanded {} Try.checked os 5 .any (Rows.checkFirstSpec.pre6 enc Try.prog Try.f5 Rows.checkFirstRow.domain false) (Rows.checkFirstSpec.post enc Try.prog Try.f5 false true false false) := by
 refine returnsInHanded_of_change_shaped (C := Try.checked) own started (by kernel_rfl) Try.func5
  (ChangeSpec.witness6 (enc := enc) (C := Try.checked) false ⟨#[], #[.int .u8 0, .int .u8 0, .agg #[.bool false, .bool false]], []⟩ 8 (by kernel_rfl) (by kernel_rfl) (by kernel_rfl) (by kernel_rfl)) ?_
 intro W base args ds gs before hval0 hW hcnd hsz0 hsh _
 have hsz : (DataW.weightsEach Try.prog (Try.f5.params.toList ++ Rows.checkFirstSpec.plain.varTypes Try.prog) (ds ++ gs)).all (· ≤ reachBytes) = true := hsz0
 clear hsz0
 have hval : ∀ (j : Nat) t v, Try.f5.params[j]? = some t → args[j]? = some v → Value.okWide Try.prog W .any base t v := hval0
 have hW' := hW
 obtain ⟨p, q, hA0, hV, rfl, hfz, hnd⟩ := hW
 have hA : DataW.TrodAll enc Try.prog W 0 (fun _ => true) true Try.f5.params.toList args.toList ds p := hA0
 rw [Try.params5] at hA hval hsz
 obtain ⟨v0, vs0, d0, ds0, p0, q0, hargs, rfl, rfl, h0, r0⟩ := trodAll_cons hA
 obtain ⟨v1, vs1, d1, ds1, p1, q1, rfl, rfl, rfl, h1, r1⟩ := trodAll_cons r0
 obtain ⟨v2, vs2, d2, ds2, p2, q2, rfl, rfl, rfl, h2, r2⟩ := trodAll_cons r1
 obtain ⟨rfl, rfl, rfl⟩ := trodAll_nil r2
 obtain rfl : args = #[v0, v1, v2] := by cases args; simp_all
 obtain ⟨rfl, rfl⟩ := trodVars_none hV
 obtain ⟨x0, rfl, rfl, rfl, w0⟩ := open_int Try.underlying5 (hval 0 5 v0 rfl rfl) h0
 obtain ⟨x1, rfl, rfl, rfl, w1⟩ := open_int Try.underlying5 (hval 1 5 v1 rfl rfl) h1
 have k2 := h2
 have lt2 : ∀ x ∈ p2, x.block < W.heap.size := by obtain ⟨m, hm⟩ := k2; exact DataW.trod_lt m _ _ _ hm
 have sm2 : Small Try.prog 53 d2 := NgU hsz 2 rfl (by simp)
 obtain ⟨z2, fr2, i2⟩ := NjV (r' := (Sh.cons .b (Sh.cons .b .nil))) Try.underlying53 (by kernel_rfl) (by kernel_rfl) (hval 2 53 v2 rfl rfl) h2 sm2
 clear hA0 hval0
 obtain ⟨m, hm⟩ := NeA hsh
 obtain ⟨fuel, hev⟩ := NhN (x0) (w0) (x1) (w1) (z2) (i2)
 refine (NiX (Gl := Nk9 0 0 (.int .i64 m)) (F := Nh3 W) (Nf8 (Nim (m := m) (by simp [Nk9])) fuel 5) (fun _ _ _ h => h) (NjD hm) (FC.cons (.i _ _) (FC.cons (.i _ _) (FC.cons fr2 FC.nil))) hev).mono fun e W' ⟨he, bel⟩ => ?_
 subst he
 exact ⟨_, rfl, _, _, _, [], _, [], hW', trodAll_mk1 (shut_bool Try.underlying4 _), (trodAll_cons_mk (shut_int Try.underlying5 w0) (trodAll_cons_mk (shut_int Try.underlying5 w1) (trodAll_cons_mk (Below.trod laidOut (by kernel_rfl) (of_decide_eq_true (by kernel_rfl)) k2 bel lt2) trodAll_mk0))), rfl, bel.frame _, fun h => by cases h⟩

theorem over : Rows.checkFirstRow.holds Try.pinned (OpenSpec.ofChange Rows.checkFirstSpec) :=
 OpenClaim.holds_of_wide 5 Try.f5 rfl rfl rfl rfl rfl rfl rfl ⟨rfl, rfl, rfl, rfl, rfl⟩ rfl rfl rfl rfl rfl (by kernel_rfl) Try.func5 (by kernel_rfl)
  (of_decide_eq_true (by kernel_rfl)) (by unfold Func.isWrapper; first | (rw [if_pos (by decide +kernel)]; kernel_rfl) | (rw [if_neg (by decide +kernel)]; exact ⟨rfl, rfl⟩))
  (fun os started H enc _ => lifted os started H enc)

theorem proved : Rows.CheckFirstSaid := over
#print axioms proved
end Go.Proofs.Ytjnofhibldppoaa.checkFirst
