/-
 The statement EventTells: for every input the law returns true, and each argument reads as it did. No condition.
-/
import Derived.Test.YtadblicfhhllgaaEvtT4
import Derived.Test.YtadblicfhhllgaaView
set_option linter.unusedVariables false
set_option maxRecDepth 100000
namespace Go.Proofs.Ytadblicfhhllgaa.eventTells
open Go.ChangeShapes Go.WideShapes Go.ChangeAt Go.RowKit Go.Am Go.Pe
open Go.ChangeMaps (open_string shut_string)

theorem own : ownKnob Try.prog.godebug = none := by kernel_rfl
theorem laidOut : laidOutB Try.prog = true := by kernel_rfl

theorem lifted (os : Os) (started : os.Started) (H : Type) (enc : TypeId × Value → H) :
 ReturnsInHanded {} Try.checked os 4 .any (Rows.eventTellsSpec.pre6 enc Try.prog Try.f4 Rows.eventTellsRow.domain false) (Rows.eventTellsSpec.post enc Try.prog Try.f4 false true false false) := by
 refine returnsInHanded_of_change_sized (C := Try.checked) own started (by kernel_rfl) Try.func4
  (ChangeSpec.witness6 (enc := enc) (C := Try.checked) false ⟨#[], #[.agg #[.int .i64 0, .int .u8 0, .int .i64 0, .int .i64 0, .int .i64 0], .agg #[.int .i64 0, .int .u8 0, .int .i64 0, .int .i64 0, .int .i64 0], .slice none 0 0, .slice none 0 0, .int .i64 0], []⟩ 8 (by kernel_rfl) (by kernel_rfl) (by kernel_rfl) (by kernel_rfl)) ?_
 intro W base args ds gs before hval0 hW hcnd hsz0 _
 have hsz : (DataW.weightsEach Try.prog (Try.f4.params.toList ++ Rows.eventTellsSpec.plain.varTypes Try.prog) (ds ++ gs)).all (· ≤ reachBytes) = true := hsz0
 clear hsz0
 have hval : ∀ (j : Nat) t v, Try.f4.params[j]? = some t → args[j]? = some v → Value.okWide Try.prog W .any base t v := hval0
 have hW' := hW
 obtain ⟨p, q, hA0, hV, rfl, hfz, hnd⟩ := hW
 have hA : DataW.TrodAll enc Try.prog W 0 (fun _ => true) true Try.f4.params.toList args.toList ds p := hA0
 rw [Try.params4] at hA hval hsz
 obtain ⟨v0, vs0, d0, ds0, p0, q0, hargs, rfl, rfl, h0, r0⟩ := trodAll_cons hA
 obtain ⟨v1, vs1, d1, ds1, p1, q1, rfl, rfl, rfl, h1, r1⟩ := trodAll_cons r0
 obtain ⟨v2, vs2, d2, ds2, p2, q2, rfl, rfl, rfl, h2, r2⟩ := trodAll_cons r1
 obtain ⟨v3, vs3, d3, ds3, p3, q3, rfl, rfl, rfl, h3, r3⟩ := trodAll_cons r2
 obtain ⟨v4, vs4, d4, ds4, p4, q4, rfl, rfl, rfl, h4, r4⟩ := trodAll_cons r3
 obtain ⟨rfl, rfl, rfl⟩ := trodAll_nil r4
 obtain rfl : args = #[v0, v1, v2, v3, v4] := by cases args; simp_all
 obtain ⟨rfl, rfl⟩ := trodVars_none hV
 have k0 := h0
 have lt0 : ∀ x ∈ p0, x.block < W.heap.size := by obtain ⟨m, hm⟩ := k0; exact DataW.trod_lt m _ _ _ hm
 have sm0 : Nen Try.prog 24 d0 := Ndy hsz 0 rfl (by simp)
 obtain ⟨z0, fr0, i0⟩ := Njo (r' := (Sh.cons (.i .i64) (.cons (.i .u8) (.cons (.i .i64) (.cons (.i .i64) (.cons (.i .i64) .nil)))))) Try.underlying24 (by kernel_rfl) (by kernel_rfl) (hval 0 24 v0 rfl rfl) h0 sm0
 have k1 := h1
 have lt1 : ∀ x ∈ p1, x.block < W.heap.size := by obtain ⟨m, hm⟩ := k1; exact DataW.trod_lt m _ _ _ hm
 have sm1 : Nen Try.prog 24 d1 := Ndy hsz 1 rfl (by simp)
 obtain ⟨z1, fr1, i1⟩ := Njo (r' := (Sh.cons (.i .i64) (.cons (.i .u8) (.cons (.i .i64) (.cons (.i .i64) (.cons (.i .i64) .nil)))))) Try.underlying24 (by kernel_rfl) (by kernel_rfl) (hval 1 24 v1 rfl rfl) h1 sm1
 have k2 := h2
 have lt2 : ∀ x ∈ p2, x.block < W.heap.size := by obtain ⟨m, hm⟩ := k2; exact DataW.trod_lt m _ _ _ hm
 have sm2 : Nen Try.prog 33 d2 := Ndy hsz 2 rfl (by simp)
 obtain ⟨n2, z2, fr2, l2, b2, i2⟩ := NjN (e := evSh) Try.underlying33 (by kernel_rfl) (hval 2 33 v2 rfl rfl) h2 sm2
 have k3 := h3
 have lt3 : ∀ x ∈ p3, x.block < W.heap.size := by obtain ⟨m, hm⟩ := k3; exact DataW.trod_lt m _ _ _ hm
 have sm3 : Nen Try.prog 27 d3 := Ndy hsz 3 rfl (by simp)
 obtain ⟨n3, z3, fr3, l3, b3, i3⟩ := NjN (e := (Sh.i .u8)) Try.underlying27 (by kernel_rfl) (hval 3 27 v3 rfl rfl) h3 sm3
 obtain ⟨x4, rfl, rfl, rfl, w4⟩ := open_int Try.underlying3 (hval 4 3 v4 rfl rfl) h4
 have wx4 := Nip w4
 clear hA0 hval0
 obtain ⟨fuel, hev⟩ := Niz (z0) (i0) (z1) (i1) (n2) (z2) (l2) (b2) (i2) (n3) (z3) (l3) (b3) (i3) (x4) (w4)
 refine (Nle (Gl := noF) (F := Nj6 W) (Njt Neb fuel 4) (fun _ _ _ h => h) (fun _ _ _ h => by simp [noF] at h) (FC.cons fr0 (FC.cons fr1 (FC.cons fr2 (FC.cons fr3 (FC.cons (.i _ _) FC.nil))))) hev).mono fun e W' ⟨he, bel⟩ => ?_
 subst he
 exact ⟨_, rfl, _, _, _, [], _, [], hW', trodAll_mk1 (shut_bool Try.underlying4 _), (trodAll_cons_mk (Below.trod laidOut (by kernel_rfl) (of_decide_eq_true (by kernel_rfl)) k0 bel lt0) (trodAll_cons_mk (Below.trod laidOut (by kernel_rfl) (of_decide_eq_true (by kernel_rfl)) k1 bel lt1) (trodAll_cons_mk (Below.trod laidOut (by kernel_rfl) (of_decide_eq_true (by kernel_rfl)) k2 bel lt2) (trodAll_cons_mk (Below.trod laidOut (by kernel_rfl) (of_decide_eq_true (by kernel_rfl)) k3 bel lt3) (trodAll_cons_mk (shut_int Try.underlying3 w4) trodAll_mk0))))), rfl, bel.frame _, fun h => by cases h⟩

theorem over : Rows.eventTellsRow.holds Try.pinned (OpenSpec.ofChange Rows.eventTellsSpec) :=
 OpenClaim.holds_of_wide 4 Try.f4 rfl rfl rfl rfl rfl rfl rfl ⟨rfl, rfl, rfl, rfl, rfl⟩ rfl rfl rfl rfl rfl (by kernel_rfl) Try.func4 (by kernel_rfl)
  (of_decide_eq_true (by kernel_rfl)) (by unfold Func.isWrapper; first | (rw [if_pos (by decide +kernel)]; kernel_rfl) | (rw [if_neg (by decide +kernel)]; exact ⟨rfl, rfl⟩))
  (fun os started H enc _ => lifted os started H enc)

theorem proved : Rows.EventTellsSaid := over
#print axioms proved
end Go.Proofs.Ytadblicfhhllgaa.eventTells
