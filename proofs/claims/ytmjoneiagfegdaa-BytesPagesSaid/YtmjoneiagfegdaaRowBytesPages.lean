/-
  The statement BytesPages: for every input the law returns true, and each argument reads as it did. No condition.
-/
import Derived.Test.YtmjoneiagfegdaaBytK
import Derived.Test.YtmjoneiagfegdaaView
set_option linter.unusedVariables false
namespace Go.Proofs.Ytmjoneiagfegdaa.bytesPages
open Go.ChangeShapes Go.WideShapes Go.ChangeAt Go.RowKit Go.Am Go.Pe
open Go.ChangeMaps (open_string shut_string)

theorem own : ownKnob Try.prog.godebug = none := by kernel_rfl
theorem laidOut : laidOutB Try.prog = true := by kernel_rfl

set_option maxRecDepth 100000 in
theorem lifted (os : Os) (started : os.Started) (H : Type) (enc : TypeId × Value → H) :
    ReturnsInHanded {} Try.checked os 9 .any (Rows.bytesPagesSpec.pre6 enc Try.prog Try.f9 Rows.bytesPagesRow.domain false) (Rows.bytesPagesSpec.post enc Try.prog Try.f9 false true false false) := by
  refine returnsInHanded_of_change_sized (C := Try.checked) own started (by kernel_rfl) Try.func9
    (ChangeSpec.witness6 (enc := enc) (C := Try.checked) false ⟨#[], #[.slice none 0 0, .slice none 0 0, .slice none 0 0], []⟩ 8 (by kernel_rfl) (by kernel_rfl) (by kernel_rfl) (by kernel_rfl)) ?_
  intro W base args ds gs before hval0 hW hcnd hsz0 _
  have hsz : (DataW.weightsEach Try.prog (Try.f9.params.toList ++ Rows.bytesPagesSpec.plain.varTypes Try.prog) (ds ++ gs)).all (· ≤ reachBytes) = true := hsz0
  clear hsz0
  have hval : ∀ (j : Nat) t v, Try.f9.params[j]? = some t → args[j]? = some v → Value.okWide Try.prog W .any base t v := hval0
  have hW' := hW
  obtain ⟨p, q, hA0, hV, rfl, hfz, hnd⟩ := hW
  have hA : DataW.TrodAll enc Try.prog W 0 (fun _ => true) true Try.f9.params.toList args.toList ds p := hA0
  rw [Try.params9] at hA hval hsz
  obtain ⟨v0, vs0, d0, ds0, p0, q0, hargs, rfl, rfl, h0, r0⟩ := trodAll_cons hA
  obtain ⟨v1, vs1, d1, ds1, p1, q1, rfl, rfl, rfl, h1, r1⟩ := trodAll_cons r0
  obtain ⟨v2, vs2, d2, ds2, p2, q2, rfl, rfl, rfl, h2, r2⟩ := trodAll_cons r1
  obtain ⟨rfl, rfl, rfl⟩ := trodAll_nil r2
  obtain rfl : args = #[v0, v1, v2] := by cases args; simp_all
  obtain ⟨rfl, rfl⟩ := trodVars_none hV
  have k0 := h0
  have lt0 : ∀ x ∈ p0, x.block < W.heap.size := by obtain ⟨m, hm⟩ := k0; exact DataW.trod_lt m _ _ _ hm
  have sm0 : Small Try.prog 54 d0 := small_arg hsz 0 rfl (by simp)
  obtain ⟨n0, z0, fr0, l0, b0, i0⟩ := view_sl (e := enSh) Try.underlying54 (by kernel_rfl) (hval 0 54 v0 rfl rfl) h0 sm0
  have k1 := h1
  have lt1 : ∀ x ∈ p1, x.block < W.heap.size := by obtain ⟨m, hm⟩ := k1; exact DataW.trod_lt m _ _ _ hm
  have sm1 : Small Try.prog 54 d1 := small_arg hsz 1 rfl (by simp)
  obtain ⟨n1, z1, fr1, l1, b1, i1⟩ := view_sl (e := enSh) Try.underlying54 (by kernel_rfl) (hval 1 54 v1 rfl rfl) h1 sm1
  have k2 := h2
  have lt2 : ∀ x ∈ p2, x.block < W.heap.size := by obtain ⟨m, hm⟩ := k2; exact DataW.trod_lt m _ _ _ hm
  have sm2 : Small Try.prog 55 d2 := small_arg hsz 2 rfl (by simp)
  obtain ⟨n2, z2, fr2, l2, b2, i2⟩ := view_sl (e := Sh.b) Try.underlying55 (by kernel_rfl) (hval 2 55 v2 rfl rfl) h2 sm2
  clear hA0 hval0
  obtain ⟨fuel, hev⟩ := pages_law (n0) (z0) (l0) (b0) (i0) (n1) (z1) (l1) (b1) (i1) (n2) (z2) (l2) (b2) (i2)
  refine (law_true (Gl := noF) (F := allF W) (evP_ok cfgL9_ok fuel 9) (fun _ _ _ h => h) (fun _ _ _ h => by simp [noF] at h) (FC.cons fr0 (FC.cons fr1 (FC.cons fr2 FC.nil))) hev).mono fun e W' ⟨he, bel⟩ => ?_
  subst he
  exact ⟨_, rfl, _, _, _, [], _, [], hW', trodAll_mk1 (shut_bool Try.underlying4 _), (trodAll_cons_mk (Below.trod laidOut (by kernel_rfl) (of_decide_eq_true (by kernel_rfl)) k0 bel lt0) (trodAll_cons_mk (Below.trod laidOut (by kernel_rfl) (of_decide_eq_true (by kernel_rfl)) k1 bel lt1) (trodAll_cons_mk (Below.trod laidOut (by kernel_rfl) (of_decide_eq_true (by kernel_rfl)) k2 bel lt2) trodAll_mk0))), rfl, bel.frame _, fun h => by cases h⟩

theorem over : Rows.bytesPagesRow.holds Try.pinned (OpenSpec.ofChange Rows.bytesPagesSpec) :=
  OpenClaim.holds_of_wide 9 Try.f9 rfl rfl rfl rfl rfl rfl rfl ⟨rfl, rfl, rfl, rfl, rfl⟩ rfl rfl rfl rfl rfl (by kernel_rfl) Try.func9 (by kernel_rfl)
    (of_decide_eq_true (by kernel_rfl)) (by unfold Func.isWrapper; first | (rw [if_pos (by decide +kernel)]; kernel_rfl) | (rw [if_neg (by decide +kernel)]; exact ⟨rfl, rfl⟩))
    (fun os started H enc _ => lifted os started H enc)

theorem proved : Rows.BytesPagesSaid := over
#print axioms proved
end Go.Proofs.Ytmjoneiagfegdaa.bytesPages
