/-
 The statement CodeLocalsApart: for every input the law returns true, and each argument reads as it did. No condition.
-/
import Derived.Test.YtnnokaklkegngaaDoorCodC
import Derived.Test.YtnnokaklkegngaaDoorView
import Derived.Test.YtnnokaklkegngaaDoorDoorW
import Derived.Test.YtnnokaklkegngaaDoorCards
import Derived.Test.YtnnokaklkegngaaDoorTie
set_option linter.unusedVariables false
set_option maxRecDepth 100000
namespace Go.Proofs.YtnnokaklkegngaaDoor.codeLocalsApart
open Go.ChangeShapes Go.WideShapes Go.ChangeAt Go.RowKit Go.Am Go.Pe
open Go.ChangeMaps (open_string shut_string)

theorem own : ownKnob Tryd.prog.godebug = none := by kernel_rfl
theorem door_met (os : Os) (args : Array Value) : laidMetH Tryd.prog Rows.codeLocalsApartRow.laid ((World.doorLaid Tryd.prog 24 os).forCall (fun _ _ => 0) ⟨#[], args, []⟩).memory :=
 laidMetH_of_parts3 (fuel := 8) (laidMet_of_run' 8 (by kernel_rfl) (by kernel_rfl)) (by kernel_rfl) (by kernel_rfl)
theorem laidOut : laidOutB Tryd.prog = true := by kernel_rfl

theorem lifted (os : Os) (started : os.Started) (H : Type) (enc : TypeId × Value → H) :
 ReturnsInHanded {} Tryd.checked os 6 .any (fun w args => (Rows.codeLocalsApartSpec.pre enc Tryd.prog Tryd.f6 [] false w args ∧ laidMetH Tryd.prog Rows.codeLocalsApartRow.laid w) ∧ sizedMet enc Tryd.prog Tryd.f6 (OpenSpec.ofChange Rows.codeLocalsApartSpec) false w args) (Rows.codeLocalsApartSpec.post enc Tryd.prog Tryd.f6 false true false false) := by
 refine Ngs (C := Tryd.checked) (X := fun w _ => laidMetH Tryd.prog Rows.codeLocalsApartRow.laid w) (fun _ _ _ hh h => h.of_heap hh) own started (by kernel_rfl) Tryd.func6
  (ChangeSpec.witness_shaped (enc := enc) (C := Tryd.checked) (os := os) (X := fun w _ => laidMetH Tryd.prog Rows.codeLocalsApartRow.laid w) false (World.doorLaid Tryd.prog 24 os) #[.agg #[.int .u8 0, .string ⟨#[]⟩, .int .i64 0, .slice none 0 0], .slice none 0 0, .agg #[.int .i64 0, .int .i64 0]] 8 rfl (World.shaped_of_RefB (by kernel_rfl) (by kernel_rfl)) (by kernel_rfl) (by kernel_rfl) (by kernel_rfl) (door_met os _)) ?_
 intro W base args ds gs before hval0 hW hcnd hsz0 hL hsh _
 have hsz : (DataW.weightsEach Tryd.prog (Tryd.f6.params.toList ++ Rows.codeLocalsApartSpec.plain.varTypes Tryd.prog) (ds ++ gs)).all (· ≤ reachBytes) = true := hsz0
 clear hsz0
 have hval : ∀ (j : Nat) t v, Tryd.f6.params[j]? = some t → args[j]? = some v → Value.okWide Tryd.prog W .any base t v := hval0
 have hW' := hW
 obtain ⟨p, q, hA0, hV, rfl, hfz, hnd⟩ := hW
 have hA : DataW.TrodAll enc Tryd.prog W 0 (fun _ => true) true Tryd.f6.params.toList args.toList ds p := hA0
 rw [Tryd.params6] at hA hval hsz
 obtain ⟨v0, vs0, d0, ds0, p0, q0, hargs, rfl, rfl, h0, r0⟩ := trodAll_cons hA
 obtain ⟨v1, vs1, d1, ds1, p1, q1, rfl, rfl, rfl, h1, r1⟩ := trodAll_cons r0
 obtain ⟨v2, vs2, d2, ds2, p2, q2, rfl, rfl, rfl, h2, r2⟩ := trodAll_cons r1
 obtain ⟨rfl, rfl, rfl⟩ := trodAll_nil r2
 obtain rfl : args = #[v0, v1, v2] := by cases args; simp_all
 obtain ⟨rfl, rfl⟩ := trodVars_none hV
 have k0 := h0
 have lt0 : ∀ x ∈ p0, x.block < W.heap.size := by obtain ⟨m, hm⟩ := k0; exact DataW.trod_lt m _ _ _ hm
 have sm0 : Small Tryd.prog 36 d0 := NcW hsz 0 rfl (by simp)
 obtain ⟨f0, z0, fr0, i0⟩ := Ngb (E := Nd7) Tryd.underlying36 (fun f => by rw [Nfm]; kernel_rfl) (fun f => Nen f f (Nat.le_refl f)) (fun f => Nfb Tryd.underlying36 (by kernel_rfl) Tryd.underlying33 Tryd.underlying9 Tryd.underlying2 Tryd.underlying34 (by kernel_rfl) (by kernel_rfl) (by kernel_rfl) (by kernel_rfl) (by kernel_rfl) (of_decide_eq_true (by kernel_rfl)) f) (hval 0 36 v0 rfl rfl) h0 sm0
 have k1 := h1
 have lt1 : ∀ x ∈ p1, x.block < W.heap.size := by obtain ⟨m, hm⟩ := k1; exact DataW.trod_lt m _ _ _ hm
 have sm1 : Small Tryd.prog 22 d1 := NcW hsz 1 rfl (by simp)
 obtain ⟨n1, z1, fr1, l1, b1, i1⟩ := NgZ (e := (Sh.i .i64)) Tryd.underlying22 (by kernel_rfl) (hval 1 22 v1 rfl rfl) h1 sm1
 have k2 := h2
 have lt2 : ∀ x ∈ p2, x.block < W.heap.size := by obtain ⟨m, hm⟩ := k2; exact DataW.trod_lt m _ _ _ hm
 have sm2 : Small Tryd.prog 60 d2 := NcW hsz 2 rfl (by simp)
 obtain ⟨z2, fr2, i2⟩ := Ng1 (r' := (Sh.cons (.i .i64) (.cons (.i .i64) .nil))) Tryd.underlying60 (by kernel_rfl) (by kernel_rfl) (hval 2 60 v2 rfl rfl) h2 sm2
 clear hA0 hval0
 obtain ⟨m, hm⟩ := Nea hsh
 obtain ⟨fuel, hev⟩ := Ne3 (f0) (z0) (i0) (n1) (z1) (l1) (b1) (i1) (z2) (i2)
 refine (Ngg (Gl := Nin 0 0 (.int .i64 m)) (F := NeO W) (NeZ (Ngi (m := m) (by simp [Nin])) fuel 6) (fun _ _ _ h => h) (Nht hm) (FC.cons fr0 (FC.cons fr1 (FC.cons fr2 FC.nil))) hev).mono fun e W' ⟨he, bel⟩ => ?_
 subst he
 exact ⟨_, rfl, _, _, _, [], _, [], hW', trodAll_mk1 (shut_bool Tryd.underlying4 _), (trodAll_cons_mk (Below.trod laidOut (by kernel_rfl) (of_decide_eq_true (by kernel_rfl)) k0 bel lt0) (trodAll_cons_mk (Below.trod laidOut (by kernel_rfl) (of_decide_eq_true (by kernel_rfl)) k1 bel lt1) (trodAll_cons_mk (Below.trod laidOut (by kernel_rfl) (of_decide_eq_true (by kernel_rfl)) k2 bel lt2) trodAll_mk0))), rfl, bel.frame _, fun h => by cases h⟩

theorem over : Rows.codeLocalsApartRow.holds Tryd.pinned (OpenSpec.ofChange Rows.codeLocalsApartSpec) :=
 OpenClaim.holds_of_wide 6 Tryd.f6 rfl rfl rfl rfl rfl rfl rfl ⟨rfl, rfl, rfl, rfl, rfl⟩ rfl rfl rfl rfl rfl (by kernel_rfl) Tryd.func6 (by kernel_rfl)
  (of_decide_eq_true (by kernel_rfl)) (by unfold Func.isWrapper; first | (rw [if_pos (by decide +kernel)]; kernel_rfl) | (rw [if_neg (by decide +kernel)]; exact ⟨rfl, rfl⟩))
  (fun os started H enc _ => lifted os started H enc)

theorem proved : Rows.CodeLocalsApartCardSaid :=
 Claim7.holds_tied_plain_at .later [] [.data, .data, .data] true Rows.codeLocalsApartCard.stood.harness false
  over (fun _ h => by cases h) (by kernel_rfl) (fun _ h => by cases h) codeLocalsApart_row_tie rfl ⟨rfl, rfl⟩ (by kernel_rfl) rfl
  (fun f fn hf hfn => by
   obtain rfl : f = 6 := Option.some.inj ((show Tryd.prog.funcNamed "amanuensis/amanuensislaw11.CodeLocalsApart" = some 6 by kernel_rfl).symm.trans hf) |>.symm
   obtain rfl : fn = Tryd.f6 := (Option.some.inj (Tryd.func6.symm.trans hfn)).symm
   exact ⟨by kernel_rfl, fun j t ht => by
    rw [Tryd.params6] at ht
    have hm : t ∈ [36, 22, 60] := by simpa using Array.mem_of_getElem? ht
    have hall : ([36, 22, 60].all fun u => !Tryd.prog.wantsStandIn u) = true := by kernel_rfl
    exact (show Tryd.prog.wantsStandIn t = false by simpa using List.all_eq_true.1 hall t hm)⟩)
  (by kernel_rfl)
#print axioms proved
end Go.Proofs.YtnnokaklkegngaaDoor.codeLocalsApart

