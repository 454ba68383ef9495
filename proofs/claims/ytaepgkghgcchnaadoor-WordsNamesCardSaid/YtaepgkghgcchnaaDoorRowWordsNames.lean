/-
 The statement WordsNames: for every input the law returns true, and each argument reads as it did. No condition.
-/
import Derived.Test.YtaepgkghgcchnaaDoorWnmB
import Derived.Test.YtaepgkghgcchnaaDoorView
import Derived.Test.YtaepgkghgcchnaaDoorDoorW
import Derived.Lay
import Derived.LaidSub
import Derived.Lib.LaidTab
import Derived.Lib.Space
import Derived.Test.YtaepgkghgcchnaaDoorCards
import Derived.Test.YtaepgkghgcchnaaDoorTie
set_option linter.unusedVariables false
set_option maxRecDepth 100000
namespace Go.Proofs.YtaepgkghgcchnaaDoor.wordsNames
open Go.ChangeShapes Go.WideShapes Go.ChangeAt Go.RowKit Go.Am Go.Pe
open Go.ChangeMaps (open_string shut_string)

theorem own : ownKnob Tryd.prog.godebug = none := by kernel_rfl
theorem space_cells {W : World} (h : laidMetH Tryd.prog Rows.wordsNamesRow.laid W) : ∀ c : Nat, c < 256 → NfD W 0 c = some (.int .u8 (if Go.Lib.isSp (UInt8.ofNat c) then 1 else 0)) := by
 rw [MakeChecks.laidMetH_plain _ _ _ (by kernel_rfl)] at h
 have h2 := laidMet.filter (fun x => x.1 == "strings.asciiSpace") h
 have h3 : laidMet Tryd.prog (("strings.asciiSpace", Go.Lib.tabData .u8 Go.Lib.asciiSpaceTab) :: []) W := by
  have e : (Rows.wordsNamesRow.laid.filter fun x => x.1 == "strings.asciiSpace") = [("strings.asciiSpace", Go.Lib.tabData .u8 Go.Lib.asciiSpaceTab)] := by kernel_rfl
  rw [e] at h2
  exact h2
 have h4 := Go.Lib.tabIs_of_head (g := 0) (by kernel_rfl) (by kernel_rfl) Tryd.underlying57 Tryd.underlying5 (by kernel_rfl) (by kernel_rfl) h3
 intro c hc
 have h5 := h4.cell (g := 0) (by kernel_rfl) c (by rw [Go.Lib.asciiSpaceTab_length]; exact hc)
 rw [Go.Lib.asciiSpaceTab_at c hc] at h5
 exact h5
theorem laidOut : laidOutB Tryd.prog = true := by kernel_rfl

theorem lifted (os : Os) (started : os.Started) (H : Type) (enc : TypeId × Value → H) :
 ReturnsInHanded {} Tryd.checked os 4 .any (fun w args => (Rows.wordsNamesSpec.pre enc Tryd.prog Tryd.f4 [] false w args ∧ laidMetH Tryd.prog Rows.wordsNamesRow.laid w) ∧ sizedMet enc Tryd.prog Tryd.f4 (OpenSpec.ofChange Rows.wordsNamesSpec) false w args) (Rows.wordsNamesSpec.post enc Tryd.prog Tryd.f4 false true false false) := by
 refine NgJ (C := Tryd.checked) (X := fun w _ => laidMetH Tryd.prog Rows.wordsNamesRow.laid w) (fun _ _ _ hh h => h.of_heap hh) own started (by kernel_rfl) Tryd.func4
  (ChangeSpec.witness_shaped (enc := enc) (C := Tryd.checked) (os := os) (X := fun w _ => laidMetH Tryd.prog Rows.wordsNamesRow.laid w) false (World.laidAll Tryd.prog os Rows.wordsNamesRow.laid) #[.slice none 0 0, .int .i64 0, .int .u8 0] 8 (World.laidAll_os _ _ _) (World.shaped_of_ZipB (by kernel_rfl) (by kernel_rfl)) (by kernel_rfl) (by kernel_rfl) (by kernel_rfl) (by rw [MakeChecks.laidMetH_plain _ _ _ (by kernel_rfl)]; exact laidMet_laidAll _ (by kernel_rfl) (by kernel_rfl))) ?_
 intro W base args ds gs before hval0 hW hcnd hsz0 hL hsh _
 have hsz : (DataW.weightsEach Tryd.prog (Tryd.f4.params.toList ++ Rows.wordsNamesSpec.plain.varTypes Tryd.prog) (ds ++ gs)).all (· ≤ reachBytes) = true := hsz0
 clear hsz0
 have hval : ∀ (j : Nat) t v, Tryd.f4.params[j]? = some t → args[j]? = some v → Value.okWide Tryd.prog W .any base t v := hval0
 have hW' := hW
 obtain ⟨p, q, hA0, hV, rfl, hfz, hnd⟩ := hW
 have hA : DataW.TrodAll enc Tryd.prog W 0 (fun _ => true) true Tryd.f4.params.toList args.toList ds p := hA0
 rw [Tryd.params4] at hA hval hsz
 obtain ⟨v0, vs0, d0, ds0, p0, q0, hargs, rfl, rfl, h0, r0⟩ := trodAll_cons hA
 obtain ⟨v1, vs1, d1, ds1, p1, q1, rfl, rfl, rfl, h1, r1⟩ := trodAll_cons r0
 obtain ⟨v2, vs2, d2, ds2, p2, q2, rfl, rfl, rfl, h2, r2⟩ := trodAll_cons r1
 obtain ⟨rfl, rfl, rfl⟩ := trodAll_nil r2
 obtain rfl : args = #[v0, v1, v2] := by cases args; simp_all
 obtain ⟨rfl, rfl⟩ := trodVars_none hV
 have k0 := h0
 have lt0 : ∀ x ∈ p0, x.block < W.heap.size := by obtain ⟨m, hm⟩ := k0; exact DataW.trod_lt m _ _ _ hm
 have sm0 : Small Tryd.prog 22 d0 := Ngr hsz 0 rfl (by simp)
 obtain ⟨n0, z0, fr0, l0, b0, i0⟩ := Nix (e := (Sh.i .u8)) Tryd.underlying22 (by kernel_rfl) (hval 0 22 v0 rfl rfl) h0 sm0
 obtain ⟨x1, rfl, rfl, rfl, w1⟩ := open_int Tryd.underlying3 (hval 1 3 v1 rfl rfl) h1
 have wx1 := Nfo w1
 obtain ⟨x2, rfl, rfl, rfl, w2⟩ := open_int Tryd.underlying5 (hval 2 5 v2 rfl rfl) h2
 clear hA0 hval0
 obtain ⟨m, hm⟩ := NeC hsh
 obtain ⟨fuel, hev⟩ := Nf7 (n0) (z0) (l0) (b0) (i0) (x1) (w1) (x2) (w2)
 refine (Ng0 (Gl := NfD W) (F := NfD W) (NfR (NhJ (m := m) hm (space_cells hL)) fuel 4) (fun _ _ _ h => h) (fun _ _ _ h => h) (FC.cons fr0 (FC.cons (.i _ _) (FC.cons (.i _ _) FC.nil))) hev).mono fun e W' ⟨he, bel⟩ => ?_
 subst he
 exact ⟨_, rfl, _, _, _, [], _, [], hW', trodAll_mk1 (shut_bool Tryd.underlying4 _), (trodAll_cons_mk (Below.trod laidOut (by kernel_rfl) (of_decide_eq_true (by kernel_rfl)) k0 bel lt0) (trodAll_cons_mk (shut_int Tryd.underlying3 w1) (trodAll_cons_mk (shut_int Tryd.underlying5 w2) trodAll_mk0))), rfl, bel.frame _, fun h => by cases h⟩

theorem over : Rows.wordsNamesRow.holds Tryd.pinned (OpenSpec.ofChange Rows.wordsNamesSpec) :=
 OpenClaim.holds_of_wide 4 Tryd.f4 rfl rfl rfl rfl rfl rfl rfl ⟨rfl, rfl, rfl, rfl, rfl⟩ rfl rfl rfl rfl rfl (by kernel_rfl) Tryd.func4 (by kernel_rfl)
  (of_decide_eq_true (by kernel_rfl)) (by unfold Func.isWrapper; first | (rw [if_pos (by decide +kernel)]; kernel_rfl) | (rw [if_neg (by decide +kernel)]; exact ⟨rfl, rfl⟩))
  (fun os started H enc _ => lifted os started H enc)

theorem proved : Rows.WordsNamesCardSaid :=
 Claim7.holds_tied_plain_at .later [] [.data, .listed, .data, .pinned, .pinned] true Rows.wordsNamesCard.stood.harness false
  over (fun _ h => by cases h) (by kernel_rfl) (fun _ h => by cases h) wordsNames_row_tie rfl ⟨rfl, rfl⟩ (by kernel_rfl) rfl
  (fun f fn hf hfn => by
   obtain rfl : f = 4 := Option.some.inj ((show Tryd.prog.funcNamed "amanuensis/amanuensislaw08.WordsNames" = some 4 by kernel_rfl).symm.trans hf) |>.symm
   obtain rfl : fn = Tryd.f4 := (Option.some.inj (Tryd.func4.symm.trans hfn)).symm
   exact ⟨by kernel_rfl, fun j t ht => by
    rw [Tryd.params4] at ht
    have hm : t ∈ [22, 3, 5] := by simpa using Array.mem_of_getElem? ht
    have hall : ([22, 3, 5].all fun u => !Tryd.prog.wantsStandIn u) = true := by kernel_rfl
    exact (show Tryd.prog.wantsStandIn t = false by simpa using List.all_eq_true.1 hall t hm)⟩)
  (by kernel_rfl)
#print axioms proved
end Go.Proofs.YtaepgkghgcchnaaDoor.wordsNames

