/-
  Each operation of plain data does what the model's does, third part: parts of slices, new rows, append, copy. No condition; nothing of the program.
-/
import Derived.Test.YtaepgkghgcchnaaPeQ
import Derived.Laws.MakeOwn
set_option linter.unusedVariables false
set_option linter.unusedSimpArgs false
namespace Go.Pe
open Go Go.Am Go.RowKit
section
variable {P : Program} {V : List Nat} {base : Nat} {N : Nat → Prop} {G : Ghost} {st : St} {w : World}

/-- an operand that may be missing -/
def ORel (G : Ghost) : Option Value → Option PV → Prop
  | none, none => True
  | some v, some p => VRel G v p
  | _, _ => False
theorem bound_run {v : Value} {p : PV} (h : VRel G v p) {d m r : Nat} (hb : bound (some p) d m = some r) (code : BoundsCode) (w : World) : (Instr.sliceBound v m code).run P w = .ok r w ∧ r ≤ m := by
  cases h with
  | i k n =>
    simp only [bound] at hb
    split at hb
    · rename_i hn
      simp only [Option.some.injEq] at hb
      subst hb
      exact ⟨by simp [Instr.sliceBound, asIntOf, hn], by omega⟩
    · simp at hb
  | _ => simp [bound] at hb
theorem bounds_run {lo hi : Option Value} {pl ph : Option PV} (hl : ORel G lo pl) (hh : ORel G hi ph) {len most cap h l : Nat} (hlen : len ≤ most) (hcap : most ≤ cap) (b1 : bound ph len most = some h) (b2 : bound pl 0 h = some l) (isS : Bool) (w : World) :
    (Instr.sliceBounds isS len cap lo hi none).run P w = .ok (l, h, cap) w ∧ l ≤ h ∧ h ≤ most := by
  have hhr : ∀ code, ∃ b : Bool, (match hi with | some v => (Instr.sliceBound v cap code).run P w = .ok h w | none => len = h) ∧ h ≤ most := by
    intro code
    refine ⟨true, ?_⟩
    match hi, ph, hh with
    | none, none, _ => simp only [bound, Option.some.injEq] at b1; exact ⟨b1, by omega⟩
    | some v, some p, hh =>
      cases hh with
      | i k n =>
        simp only [bound] at b1
        split at b1
        · rename_i hn
          simp only [Option.some.injEq] at b1
          subst b1
          have h1 : 0 ≤ n := hn.1
          have h2 : n ≤ cap := by omega
          exact ⟨by simp [Instr.sliceBound, asIntOf, h1, h2], by omega⟩
        · simp at b1
      | _ => simp [bound] at b1
  have hlr : ∀ code, (match lo with | some v => (Instr.sliceBound v h code).run P w = .ok l w | none => 0 = l) ∧ l ≤ h := by
    intro code
    match lo, pl, hl with
    | none, none, _ => simp only [bound, Option.some.injEq] at b2; exact ⟨b2, by omega⟩
    | some v, some p, hl => exact bound_run hl b2 code w
  refine ⟨?_, (hlr .sliceB).2, (hhr .sliceB).choose_spec.2⟩
  have h1 := hhr (if isS then .sliceAcap else .sliceAlen)
  obtain ⟨_, h1, _⟩ := h1
  have h2 := (hlr .sliceB).1
  cases hi <;> cases lo <;> simp [Instr.sliceBounds] at h1 h2 ⊢ <;> simp [h1, h2]

theorem op_slice_arr (hs : Sim G st w base) {t e : TypeId} {n : Nat} (hu : P.underlying t = some (.array n e)) {sz : Nat} (hn : sizeT P e = some sz) {k off : Nat} {v : Value} (hv : VRel G v (.ptr k off)) {cs : List PV} {fz : Bool} (hg : st.get k = some (.cells cs fz))
    {lo hi : Option Value} {pl ph : Option PV} (hl : ORel G lo pl) (hh : ORel G hi ph) {h l : Nat} (b1 : bound ph n n = some h) (b2 : bound pl 0 h = some l) (c1 : l < n) (c2 : 0 < sz) (c3 : off + n * sz ≤ cs.length) (c4 : n < 4294967296) :
    OpOK P base N G st w (do pure (.value (← Instr.sliceAt t v lo hi none))) (.rsl k sz (off + l * sz) (h - l)) st := by
  cases hv with
  | ptr _ _ blk size hB =>
    obtain ⟨hr, h1, h2⟩ := bounds_run (P := P) hl hh (Nat.le_refl n) (Nat.le_refl n) b1 b2 false w
    obtain ⟨cur, ty, m, g1, g2, g3, g4, g5⟩ := hs.cells k cs fz blk size hg hB
    have hne : ¬ n = l := by omega
    refine OpOK.same hs (v := .slice (some ⟨blk, off + l * sz, none⟩) (h - l) (n - l)) (by simp [Instr.sliceAt, run_underlying hu, Instr.sureAddr, hr, sizeT_run hn, hne, Addr.add_mid]) (.rsl k sz _ _ blk size _ hB (by omega) (by unfold maxLen; omega) ?_ c2)
    have : (n - l) * sz + l * sz = n * sz := by rw [← Nat.add_mul]; congr 1; omega
    omega
theorem op_slice_sl (hs : Sim G st w base) {t e : TypeId} (hu : P.underlying t = some (.slice e)) {sz : Nat} (hn : sizeT P e = some sz) {v : Value} {p r : PV} (hv : VRel G v p) {lo hi : Option Value} {pl ph : Option PV} (hl : ORel G lo pl) (hh : ORel G hi ph)
    (h : sliceP sz pl ph p = some r) : OpOK P base N G st w (do pure (.value (← Instr.sliceAt t v lo hi none))) r st := by
  have hrun : ∀ (a : Option Addr) (n cap l h : Nat), (Instr.sliceBounds true n cap lo hi none).run P w = .ok (l, h, cap) w →
      (Instr.sliceAt t (.slice a n cap) lo hi none).run P w = .ok (.slice (if cap = l then a else a.map (·.add (l * sz))) (h - l) (cap - l)) w := by
    intro a n cap l h hr
    simp [Instr.sliceAt, Instr.slice, run_underlying hu, hr, sizeT_run hn]
  cases hv with
  | nsl =>
    simp only [sliceP] at h
    split at h
    · rename_i x y b1 b2
      simp only [Option.some.injEq] at h
      subst h
      have hx : x = 0 := by
        cases ph with
        | none => simp [bound] at b1; exact b1.symm
        | some q => cases q <;> simp [bound] at b1; omega
      subst hx
      obtain ⟨hr, h1, h2⟩ := bounds_run (P := P) hl hh (Nat.le_refl 0) (Nat.le_refl 0) b1 b2 true w
      obtain rfl : y = 0 := by omega
      exact OpOK.same hs (by simp [hrun none 0 0 0 0 hr]) .nsl
    · simp at h
  | fnull a cap hm =>
    simp only [sliceP] at h
    split at h
    · rename_i x b1
      split at h
      · rename_i y b2
        split at h
        · simp only [Option.some.injEq] at h
          subst h
          obtain ⟨hr, h1, h2⟩ := bounds_run (P := P) hl hh (Nat.le_refl 0) (Nat.zero_le cap) b1 b2 true w
          obtain rfl : y = 0 := by omega
          obtain rfl : x = 0 := by omega
          exact OpOK.same hs (v := .slice (if cap = 0 then a else a.map (·.add (0 * sz))) (0 - 0) (cap - 0)) (by simp only [Sem.run_bind, hrun a 0 cap 0 0 hr, Result.andThen_ok, Sem.run_pure]) (by simp only [Nat.sub_zero, Nat.zero_mul, List.take_zero]; exact .fnull _ _ hm)
        · simp at h
      · simp at h
    · simp at h
  | fsl b o n cap ps f hc hm hF hhh =>
    simp only [sliceP] at h
    split at h
    · rename_i x b1
      split at h
      · rename_i y b2
        split at h
        · rename_i hlen
          simp only [Option.some.injEq] at h
          subst h
          obtain ⟨hr, h1, h2⟩ := bounds_run (P := P) hl hh (Nat.le_refl n) hc b1 b2 true w
          refine OpOK.same hs (v := .slice (if cap = y then some ⟨b, o, none⟩ else (some ⟨b, o, none⟩ : Option Addr).map (·.add (y * sz))) (x - y) (cap - y)) (by simp only [Sem.run_bind, hrun _ n cap y x hr, Result.andThen_ok, Sem.run_pure]) ?_
          by_cases hxy : x - y = 0
          · rw [hxy, Nat.zero_mul, List.take_zero]; exact .fnull _ _ (by omega)
          · rw [if_neg (by omega)]
            simp only [Option.map_some, Addr.add_mid]
            refine .fsl b _ _ _ _ (fun i => f (y * sz + i)) (by omega) (by omega) ?_ ?_
            · intro i hi
              simp at hi
              rw [Nat.add_assoc]; exact hF _ (by omega)
            · intro i q hq
              rw [List.getElem?_take] at hq
              split at hq
              · rw [List.getElem?_drop] at hq; exact hhh _ q hq
              · simp at hq
        · simp at h
      · simp at h
    · simp at h
  | rsl k z off n blk size cap hB hc hm hz hz0 =>
    simp only [sliceP] at h
    split at h
    · rename_i x b1
      split at h
      · rename_i y b2
        obtain ⟨hr, h1, h2⟩ := bounds_run (P := P) hl hh (Nat.le_refl n) hc b1 b2 true w
        split at h
        · rename_i hcond
          obtain ⟨rfl, hcond⟩ := hcond
          simp only [Option.some.injEq] at h
          subst h
          have hadd : (cap - y) * z + y * z = cap * z := by rw [← Nat.add_mul]; congr 1; omega
          by_cases hy : cap = y
          · have hy0 : y = 0 := by omega
            subst hy0
            refine OpOK.same hs (v := .slice (if cap = 0 then some ⟨blk, off, none⟩ else (some ⟨blk, off, none⟩ : Option Addr).map (·.add (0 * z))) (x - 0) (cap - 0)) (by simp only [Sem.run_bind, hrun _ n cap 0 x hr, Result.andThen_ok, Sem.run_pure]) ?_
            rw [if_pos hy, Nat.zero_mul, Nat.add_zero, Nat.sub_zero, Nat.sub_zero]
            exact .rsl k z off x blk size cap hB (by omega) hm hz hz0
          · refine OpOK.same hs (v := .slice (if cap = y then some ⟨blk, off, none⟩ else (some ⟨blk, off, none⟩ : Option Addr).map (·.add (y * z))) (x - y) (cap - y)) (by simp only [Sem.run_bind, hrun _ n cap y x hr, Result.andThen_ok, Sem.run_pure]) ?_
            rw [if_neg hy]
            simp only [Option.map_some, Addr.add_mid]
            exact .rsl k z _ _ blk size _ hB (by omega) (by omega) (by omega) hz0
        · split at h
          · rename_i hcond hzz
            subst hzz
            simp only [Option.some.injEq] at h
            subst h
            have hy : y = n := by simp at hcond; omega
            subst hy
            obtain rfl : x = y := by omega
            refine OpOK.same hs (v := .slice (if cap = x then some ⟨blk, off, none⟩ else (some ⟨blk, off, none⟩ : Option Addr).map (·.add (x * z))) (x - x) (cap - x)) (by simp only [Sem.run_bind, hrun _ x cap x x hr, Result.andThen_ok, Sem.run_pure]) ?_
            rw [Nat.sub_self]; exact .fnull _ _ (by omega)
          · simp at h
      · simp at h
    · simp at h
  | _ => simp [sliceP] at h
theorem op_substr (hs : Sim G st w base) {t : TypeId} (hu : P.underlying t = some .string) {s : List UInt8} {lo hi : Option Value} {pl ph : Option PV} (hl : ORel G lo pl) (hh : ORel G hi ph) {h l : Nat} (b1 : bound ph s.length s.length = some h) (b2 : bound pl 0 h = some l) :
    OpOK P base N G st w (do pure (.value (← Instr.sliceAt t (.string ⟨s.toArray⟩) lo hi none))) (.s ((s.drop l).take (h - l))) st := by
  have hsz : (⟨s.toArray⟩ : ByteArray).size = s.length := by simp [ByteArray.size]
  obtain ⟨hr, h1, h2⟩ := bounds_run (P := P) hl hh (Nat.le_refl s.length) (Nat.le_refl s.length) b1 b2 false w
  have e : (⟨s.toArray⟩ : ByteArray).extract l h = ⟨((s.drop l).take (h - l)).toArray⟩ := by
    apply ByteArray.ext
    simp [ByteArray.data_extract, List.extract_toArray, List.extract_eq_take_drop]
  exact OpOK.same hs (v := .string ⟨((s.drop l).take (h - l)).toArray⟩) (by simp [Instr.sliceAt, Instr.slice, run_underlying hu, hsz, hr, e]) (.s _)
theorem op_min2 {x y : Value} {px py : PV} (hx : VRel G x px) (hy : VRel G y py) {r : PV} (h : (match px, py with | .i k p, .i l q => if k = l then some (PV.i k (if q < p then q else p)) else none | _, _ => none) = some r) (w : World) :
    ∃ v, (Builtin.min2 x y).run P w = .ok v w ∧ VRel G v r := by
  cases hx <;> cases hy <;> simp at h
  obtain ⟨rfl, rfl⟩ := h
  exact ⟨_, by simp [Builtin.min2], .i _ _⟩
end
end Go.Pe
