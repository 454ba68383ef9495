/-
  Regions in an open order: one operation. No condition; nothing of the program.
-/
import Derived.Test.YtaepgkghgcchnaaPeCe
import Derived.Orders
set_option linter.unusedVariables false
set_option linter.unusedSimpArgs false
namespace Go.Pe
open Go Go.Am Go.RowKit

theorem Sim.merge {G G' : Ghost} {st st1 stN : St} {w w' : World} {base key : Nat} (hN : Sim G stN w base) (hle : ∀ k x, st.get k = some x → stN.get k = some x)
    (h1 : Step base (fun k => k = key) G st w G' st1 w') (hk : G.B key = none) (hkey : stN.get key = st1.get key) (hne : ∀ k, k ≠ key → st1.get k = st.get k) : Sim G' stN w' base := by
  have hle' : ∀ k, (st.get k).isSome → (stN.get k).isSome := by
    intro k hk
    obtain ⟨x, hx⟩ := Option.isSome_iff_exists.1 hk
    rw [hle k x hx]; rfl
  have old : ∀ k x, k ≠ key → G'.B k = some x → G.B k = some x := by
    intro k x hk' hx
    rcases h1.new k x hx with h | h
    · exact h
    · exact absurd h hk'
  have same : ∀ (k : Nat) (y : PObj), k ≠ key → (st.get k).isSome → stN.get k = some y → st1.get k = some y := by
    intro k y hk' hs hy
    obtain ⟨z, hz⟩ := Option.isSome_iff_exists.1 hs
    rw [hne k hk', hz]
    have := hle k z hz
    rw [hy] at this; exact this.symm
  have alone : ∀ (k : Nat) (x : Nat × Nat), (stN.get k).isSome → ¬ (st.get k).isSome → G.B k = some x → ∀ (k0 : Nat) (x0 : Nat × Nat), (st.get k0).isSome → G.B k0 = some x0 → x0.1 ≠ x.1 := by
    intro k x hk' hn hB k0 x0 h0 hB0 e
    have := hN.inj k0 k x0 x (hle' k0 h0) hk' hB0 hB e
    subst this; exact hn h0
  have kp : ∀ (k : Nat) (x : Nat × Nat), (stN.get k).isSome → ¬ (st.get k).isSome → G.B k = some x → w'.heap[x.1]? = w.heap[x.1]? := fun k x a b c => h1.kept x.1 (hN.low k x a c).2 (alone k x a b c)
  refine ⟨h1.sim.bas, h1.sim.frz, ?_, ?_, ?_, ?_, ?_, ?_⟩
  rotate_right 1
  · intro k es blk size hg hB
    by_cases hkk : k = key
    · subst hkk; rw [hkey] at hg; exact h1.sim.mps _ _ _ _ hg hB
    · by_cases hs : (st.get k).isSome
      · exact h1.sim.mps _ _ _ _ (same k _ hkk hs hg) hB
      · have hB0 := old k _ hkk hB
        have e := kp k (blk, size) (by rw [hg]; rfl) hs hB0
        obtain ⟨obj, a1, a2⟩ := hN.mps k es blk size hg hB0
        exact ⟨obj, by rw [← a1]; exact e, a2.mono h1.le⟩
  · intro k cs z blk size hg hB
    by_cases hkk : k = key
    · subst hkk; rw [hkey] at hg; exact h1.sim.cells _ _ _ _ _ hg hB
    · by_cases hs : (st.get k).isSome
      · exact h1.sim.cells _ _ _ _ _ (same k _ hkk hs hg) hB
      · have hB0 := old k _ hkk hB
        have e := kp k (blk, size) (by rw [hg]; rfl) hs hB0
        obtain ⟨cur, ty, m, a1, a2, a3, a4, a5⟩ := hN.cells k cs z blk size hg hB0
        exact ⟨cur, ty, m, by rw [← a1]; exact e, a2, a3, a4, a5.mono h1.le⟩
  · intro k cs blk size hg hB i hi
    by_cases hkk : k = key
    · subst hkk; rw [hkey] at hg; exact h1.sim.frzd _ _ _ _ hg hB i hi
    · obtain ⟨u, hu⟩ := hN.frzd k cs blk size hg (old k _ hkk hB) i hi
      exact ⟨u, h1.le.F _ _ _ hu⟩
  · intro k cs blk size hg hB o
    by_cases hkk : k = key
    · subst hkk; rw [hkey] at hg; exact h1.sim.free _ _ _ _ hg hB o
    · by_cases hs : (st.get k).isSome
      · exact h1.sim.free _ _ _ _ (same k _ hkk hs hg) hB o
      · have hB0 := old k _ hkk hB
        cases hF : G'.F blk o with
        | none => rfl
        | some u =>
          exfalso
          rcases h1.fnew blk o u hF with h | h | ⟨k0, x0, c, d, e⟩
          · rw [hN.free k cs blk size hg hB0 o] at h; simp at h
          · have := (hN.low k _ (by rw [hg]; rfl) hB0).2
            simp only [] at this; omega
          · exact alone k (blk, size) (by rw [hg]; rfl) hs hB0 k0 x0 c d e
  · have half : ∀ (k' : Nat) (x x' : Nat × Nat), k' ≠ key → (stN.get key).isSome → (stN.get k').isSome → G'.B key = some x → G'.B k' = some x' → x.1 = x'.1 → False := by
      intro k' x x' hk' h0 h2 hB hB' e
      rw [hkey] at h0
      have hB0 := old k' _ hk' hB'
      by_cases hs : (st.get k').isSome
      · have := h1.sim.inj key k' x x' h0 (by rw [hne k' hk']; exact hs) hB hB' e
        exact hk' this.symm
      · rcases h1.own key x h0 hB with h | ⟨k0, x0, c, d, e'⟩
        · have := (hN.low k' x' h2 hB0).2; omega
        · exact alone k' x' h2 hs hB0 k0 x0 c d (by omega)
    intro k k' x x' h0 h2 hB hB' e
    by_cases hkk : k = key
    · subst hkk
      by_cases hkk' : k' = k
      · exact hkk'.symm
      · exact (half k' x x' hkk' h0 h2 hB hB' e).elim
    · by_cases hkk' : k' = key
      · subst hkk'; exact (half k x' x hkk h2 h0 hB' hB e.symm).elim
      · exact hN.inj k k' x x' h0 h2 (old k x hkk hB) (old k' x' hkk' hB') e
  · intro k x h0 hB
    by_cases hkk : k = key
    · subst hkk; rw [hkey] at h0; exact h1.sim.low _ _ h0 hB
    · obtain ⟨a1, a2⟩ := hN.low k x h0 (old k x hkk hB)
      exact ⟨a1, Nat.lt_of_lt_of_le a2 h1.size⟩
/-- a quiet operation -/
theorem evOp_q {P : Program} {Gl : Gmap} {V : List Nat} {modes : FuncId → Option Bool} {cfg : Cfg} (hcfg : CfgOK P Gl cfg) {callE : CallE} (hE : CallOK P Gl callE) {o : Oper} {m mq : MOp} (hm : cOp P V modes o.op = some m) (hpc : m.plain = true ∨ isCallOp o.op = true)
    (hq : (mq = m ∧ quietB m = true) ∨ ∃ f l, m = .call f false l ∧ mq = .callq f l) {G : Ghost} {st : St} {w : World} {base : Nat} (hs : Sim G st w base) (hgl : ∀ b o u, Gl b o = some u → G.F b o = some u) {a : Act} {ρ : Arg → PV} (hρ : ∀ x y, cArg V x = some y → VRel G (a.eval x) (ρ y))
    {key : Nat} (hkey : G.B key = none) (hcnt : ∀ k, st.cnt ≤ k → G.B k = none) {r : PV} {st' : St} (he : evOp cfg callE ρ st key mq = some (r, st')) : OpW P base (fun k => k = key) G st w o a r st' := by
  have hst : st'.cnt = st.cnt := by
    have : quietB mq = true := by
      rcases hq with ⟨rfl, h⟩ | ⟨f, l, rfl, rfl⟩
      · exact h
      · rfl
    rcases quiet_store this he with rfl | ⟨o, rfl⟩ <;> rfl
  have he' : evOp cfg callE ρ st key m = some (r, st') := by
    rcases hq with ⟨rfl, h⟩ | ⟨f, l, rfl, rfl⟩
    · exact he
    · simp only [evOp] at he ⊢
      split at he
      · rename_i l' hl
        split at he
        · rename_i r0 hr0
          split at he
          · rename_i hcl
            unfold callStep
            simp only [hl, hr0, if_pos hcl]
            exact he
          · simp at he
        · simp at he
      · simp at he
  have hfu : (∃ f l, m = .calle f l) ∨ (∃ f l, m = .callv f l) → Full Gl G st := by
    rintro (⟨f, l, rfl⟩ | ⟨f, l, rfl⟩)
    all_goals
      exfalso
      rcases hq with ⟨_, h⟩ | ⟨f, l, h, _⟩
      · simp [quietB] at h
      · simp at h
  obtain ⟨_, h⟩ := evOp_w hcfg hE hm hpc hs hgl hfu hρ hkey hcnt he'
  refine h.weaken ?_
  intro k hk
  rcases hk with h | h
  · exact h
  · omega
theorem guard_ok' {V : List Nat} {n : Nat} {ops : Array Oper} {o : Oper} {g : Option (Arg × Bool)} (hg : cGuard V n ops o.guard = some g) {G : Ghost} {a : Act} {c : Loc} (h : ∀ y b, g = some (y, b) → ∀ x, cArg V x = some y → VRel G (a.eval x) (c.rd y)) (hn : n ≤ a.tmps.size) {b : Bool} (hb : guardP c g = some b) : Region.wanted o (yielded ops a.tmps) = b := by
  cases hog : o.guard with
  | none =>
    rw [hog] at hg
    simp only [cGuard, Option.some.injEq] at hg
    subst hg
    simp only [guardP, Option.some.injEq] at hb
    subst hb
    simp [Region.wanted, hog]
  | some jw =>
    obtain ⟨j, want⟩ := jw
    rw [hog] at hg
    simp only [cGuard] at hg
    split at hg
    · rename_i t ht
      split at hg
      · rename_i htn
        simp only [Option.some.injEq] at hg
        subst hg
        have hv : VRel G (a.tmps.getD t undef) (c.rd (if V.contains t then .t t else .l t)) := by
          have := h _ _ rfl (.tmp t) rfl
          simpa [Act.eval] using this
        have hy : yielded ops a.tmps j = match a.tmps.getD t undef with | .bool b => some b | _ => none := by
          have hlt : t < a.tmps.size := Nat.lt_of_lt_of_le htn hn
          unfold yielded
          rw [ht]
          simp only [Option.bind_some, Array.getElem?_eq_getElem hlt, Array.getD_eq_getD_getElem?, Option.getD_some]
          cases a.tmps[t] <;> rfl
        simp only [Region.wanted, hog, hy]
        simp only [guardP] at hb
        split at hb
        · rename_i y hy2
          simp only [Option.some.injEq] at hb
          subst hb
          rw [hy2] at hv
          generalize a.tmps.getD t undef = q at hv
          cases hv
          cases y <;> cases want <;> rfl
        · rename_i hy2
          simp only [Option.some.injEq] at hb
          subst hb
          rw [hy2] at hv
          generalize a.tmps.getD t undef = q at hv
          cases hv
          rfl
        · simp at hb
      · simp at hg
    · simp at hg
end Go.Pe
