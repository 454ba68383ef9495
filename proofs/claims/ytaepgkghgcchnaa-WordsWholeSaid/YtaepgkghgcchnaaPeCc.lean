/-
  Code, and functions, among objects. No condition; nothing of the program.
-/
import Derived.Test.YtaepgkghgcchnaaPeCb
import Derived.Test.YtaepgkghgcchnaaPeCm
import Derived.LoopN
import Derived.Scope
set_option linter.unusedVariables false
set_option linter.unusedSimpArgs false
namespace Go.Pe
open Go Go.Am Go.RowKit

/-- variables, in and out of a piece of code -/
def NowRel (V : List Nat) (G : Ghost) (a : Act) (c : Now) : Prop := ∀ t, V.contains t = true → VRel G (a.tmps.getD t undef) (c.env.get t)
def exitOf : MExit → Exit
  | .nrm => .normal
  | .ex id => .exit id
  | .ret => .ret
/-- what is behind a piece of code -/
def Behind (V : List Nat) (n base : Nat) (G : Ghost) (a : Act) (w : World) (c c' : Now) (K : Act → World → Prop) : Prop :=
  ∀ a' w' G', NowRel V G' a' c' → n ≤ a'.tmps.size → a'.defers = a.defers → c.st.cnt ≤ c'.st.cnt → Step base (fun k => c.st.cnt ≤ k ∧ k < c'.st.cnt) G c.st w G' c'.st w' → K a' w'
theorem KInv.after {base : Nat} {G G' : Ghost} {st st' : St} {w w' : World} (hk : ∀ k, st.cnt ≤ k → G.B k = none) (hc : st.cnt ≤ st'.cnt) (h : Step base (fun k => st.cnt ≤ k ∧ k < st'.cnt) G st w G' st' w') : ∀ k, st'.cnt ≤ k → G'.B k = none := by
  intro k hk'
  cases hx : G'.B k with
  | none => rfl
  | some x =>
    rcases h.new k x hx with h1 | h1
    · rw [hk k (by omega)] at h1; simp at h1
    · omega
theorem Behind.trans {V : List Nat} {n base : Nat} {G G1 : Ghost} {a a1 : Act} {w w1 : World} {c c1 c2 : Now} {K : Act → World → Prop} (h : Behind V n base G a w c c2 K) (hd : a1.defers = a.defers) (hc : c.st.cnt ≤ c1.st.cnt) (hs : Step base (fun k => c.st.cnt ≤ k ∧ k < c1.st.cnt) G c.st w G1 c1.st w1) :
    c1.st.cnt ≤ c2.st.cnt → Behind V n base G1 a1 w1 c1 c2 K := by
  intro hc2 a' w' G' h1 h2 h3 h4 h5
  exact h a' w' G' h1 h2 (h3.trans hd) (by omega) (hs.trans h5 (fun k hk => ⟨hk.1, by omega⟩) (fun k hk => ⟨by omega, hk.2⟩))
theorem evOp_cntle {cfg : Cfg} {P : Program} {Gl : Gmap} {callE : CallE} (hE : CallOK P Gl callE) {ρ : Arg → PV} {st : St} {key : Nat} {m : MOp} {r : PV} {st' : St} (he : evOp cfg callE ρ st key m = some (r, st')) : st.cnt ≤ st'.cnt := by
  by_cases hpl : m.plain = true
  · exact Nat.le_of_eq (evOp_cnt hpl he).symm
  · cases m <;> first | (simp [MOp.plain] at hpl; done) | skip
    · simp only [evOp] at he; exact Nat.le_of_eq (callStep_cnt he).symm
    · simp only [evOp] at he
      split at he
      · simp at he
      · exact (hE _ _ _ _ _ he).2.1
    · simp only [evOp] at he
      repeat' split at he
      all_goals first | (simp at he; done) | exact Nat.le_of_eq (recvRes_cnt he).symm
    · simp only [evOp] at he
      split at he
      · split at he
        · simp at he
        · exact (hE _ _ _ _ _ he).2.1
      · split at he
        · simp at he
        · exact (hE _ _ _ _ _ he).2.1
      · simp at he
theorem evOps_cntle {cfg : Cfg} {P : Program} {Gl : Gmap} {callE : CallE} (hE : CallOK P Gl callE) : ∀ (ml : List MOper) (key : Nat) (c c' : Loc), evOps cfg callE ml key c = some c' → c.st.cnt ≤ c'.st.cnt
  | [], key, c, c', h => by simp [evOps] at h; subst h; exact Nat.le_refl _
  | o :: ml, key, c, c', h => by
    have hst : ∀ (c : Loc) d v, (c.wr d v).st = c.st := by intro c d v; cases d <;> rfl
    simp only [evOps] at h
    split at h
    · split at h
      · rename_i v st hev
        have h1 := evOp_cntle hE hev
        have h2 := evOps_cntle hE ml _ _ _ h
        rw [hst] at h2
        exact Nat.le_trans h1 h2
      · simp at h
    · have h2 := evOps_cntle hE ml _ _ _ h
      rw [hst] at h2; exact h2
    · simp at h
theorem evTr_cntle {cfg : Cfg} {P : Program} {Gl : Gmap} {callE : CallE} (hE : CallOK P Gl callE) : ∀ (ml : List MOper) (key : Nat) (c c' : Loc) (tr : List (Loc × PV)), evTr cfg callE ml key c = some (tr, c') → c.st.cnt ≤ c'.st.cnt
  | [], key, c, c', tr, h => by simp [evTr] at h; obtain ⟨_, rfl⟩ := h; exact Nat.le_refl _
  | o :: ml, key, c, c', tr, h => by
    simp only [evTr] at h
    split at h
    · split at h
      · rename_i v st hev
        simp only [Option.map_eq_some_iff, Prod.mk.injEq] at h
        obtain ⟨⟨tr', c2⟩, he, rfl, rfl⟩ := h
        have h1 := evOp_cntle hE hev
        have h2 := evTr_cntle hE ml _ _ _ _ he
        rw [wr_st] at h2
        exact Nat.le_trans h1 h2
      · simp at h
    · simp only [Option.map_eq_some_iff, Prod.mk.injEq] at h
      obtain ⟨⟨tr', c2⟩, he, rfl, rfl⟩ := h
      have h2 := evTr_cntle hE ml _ _ _ _ he
      rw [wr_st] at h2; exact h2
    · simp at h
def CntOK (ev : Now → Option (MExit × Now)) : Prop := ∀ x e x', ev x = some (e, x') → x.st.cnt ≤ x'.st.cnt
theorem loopE_cnt {ev : Now → Option (MExit × Now)} (h : CntOK ev) : ∀ (fuel : Nat) (x : Now) (e : MExit) (x' : Now), loopE ev fuel x = some (e, x') → x.st.cnt ≤ x'.st.cnt ∧ e ≠ .nrm
  | 0, x, e, x', he => by simp [loopE] at he
  | fuel + 1, x, e, x', he => by
    simp only [loopE] at he
    split at he
    · rename_i x1 h1
      obtain ⟨h2, h3⟩ := loopE_cnt h fuel _ _ _ he
      exact ⟨Nat.le_trans (h _ _ _ h1) h2, h3⟩
    · rename_i e1 x1 hne h1
      simp only [Option.some.injEq, Prod.mk.injEq] at he
      obtain ⟨rfl, rfl⟩ := he
      exact ⟨h _ _ _ h1, fun hh => hne hh⟩
    · simp at he
theorem evCode_cnt {cfg : Cfg} {P : Program} {Gl : Gmap} {callE : CallE} (hE : CallOK P Gl callE) (fuel : Nat) : ∀ m : MCode, CntOK (evCode cfg callE fuel m)
  | .skip => fun x e x' h => by simp [evCode] at h; obtain ⟨_, rfl⟩ := h; exact Nat.le_refl _
  | .region ops => fun x e x' h => by
    simp only [evCode, evRegion, Option.map_eq_some_iff, Prod.mk.injEq] at h
    obtain ⟨y, ⟨z, hz, rfl⟩, _, rfl⟩ := h
    have := evOps_cntle hE _ _ _ _ hz
    simp only [] at this ⊢
    omega
  | .chain ops masks sw => fun x e x' h => by
    simp only [evCode, evChain, Option.map_eq_some_iff, Prod.mk.injEq] at h
    obtain ⟨y, hy, _, rfl⟩ := h
    split at hy
    · rename_i tr z hz
      split at hy
      · simp only [Option.some.injEq] at hy
        subst hy
        have := evTr_cntle hE _ _ _ _ _ hz
        simp only [] at this ⊢
        omega
      · simp at hy
    · simp at hy
  | .seq a b => fun x e x' h => by
    simp only [evCode] at h
    split at h
    · rename_i x1 h1
      exact Nat.le_trans (evCode_cnt hE fuel a _ _ _ h1) (evCode_cnt hE fuel b _ _ _ h)
    · exact evCode_cnt hE fuel a _ _ _ h
  | .cond c a b => fun x e x' h => by
    simp only [evCode] at h
    split at h
    · split at h
      · exact evCode_cnt hE fuel a _ _ _ h
      · exact evCode_cnt hE fuel b _ _ _ h
    · simp at h
  | .block id a => fun x e x' h => by
    simp only [evCode] at h
    split at h
    · rename_i j x1 h1
      split at h <;> (simp only [Option.some.injEq, Prod.mk.injEq] at h; obtain ⟨_, rfl⟩ := h; exact evCode_cnt hE fuel a _ _ _ h1)
    · exact evCode_cnt hE fuel a _ _ _ h
  | .loop a => fun x e x' h => by
    simp only [evCode] at h
    split at h
    · simp at h
    · exact (loopE_cnt (evCode_cnt hE fuel a) _ _ _ _ h).1
  | .exit id => fun x e x' h => by simp [evCode] at h; obtain ⟨_, rfl⟩ := h; exact Nat.le_refl _
  | .scope a => fun x e x' h => by simp only [evCode] at h; exact evCode_cnt hE fuel a _ _ _ h
  | .ret => fun x e x' h => by simp [evCode] at h; obtain ⟨_, rfl⟩ := h; exact Nat.le_refl _
/-- a piece of code does what plain data tells -/
def CodeOK (P : Program) (Gl : Gmap) (V : List Nat) (n base : Nat) (c : Code) (ev : Now → Option (MExit × Now)) : Prop :=
  ∀ (G : Ghost) (a : Act) (w : World) (x : Now) (e : MExit) (x' : Now), NowRel V G a x → n ≤ a.tmps.size → Sim G x.st w base → Full Gl G x.st → (∀ k, x.st.cnt ≤ k → G.B k = none) → ev x = some (e, x') → ∀ Q, Behind V n base G a w x x' (Q (exitOf e)) → c.wp P Q a w
theorem loop_sound {P : Program} {Gl : Gmap} {V : List Nat} {n base : Nat} {c : Code} {ev : Now → Option (MExit × Now)} (hcn : CntOK ev) (h : CodeOK P Gl V n base c ev) : ∀ (fuel : Nat) (G : Ghost) (a : Act) (w : World) (x : Now) (e : MExit) (x' : Now), NowRel V G a x → n ≤ a.tmps.size → Sim G x.st w base → Full Gl G x.st → (∀ k, x.st.cnt ≤ k → G.B k = none) →
    loopE ev fuel x = some (e, x') → ∀ Q, Behind V n base G a w x x' (Q (exitOf e)) → Code.rounds P c Q fuel a w
  | 0, G, a, w, x, e, x', _, _, _, _, _, he => by simp [loopE] at he
  | fuel + 1, G, a, w, x, e, x', hL, hn, hs, hfu, hk, he => by
    intro Q hQ
    show c.wp P (Exit.then (Code.rounds P c Q fuel) Q) a w
    simp only [loopE] at he
    split at he
    · rename_i x1 h1
      refine h G a w x .nrm x1 hL hn hs hfu hk h1 _ ?_
      intro a1 w1 G1 q1 q2 q3 q4 q5
      exact loop_sound hcn h fuel G1 a1 w1 x1 e x' q1 q2 q5.sim (q5.full hfu) (KInv.after hk (hcn _ _ _ h1) q5) he Q (hQ.trans q3 q4 q5 (loopE_cnt hcn _ _ _ _ he).1)
    · rename_i e1 x1 hne h1
      simp only [Option.some.injEq, Prod.mk.injEq] at he
      obtain ⟨rfl, rfl⟩ := he
      refine h G a w x _ _ hL hn hs hfu hk h1 _ ?_
      cases e1 with
      | nrm => exact absurd rfl hne
      | ex id => exact hQ
      | ret => exact hQ
    · simp at he
theorem code_sound {P : Program} {Gl : Gmap} {V : List Nat} {n : Nat} {modes : FuncId → Option Bool} {cfg : Cfg} (hcfg : CfgOK P Gl cfg) {callE : CallE} (hE : CallOK P Gl callE) (fuel base : Nat) : ∀ (c : Code) (m : MCode), cCode P V n modes c = some m → CodeOK P Gl V n base c (evCode cfg callE fuel m)
  | .skip, m, hm => by
    simp only [cCode, Option.some.injEq] at hm
    subst hm
    intro G a w x e x' hL hn hs hfu hk he Q hQ
    simp only [evCode, Option.some.injEq, Prod.mk.injEq] at he
    obtain ⟨rfl, rfl⟩ := he
    exact wp_skip (hQ a w G hL hn rfl (Nat.le_refl _) (Step.refl hs))
  | .label l, m, hm => by
    simp only [cCode, Option.some.injEq] at hm
    subst hm
    intro G a w x e x' hL hn hs hfu hk he Q hQ
    simp only [evCode, Option.some.injEq, Prod.mk.injEq] at he
    obtain ⟨rfl, rfl⟩ := he
    exact wp_label (hQ a w G hL hn rfl (Nat.le_refl _) (Step.refl hs))
  | .exit id, m, hm => by
    simp only [cCode, Option.some.injEq] at hm
    subst hm
    intro G a w x e x' hL hn hs hfu hk he Q hQ
    simp only [evCode, Option.some.injEq, Prod.mk.injEq] at he
    obtain ⟨rfl, rfl⟩ := he
    exact wp_exit (hQ a w G hL hn rfl (Nat.le_refl _) (Step.refl hs))
  | .ret, m, hm => by
    simp only [cCode, Option.some.injEq] at hm
    subst hm
    intro G a w x e x' hL hn hs hfu hk he Q hQ
    simp only [evCode, Option.some.injEq, Prod.mk.injEq] at he
    obtain ⟨rfl, rfl⟩ := he
    exact wp_ret (hQ a w G hL hn rfl (Nat.le_refl _) (Step.refl hs))
  | .seq p q, m, hm => by
    simp only [cCode, Option.bind_eq_bind, Option.bind_eq_some_iff, Option.some.injEq] at hm
    obtain ⟨m1, h1, m2, h2, rfl⟩ := hm
    intro G a w x e x' hL hn hs hfu hk he Q hQ
    simp only [evCode] at he
    refine wp_seq ?_
    split at he
    · rename_i x1 hx1
      refine code_sound hcfg hE fuel base p m1 h1 G a w x .nrm x1 hL hn hs hfu hk hx1 _ ?_
      intro a1 w1 G1 q1 q2 q3 q4 q5
      exact code_sound hcfg hE fuel base q m2 h2 G1 a1 w1 x1 e x' q1 q2 q5.sim (q5.full hfu) (KInv.after hk (evCode_cnt hE fuel m1 _ _ _ hx1) q5) he Q (hQ.trans q3 q4 q5 (evCode_cnt hE fuel m2 _ _ _ he))
    · rename_i hne
      refine code_sound hcfg hE fuel base p m1 h1 G a w x e x' hL hn hs hfu hk he _ ?_
      cases e with
      | nrm => exact absurd he (hne x')
      | ex id => exact hQ
      | ret => exact hQ
  | .cond c p q, m, hm => by
    simp only [cCode, Option.bind_eq_bind, Option.bind_eq_some_iff, Option.some.injEq] at hm
    obtain ⟨y, hy, m1, h1, m2, h2, rfl⟩ := hm
    intro G a w x e x' hL hn hs hfu hk he Q hQ
    simp only [evCode] at he
    have hloc : LocRel V G a { env := x.env, loc := .leaf, st := x.st } := ⟨hL, fun t _ => by
      have : Env.get (Trie.leaf : Env) t = .und := rfl
      rw [this]; exact .und _⟩
    have hv := hloc.eval hy
    split at he
    · rename_i b hb
      rw [hb] at hv
      obtain ⟨u, hu⟩ : ∃ u, a.eval c = u := ⟨_, rfl⟩
      rw [hu] at hv
      cases hv
      refine wp_cond hu ?_
      cases b
      · exact code_sound hcfg hE fuel base q m2 h2 G a w x e x' hL hn hs hfu hk (by simpa using he) Q hQ
      · exact code_sound hcfg hE fuel base p m1 h1 G a w x e x' hL hn hs hfu hk (by simpa using he) Q hQ
    · simp at he
  | .block id p, m, hm => by
    simp only [cCode, Option.bind_eq_bind, Option.bind_eq_some_iff, Option.some.injEq] at hm
    obtain ⟨m1, h1, rfl⟩ := hm
    intro G a w x e x' hL hn hs hfu hk he Q hQ
    simp only [evCode] at he
    refine wp_block ?_
    split at he
    · rename_i j x1 hx1
      refine code_sound hcfg hE fuel base p m1 h1 G a w x _ x1 hL hn hs hfu hk hx1 _ ?_
      intro a1 w1 G1 q1 q2 q3 q4 q5
      show (if j = id then Q .normal a1 w1 else Q (.exit j) a1 w1)
      by_cases hj : j = id
      · rw [if_pos hj] at he ⊢
        simp only [Option.some.injEq, Prod.mk.injEq] at he
        obtain ⟨rfl, rfl⟩ := he
        exact hQ a1 w1 G1 q1 q2 q3 q4 q5
      · rw [if_neg hj] at he ⊢
        simp only [Option.some.injEq, Prod.mk.injEq] at he
        obtain ⟨rfl, rfl⟩ := he
        exact hQ a1 w1 G1 q1 q2 q3 q4 q5
    · rename_i hne
      refine code_sound hcfg hE fuel base p m1 h1 G a w x e x' hL hn hs hfu hk he _ ?_
      cases e with
      | nrm => exact hQ
      | ex id' => exact absurd he (hne id' x')
      | ret => exact hQ
  | .loop p, m, hm => by
    simp only [cCode, Option.bind_eq_bind, Option.bind_eq_some_iff, Option.some.injEq] at hm
    obtain ⟨m1, h1, rfl⟩ := hm
    intro G a w x e x' hL hn hs hfu hk he Q hQ
    simp only [evCode] at he
    split at he
    · simp at he
    · exact wp_loop_rounds fuel (loop_sound (evCode_cnt hE fuel m1) (code_sound hcfg hE fuel base p m1 h1) fuel G a w x e x' hL hn hs hfu hk he Q hQ)
  | .scope p, m, hm => by
    simp only [cCode, Option.bind_eq_bind, Option.bind_eq_some_iff, Option.some.injEq] at hm
    obtain ⟨m1, h1, rfl⟩ := hm
    intro G a w x e x' hL hn hs hfu hk he Q hQ
    simp only [evCode] at he
    refine wp_scope_straight ?_
    refine code_sound hcfg hE fuel base p m1 h1 G a w x e x' hL hn hs hfu hk he _ ?_
    cases e <;> exact hQ
  | .region id ops draw, m, hm => by
    simp only [cCode] at hm
    intro G a w x e x' hL hn hs hfu hk he Q hQ
    split at hm
    · simp at hm
    rename_i ml hml
    split at hm
    · rename_i hdr
      subst hdr
      split at hm
      · rename_i hdo
        simp only [Bool.and_eq_true] at hdo
        obtain ⟨⟨hmx, _⟩, hdo⟩ := hdo
        simp only [Option.some.injEq] at hm
        subst hm
        simp only [evCode, evChain, Option.map_eq_some_iff, Prod.mk.injEq] at he
        obtain ⟨y, hy, rfl, rfl⟩ := he
        split at hy
        · rename_i tr z hz
          split at hy
          · rename_i hdyn0
            simp only [Bool.and_eq_true] at hdyn0
            obtain ⟨hdyn, hdyn2⟩ := hdyn0
            simp only [Option.some.injEq] at hy
            subst hy
            have hlen := (mapO_some hml).1
            have hlen2 : ml.length = ops.size := by simpa using hlen
            have hloc : LocRel V G a { env := x.env, loc := .leaf, st := { x.st with cnt := x.st.cnt + 8 * ml.length } } := ⟨hL, fun t _ => by
              have : Env.get (Trie.leaf : Env) t = .und := rfl
              rw [this]; exact .und _⟩
            have hs' : Sim G { x.st with cnt := x.st.cnt + 8 * ml.length } w.drew base := ⟨hs.bas, hs.frz, hs.cells, hs.frzd, hs.free, hs.inj, hs.low, hs.mps⟩
            refine wp_region_any hmx ?_
            change wpAny P .any ops _ ops.size _ a w.drew
            refine chain_sound (base := base) hcfg hE hml hdo hloc hn hs' hfu (key := x.st.cnt) (fun k hk' => hk k hk') (by simp only []; rw [hlen2]; exact Nat.le_refl _) hz hdyn hdyn2 ?_
            intro a' w' G' q1 q2 q3 q4 q5
            simp only [] at q4
            refine hQ a' w' G' q1.1 q2 q3 (by simp only []; omega) ?_
            refine ⟨q5.le, fun k y hy => ?_, q5.sim, q5.os, q5.tape, q5.output, q5.size, q5.kept, q5.own, q5.fnew, q5.ful⟩
            rcases q5.new k y hy with h | h
            · exact .inl h
            · exact .inr h
          · simp at hy
        · simp at hy
      split at hm
      · rename_i _ hdo
        simp only [Bool.and_eq_true] at hdo
        obtain ⟨hmx, hdo⟩ := hdo
        simp only [Option.some.injEq] at hm
        subst hm
        simp only [evCode, evRegion, Option.map_eq_some_iff, Prod.mk.injEq] at he
        obtain ⟨y, ⟨z, hz, rfl⟩, rfl, rfl⟩ := he
        have hlen := (mapO_some hml).1
        have hlen2 : (ml.map toQuiet).length = ops.size := by simpa using hlen
        have hloc : LocRel V G a { env := x.env, loc := .leaf, st := { x.st with cnt := x.st.cnt + 8 * (ml.map toQuiet).length } } := ⟨hL, fun t _ => by
          have : Env.get (Trie.leaf : Env) t = .und := rfl
          rw [this]; exact .und _⟩
        have hs' : Sim G { x.st with cnt := x.st.cnt + 8 * (ml.map toQuiet).length } w.drew base := ⟨hs.bas, hs.frz, hs.cells, hs.frzd, hs.free, hs.inj, hs.low, hs.mps⟩
        refine wp_region_any hmx ?_
        change wpAny P .any ops _ ops.size _ a w.drew
        refine draw_sound (base := base) hcfg hE hml hdo hloc hn hs' hfu (key := x.st.cnt) (fun k hk' => hk k hk') (by simp only []; rw [hlen2]; exact Nat.le_refl _) hz ?_
        intro a' w' G' q1 q2 q3 q4 q5
        simp only [] at q4
        refine hQ a' w' G' q1.1 q2 q3 (by simp only []; omega) ?_
        refine ⟨q5.le, fun k y hy => ?_, q5.sim, q5.os, q5.tape, q5.output, q5.size, q5.kept, q5.own, q5.fnew, q5.ful⟩
        rcases q5.new k y hy with h | h
        · exact .inl h
        · right; simp only []; rw [← q4, hlen2]; exact h
      · simp only [Option.some.injEq] at hm
        subst hm
        simp [evCode, evRegion, evOps, guardP, evOp] at he
    · rename_i hdr
      have hdr : draw = false := by simpa using hdr
      subst hdr
      simp only [Option.some.injEq] at hm
      subst hm
      simp only [evCode, evRegion, Option.map_eq_some_iff, Prod.mk.injEq] at he
      obtain ⟨y, ⟨z, hz, rfl⟩, rfl, rfl⟩ := he
      have hlen := (mapO_some hml).1
      have hloc : LocRel V G a { env := x.env, loc := .leaf, st := { x.st with cnt := x.st.cnt + 8 * ml.length } } := ⟨hL, fun t _ => by
        have : Env.get (Trie.leaf : Env) t = .und := rfl
        rw [this]; exact .und _⟩
      have hs' : Sim G { x.st with cnt := x.st.cnt + 8 * ml.length } w base := ⟨hs.bas, hs.frz, hs.cells, hs.frzd, hs.free, hs.inj, hs.low, hs.mps⟩
      refine wp_region ?_
      have hrange : List.range ops.size = List.range' 0 ops.toList.length := by rw [List.range_eq_range']; simp
      rw [hrange]
      refine ops_sound (base := base) hcfg hE ops.toList ml 0 (by simp) hml G a w _ z x.st.cnt (x.st.cnt + 8 * ml.length) hloc hn hs' hfu ?_ (by rw [hlen]; exact Nat.le_refl _) (Nat.le_refl _) hz ?_
      · intro k hk'
        refine hk k ?_
        rcases hk' with h | h
        · omega
        · simp only [] at h; omega
      · intro a' w' G' q1 q2 q3 q4 q5
        simp only [] at q4
        refine hQ a' w' G' q1.1 q2 q3 (by simp only []; omega) ?_
        refine ⟨q5.le, fun k y hy => ?_, q5.sim, q5.os, q5.tape, q5.output, q5.size, q5.kept, q5.own, q5.fnew, q5.ful⟩
        rcases q5.new k y hy with h | h | h
        · exact .inl h
        · right; simp only []; omega
        · right; simp only [] at h ⊢; omega
  | .rangeFunc .., m, hm => by simp [cCode] at hm
  | .goto _, m, hm => by simp [cCode] at hm
  | .refuse _, m, hm => by simp [cCode] at hm
end Go.Pe
