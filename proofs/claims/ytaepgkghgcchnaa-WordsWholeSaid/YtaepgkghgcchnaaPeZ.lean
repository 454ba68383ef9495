/-
  A call by value, among objects. No condition; nothing of the program.
-/
import Derived.Test.YtaepgkghgcchnaaPeY
set_option linter.unusedVariables false
set_option linter.unusedSimpArgs false
namespace Go.Pe
open Go Go.Am Go.RowKit

theorem St.get_range {st : St} {k : Nat} {x : PObj} (h : st.get k = some x) : True := trivial
theorem St.get_put_same {st : St} {k : Nat} (o : Option PObj) (h : True) : (st.put k o).get k = o := St.get_putk st k o
def PObj.froze : PObj → PObj
  | .cells cs _ => .cells cs true
  | o => o
theorem freezeK_eq : ∀ (ks : List Nat) (st : St) (k : Nat), (freezeK st ks).get k = if k ∈ ks then (st.get k).map PObj.froze else st.get k
  | [], st, k => by simp [freezeK]
  | k0 :: ks, st, k => by
    simp only [freezeK]
    rw [freezeK_eq ks]
    by_cases h0 : k0 = k
    · subst h0
      have e : (freeze1 st k0).get k0 = (st.get k0).map PObj.froze := by
        unfold freeze1
        split
        · rename_i cs z hg
          rw [St.get_put_same _ (St.get_range hg), hg]; rfl
        · rename_i hg
          cases hh : st.get k0 with
          | none => rfl
          | some o => cases o with
            | cells cs z => exact absurd hh (hg cs z)
            | map es => rfl
            | iter l p => rfl
      rw [e]
      simp only [List.mem_cons, true_or, if_true]
      split
      · cases st.get k0 with
        | none => rfl
        | some o => cases o <;> rfl
      · rfl
    · have e : (freeze1 st k0).get k = st.get k := by
        unfold freeze1
        split
        · exact St.get_put_ne h0
        · rfl
      rw [e]
      simp [show ¬ k = k0 from fun h => h0 h.symm]
theorem Sim.less {G : Ghost} {st st2 : St} {w : World} {base : Nat} (h : Sim G st w base) (hl : ∀ j x, st2.get j = some x → st.get j = some x) : Sim G st2 w base := by
  have hl' : ∀ j, (st2.get j).isSome → (st.get j).isSome := by
    intro j hj
    obtain ⟨x, hx⟩ := Option.isSome_iff_exists.1 hj
    rw [hl j x hx]; rfl
  exact ⟨h.bas, h.frz, fun k cs z b s hg => h.cells k cs z b s (hl _ _ hg), fun k cs b s hg => h.frzd k cs b s (hl _ _ hg), fun k cs b s hg => h.free k cs b s (hl _ _ hg),
    fun k k' x x' a b => h.inj k k' x x' (hl' _ a) (hl' _ b), fun k x a => h.low k x (hl' _ a), fun k es b s hg => h.mps k es b s (hl _ _ hg)⟩
theorem St.drop_less (st : St) (k : Nat) : ∀ j x, (st.put k none).get j = some x → j ≠ k ∧ st.get j = some x := by
  intro j x h
  rcases St.get_put h with ⟨_, e⟩ | ⟨hne, h'⟩
  · simp at e
  · exact ⟨fun e => hne e.symm, h'⟩
/-- into another world, with other frozen cells -/
theorem Sim.move {G : Ghost} {st : St} {w w' : World} {base : Nat} (h : Sim G st w base) {F' : Nat → Nat → Option Value} (hle : ∀ b o u, G.F b o = some u → F' b o = some u) (hF : ∀ b o u, F' b o = some u → w'.cell? ⟨b, o, none⟩ = some u) (hsz : w.heap.size ≤ w'.heap.size)
    (hk : ∀ k x, (st.get k).isSome → G.B k = some x → w'.heap[x.1]? = w.heap[x.1]?) (hfree : ∀ k cs x, st.get k = some (.cells cs false) → G.B k = some x → ∀ o, F' x.1 o = none) : Sim ⟨F', G.B⟩ st w' base := by
  have hG : G.le ⟨F', G.B⟩ := ⟨hle, fun _ _ h => h⟩
  refine ⟨Nat.le_trans h.bas hsz, hF, ?_, ?_, ?_, h.inj, ?_, ?_⟩
  rotate_right 1
  · intro k es b s hg hB
    obtain ⟨obj, g1, g2⟩ := h.mps k es b s hg hB
    exact ⟨obj, by rw [hk k (b, s) (by rw [hg]; rfl) hB]; exact g1, g2.mono hG⟩
  · intro k cs z b s hg hB
    obtain ⟨cur, ty, m, g1, g2, g3, g4, g5⟩ := h.cells k cs z b s hg hB
    exact ⟨cur, ty, m, by rw [hk k (b, s) (by rw [hg]; rfl) hB]; exact g1, g2, g3, g4, g5.mono hG⟩
  · intro k cs b s hg hB i hi
    obtain ⟨u, hu⟩ := h.frzd k cs b s hg hB i hi
    exact ⟨u, hle _ _ _ hu⟩
  · intro k cs b s hg hB
    exact hfree k cs (b, s) hg hB
  · intro k x a b
    have := h.low k x a b
    exact ⟨this.1, by omega⟩
/-- an object that was handed out -/
theorem Sim.adopt {G : Ghost} {st : St} {w : World} {base : Nat} (h : Sim G st w base) (key : Nat) (hk : G.B key = none) {v : Value} {blk sz n : Nat} {cs : List PV} (ho : OwnRel G.F w base v blk sz n cs) (hno : ∀ k x, (st.get k).isSome → G.B k = some x → x.1 ≠ blk) :
    ∃ size, VRel ⟨G.F, fun j => if j = key then some (blk, size) else G.B j⟩ v (.rsl key sz 0 n) ∧ Sim ⟨G.F, fun j => if j = key then some (blk, size) else G.B j⟩ (st.put key (some (.cells cs false))) w base := by
  obtain ⟨size, cap, cur, ty, m, rfl, h1, h2, h3, h4, h5, h6, h7, h8, h9, h10, h11⟩ := ho
  have hle : G.le ⟨G.F, fun j => if j = key then some (blk, size) else G.B j⟩ := ⟨fun _ _ _ h => h, fun k x hx => by show (if k = key then _ else G.B k) = _; rw [if_neg (by intro e; subst e; rw [hk] at hx; simp at hx)]; exact hx⟩
  have hBe : ∀ j x, (if j = key then some (blk, size) else G.B j) = some x → j ≠ key → G.B j = some x := fun j x hx hne => by rwa [if_neg hne] at hx
  have hgs : ∀ j, ((st.put key (some (PObj.cells cs false))).get j).isSome → j ≠ key → (st.get j).isSome := by
    intro j hj hne
    rwa [St.get_put_ne (fun e => hne e.symm)] at hj
  refine ⟨size, .rsl key sz 0 n blk size cap (by simp) h1 h2 (by omega) h4, h.bas, h.frz, ?_, ?_, ?_, ?_, ?_, ?_⟩
  rotate_right 1
  · intro k es b s hg hB
    by_cases e : k = key
    · subst e
      simp only [if_pos, Option.some.injEq, Prod.mk.injEq] at hB
      obtain ⟨rfl, rfl⟩ := hB
      rcases St.get_put hg with ⟨_, e⟩ | ⟨hne, _⟩
      · simp only [Option.some.injEq] at e
        subst e
        exact ⟨_, h5, trivial⟩
      · exact absurd rfl hne
    · rw [St.get_put_ne (fun e' => e e'.symm)] at hg
      obtain ⟨obj, g1, g2⟩ := h.mps k es b s hg (hBe k _ hB e)
      exact ⟨obj, g1, g2.mono hle⟩
  · intro k cs' z b s hg hB
    by_cases e : k = key
    · subst e
      rcases St.get_put hg with ⟨_, e⟩ | ⟨hne, _⟩
      · simp only [Option.some.injEq, PObj.cells.injEq] at e
        obtain ⟨rfl, rfl⟩ := e
        simp only [if_pos, Option.some.injEq, Prod.mk.injEq] at hB
        obtain ⟨rfl, rfl⟩ := hB
        exact ⟨cur, ty, m, h5, h6, h7, h8, FC.toC (G := ⟨G.F, _⟩) h9⟩
      · exact absurd rfl hne
    · rw [St.get_put_ne (fun e' => e e'.symm)] at hg
      obtain ⟨c0, t0, m0, g1, g2, g3, g4, g5⟩ := h.cells k cs' z b s hg (hBe k _ hB e)
      exact ⟨c0, t0, m0, g1, g2, g3, g4, g5.mono hle⟩
  · intro k cs' b s hg hB
    by_cases e : k = key
    · subst e
      rcases St.get_put hg with ⟨_, e⟩ | ⟨hne, _⟩
      · simp at e
      · exact absurd rfl hne
    · rw [St.get_put_ne (fun e' => e e'.symm)] at hg
      exact h.frzd k cs' b s hg (hBe k _ hB e)
  · intro k cs' b s hg hB
    by_cases e : k = key
    · subst e
      simp only [if_pos, Option.some.injEq, Prod.mk.injEq] at hB
      obtain ⟨rfl, rfl⟩ := hB
      exact h10
    · rw [St.get_put_ne (fun e' => e e'.symm)] at hg
      exact h.free k cs' b s hg (hBe k _ hB e)
  · intro i j x y hi hj hBi hBj e
    by_cases e1 : i = key
    · by_cases e2 : j = key
      · omega
      · simp only [if_pos e1, Option.some.injEq] at hBi
        subst hBi
        exact absurd e.symm (hno j y (hgs j hj e2) (hBe j y hBj e2))
    · by_cases e2 : j = key
      · simp only [if_pos e2, Option.some.injEq] at hBj
        subst hBj
        exact absurd e (hno i x (hgs i hi e1) (hBe i x hBi e1))
      · exact h.inj i j x y (hgs i hi e1) (hgs j hj e2) (hBe i x hBi e1) (hBe j y hBj e2) e
  · intro k x hg hB
    by_cases e : k = key
    · simp only [if_pos e, Option.some.injEq] at hB
      subst hB; exact ⟨h11, (Array.getElem?_eq_some_iff.1 h5).1⟩
    · exact h.low k x (hgs k hg e) (hBe k x hB e)
/-- what hangs on no frozen memory -/
theorem closed_rel {F F2 : Nat → Nat → Option Value} : ∀ (f : Nat) {v : Value} {p : PV}, p.closed f = true → FRel F v p → FRel F2 v p
  | 0, v, p, h, _ => by simp [PV.closed] at h
  | f + 1, v, p, h, hr => by
    cases hr with
    | und v => exact .und v
    | i k n => exact .i k n
    | b x => exact .b x
    | s l => exact .s l
    | nsl => exact .nsl
    | fnull a cap hm => exact .fnull a cap hm
    | nptr => exact .nptr
    | nfn => exact .nfn
    | nmp => exact .nmp
    | agg cs ps hl hh =>
      simp only [PV.closed, List.all_eq_true] at h
      exact .agg cs ps hl fun i v p hv hp => closed_rel f (h p (List.mem_of_getElem? hp)) (hh i v p hv hp)
    | tup cs ps hl hh =>
      simp only [PV.closed, List.all_eq_true] at h
      exact .tup cs ps hl fun i v p hv hp => closed_rel f (h p (List.mem_of_getElem? hp)) (hh i v p hv hp)
    | fsl b o n cap ps g hc hm hF hh =>
      simp only [PV.closed, Bool.and_eq_true, beq_iff_eq, List.isEmpty_iff] at h
      obtain ⟨rfl, rfl⟩ := h
      exact .fnull _ _ hm

theorem froze_some {o : Option PObj} (h : (o.map PObj.froze).isSome) : o.isSome := by simpa using h
theorem firstO_facts : ∀ {vs : List PV} {i sz n : Nat} {cs : List PV}, firstO vs = some (i, sz, n, cs) → vs[i]? = some (.osl sz n cs)
  | [], i, sz, n, cs, h => by simp [firstO] at h
  | v :: r, i, sz, n, cs, h => by
    simp only [firstO] at h
    split at h
    · rename_i x hx
      simp only [Option.some.injEq, Prod.mk.injEq] at h
      obtain ⟨rfl, rfl⟩ := h
      cases v <;> simp [PV.isO] at hx
      obtain ⟨rfl, rfl, rfl⟩ := hx
      rfl
    · simp only [Option.map_eq_some_iff, Prod.mk.injEq] at h
      obtain ⟨y, hy, rfl, hy2⟩ := h
      obtain ⟨j, z⟩ := y
      simp only [] at hy2
      subst hy2
      simpa using firstO_facts hy
theorem firstO_none : ∀ {vs : List PV}, firstO vs = none → ∀ p ∈ vs, p.isO = none
  | [], _, p, hp => by simp at hp
  | v :: r, h, p, hp => by
    simp only [firstO] at h
    split at h
    · simp at h
    · rename_i hv
      simp only [Option.map_eq_none_iff] at h
      rcases List.mem_cons.1 hp with rfl | hp
      · exact hv
      · exact firstO_none h p hp
theorem RRel1.toF {F : Nat → Nat → Option Value} {w : World} {base : Nat} {A : Nat → Prop} {v : Value} {p : PV} (h : RRel1 F w base A v p) (hp : p.isO = none) : FRel F v p := by
  cases p <;> first | exact h | simp [PV.isO] at hp
/-- behind a call: what was lent is had back, or frozen -/
theorem after_call {G G1 : Ghost} {st : St} {w w' : World} {base : Nat} (hs : Sim G st w base) {keys : List Nat} (hle : G.le G1) (hB1 : G1.B = G.B) (hs1 : Sim G1 (freezeK st keys) w base)
    (hnew1 : ∀ b o u, G1.F b o = some u → G.F b o = some u ∨ ∃ k size, k ∈ keys ∧ (st.get k).isSome ∧ G.B k = some (b, size)) {gk gv : Option Nat} (hg : (gk = none ∧ gv = none) ∨ ∃ k blk size cs, gk = some k ∧ gv = some blk ∧ st.get k = some (.cells cs false) ∧ G.B k = some (blk, size) ∧ k ∉ keys)
    {v : Value} {r : PV} {F' : Nat → Nat → Option Value} (hF1 : ∀ b o u, G1.F b o = some u → F' b o = some u) (hF2 : ∀ b o u, F' b o = some u → w'.cell? ⟨b, o, none⟩ = some u) (hos : w'.os = w.os) (hta : w'.tape = w.tape) (hou : w'.output = w.output) (hsz : w.heap.size ≤ w'.heap.size)
    (hkept : ∀ j, j < w.heap.size → some j ≠ gv → w'.heap[j]? = w.heap[j]?) (hfn : ∀ b o u, F' b o = some u → G1.F b o = some u ∨ w.heap.size ≤ b ∨ some b = gv) (hr : RRel F' w' base (fun b => w.heap.size ≤ b ∨ some b = gv) v r)
    {st1 : St} (hst1 : st1 = match gk with | none => st | some k => st.put k none) (key : Nat) (hkey : G.B key = none) {p : PV} {st' : St} (hrec : recvRes (if r.closedB then st1 else freezeK st1 keys) key r = some (p, st')) :
    ∃ G', VRel G' v p ∧ Step base (fun k => k = key) G st w G' st' w' := by
  -- the store without what was handed over
  have hless : ∀ j x, st1.get j = some x → st.get j = some x ∧ some j ≠ gk := by
    intro j x hx
    subst hst1
    cases gk with
    | none => exact ⟨hx, by simp⟩
    | some k =>
      obtain ⟨h1, h2⟩ := St.drop_less st k j x hx
      exact ⟨h2, by simpa using h1⟩
  have hblk : ∀ j x, (st1.get j).isSome → G.B j = some x → x.1 < w.heap.size ∧ some x.1 ≠ gv := by
    intro j x hj hB
    obtain ⟨y, hy⟩ := Option.isSome_iff_exists.1 hj
    obtain ⟨h1, h2⟩ := hless j y hy
    refine ⟨(hs.low j x (by rw [h1]; rfl) hB).2, ?_⟩
    rcases hg with ⟨_, rfl⟩ | ⟨k, blk, size, cs, rfl, rfl, h3, h4, _⟩
    · simp
    · intro e
      simp only [Option.some.injEq] at e
      exact h2 (by rw [hs.inj j k x (blk, size) (by rw [h1]; rfl) (by rw [h3]; rfl) hB h4 e])
  obtain ⟨F3, st2, hst2, hF31, hF32, hF33, hsim, hrel⟩ : ∃ (F3 : Nat → Nat → Option Value) (st2 : St), st2 = (if r.closedB then st1 else freezeK st1 keys) ∧ (∀ b o u, G.F b o = some u → F3 b o = some u) ∧
      (∀ b o u, F3 b o = some u → G.F b o = some u ∨ w.heap.size ≤ b ∨ ∃ k0 x0, (st.get k0).isSome ∧ G.B k0 = some x0 ∧ x0.1 = b) ∧ (∀ b o u, F3 b o = some u → F' b o = some u) ∧ Sim ⟨F3, G.B⟩ st2 w' base ∧ RRel F3 w' base (fun b => w.heap.size ≤ b ∨ some b = gv) v r := by
    have hown : ∀ b, some b = gv → ∃ k0 x0, (st.get k0).isSome ∧ G.B k0 = some x0 ∧ x0.1 = b := by
      intro b hb
      rcases hg with ⟨_, rfl⟩ | ⟨k, blk, size, cs, rfl, rfl, h3, h4, _⟩
      · simp at hb
      · simp only [Option.some.injEq] at hb
        exact ⟨k, (blk, size), by rw [h3]; rfl, h4, hb.symm⟩
    by_cases hcl : r.closedB = true
    · refine ⟨G.F, st1, by rw [if_pos hcl], fun _ _ _ h => h, fun _ _ _ h => .inl h, fun b o u h => hF1 b o u (hle.F b o u h), ?_, ?_⟩
      · refine (hs.less (fun j x h => (hless j x h).1)).move (fun _ _ _ h => h) (fun b o u h => hF2 b o u (hF1 b o u (hle.F b o u h))) hsz ?_ ?_
        · intro k x hk hB
          obtain ⟨h1, h2⟩ := hblk k x hk hB
          exact hkept x.1 h1 h2
        · intro k cs x hk hB o
          exact hs.free k cs x.1 x.2 (hless k _ hk).1 hB o
      · have hconv : ∀ (u : Value) (q : PV), q.closed 11 = true ∨ q.closed deepN = true → RRel1 F' w' base (fun b => w.heap.size ≤ b ∨ some b = gv) u q → RRel1 G.F w' base (fun b => w.heap.size ≤ b ∨ some b = gv) u q := by
          intro u q hq h
          cases q
          case osl sz n cs =>
            obtain ⟨blk, hA, size, cap, cur, ty, m, e1, h1, h2, h3, h4, h5, h6, h7, h8, h9, h10, h11⟩ := h
            refine ⟨blk, hA, size, cap, cur, ty, m, e1, h1, h2, h3, h4, h5, h6, h7, h8, ⟨h9.1, fun i u p hu hp => ?_⟩, ?_, h11⟩
            · rcases hq with hq | hq
              · simp only [PV.closed, List.all_eq_true] at hq
                exact closed_rel 10 (hq p (List.mem_of_getElem? hp)) (h9.2 i u p hu hp)
              · simp only [deepN, PV.closed, List.all_eq_true] at hq
                exact closed_rel 11 (hq p (List.mem_of_getElem? hp)) (h9.2 i u p hu hp)
            · intro o
              cases hx : G.F blk o with
              | none => rfl
              | some u =>
                have := hF1 blk o u (hle.F blk o u hx)
                rw [h10 o] at this; simp at this
          all_goals (rcases hq with hq | hq <;> exact closed_rel _ hq h)
        cases r
        case tup ps =>
          obtain ⟨us, rfl, h1, h2⟩ := hr
          refine ⟨us, rfl, h1, fun i u q hu hq => hconv u q (.inl ?_) (h2 i u q hu hq)⟩
          simp only [PV.closedB, deepN, PV.closed, List.all_eq_true] at hcl
          exact hcl q (List.mem_of_getElem? hq)
        all_goals exact hconv _ _ (.inr hcl) hr
    · refine ⟨F', freezeK st1 keys, by rw [if_neg hcl], fun b o u h => hF1 b o u (hle.F b o u h), ?_, fun _ _ _ h => h, ?_, hr⟩
      · intro b o u h
        rcases hfn b o u h with h1 | h1 | h1
        · rcases hnew1 b o u h1 with h2 | ⟨k, size, _, h3, h4⟩
          · exact .inl h2
          · exact .inr (.inr ⟨k, (b, size), h3, h4, rfl⟩)
        · exact .inr (.inl h1)
        · exact .inr (.inr (hown b h1))
      · have hl2 : ∀ j x, (freezeK st1 keys).get j = some x → (freezeK st keys).get j = some x := by
          intro j x hx
          rw [freezeK_eq] at hx ⊢
          split at hx
          · rename_i hj
            rw [if_pos hj]
            simp only [Option.map_eq_some_iff] at hx ⊢
            obtain ⟨y, hy, rfl⟩ := hx
            exact ⟨y, (hless j y hy).1, rfl⟩
          · rename_i hj
            rw [if_neg hj]
            exact (hless j x hx).1
        have hl3 : ∀ j, ((freezeK st1 keys).get j).isSome → (st1.get j).isSome := by
          intro j hj
          rw [freezeK_eq] at hj
          split at hj
          · exact froze_some hj
          · exact hj
        have := (hs1.less hl2).move (F' := F') hF1 hF2 hsz ?_ ?_
        · rw [hB1] at this; exact this
        · intro k x hk hB
          rw [hB1] at hB
          obtain ⟨h1, h2⟩ := hblk k x (hl3 k hk) hB
          exact hkept x.1 h1 h2
        · intro k cs x hk hB o
          cases hx : F' x.1 o with
          | none => rfl
          | some u =>
            have hB' := hB
            rw [hB1] at hB'
            obtain ⟨h1, h2⟩ := hblk k x (hl3 k (by rw [hk]; rfl)) hB'
            rcases hfn x.1 o u hx with h3 | h3 | h3
            · rw [hs1.free k cs x.1 x.2 (hl2 k _ hk) hB o] at h3; simp at h3
            · omega
            · exact absurd h3 h2
  rw [← hst2] at hrec
  have hs2some : ∀ j, (st2.get j).isSome → (st1.get j).isSome := by
    intro j hj
    rw [hst2] at hj
    split at hj
    · exact hj
    · rw [freezeK_eq] at hj
      split at hj
      · exact froze_some hj
      · exact hj
  have hs1some : ∀ j, (st1.get j).isSome → (st.get j).isSome := by
    intro j hj
    obtain ⟨y, hy⟩ := Option.isSome_iff_exists.1 hj
    rw [(hless j y hy).1]; rfl
  have hkept' : ∀ j, j < w.heap.size → (∀ k x, (st.get k).isSome → G.B k = some x → x.1 ≠ j) → w'.heap[j]? = w.heap[j]? := by
    intro j hj hno
    refine hkept j hj ?_
    rcases hg with ⟨_, rfl⟩ | ⟨k, blk, size, cs, rfl, rfl, h3, h4, _⟩
    · simp
    · intro e
      simp only [Option.some.injEq] at e
      exact hno k (blk, size) (by rw [h3]; rfl) h4 e.symm
  have hnomatch : ∀ blk, (w.heap.size ≤ blk ∨ some blk = gv) → ∀ k x, (st2.get k).isSome → G.B k = some x → x.1 ≠ blk := by
    intro blk hA k x hk hB e
    obtain ⟨h1, h2⟩ := hblk k x (hs2some k hk) hB
    rcases hA with h | h
    · omega
    · exact h2 (by rw [e]; exact h)
  have hAown : ∀ blk, (w.heap.size ≤ blk ∨ some blk = gv) → w.heap.size ≤ blk ∨ ∃ k0 x0, (st.get k0).isSome ∧ G.B k0 = some x0 ∧ x0.1 = blk := by
    intro blk hA
    rcases hA with h | h
    · exact .inl h
    · rcases hg with ⟨_, rfl⟩ | ⟨k, blk', size, cs, rfl, rfl, h3, h4, _⟩
      · simp at h
      · simp only [Option.some.injEq] at h
        exact .inr ⟨k, (blk', size), by rw [h3]; rfl, h4, h.symm⟩
  -- no new object
  have plainly : st' = st2 → ∃ _ : True, Step base (fun k => k = key) G st w ⟨F3, G.B⟩ st' w' := by
    rintro rfl
    exact ⟨trivial, ⟨hF31, fun _ _ h => h⟩, fun k x h => .inl h, hsim, hos, hta, hou, hsz, hkept', fun k x hk hB => .inr ⟨k, x, hs1some k (hs2some k hk), hB, rfl⟩, hF32, fun k hk => .inl (hs1some k (hs2some k hk))⟩
  -- a new object
  have newly : ∀ {u : Value} {sz n : Nat} {cs : List PV}, RRel1 F3 w' base (fun b => w.heap.size ≤ b ∨ some b = gv) u (.osl sz n cs) → st' = st2.put key (some (.cells cs false)) → ∃ G', (∀ b o u, F3 b o = some u → G'.F b o = some u) ∧ VRel G' u (.rsl key sz 0 n) ∧ Step base (fun k => k = key) G st w G' st' w' := by
    rintro u sz n cs ⟨blk, hA, ho⟩ rfl
    obtain ⟨size, h1, h2⟩ := hsim.adopt key hkey ho (hnomatch blk hA)
    refine ⟨_, fun _ _ _ h => h, h1, ⟨hF31, fun k x hx => ?_⟩, ?_, h2, hos, hta, hou, hsz, hkept', ?_, hF32, fun k hk => by
      by_cases e : k = key
      · right; simp [e]
      · rw [St.get_put_ne (fun e' => e e'.symm)] at hk; exact .inl (hs1some k (hs2some k hk))⟩
    · show (if k = key then _ else G.B k) = _
      rw [if_neg (by intro e; subst e; rw [hkey] at hx; simp at hx)]; exact hx
    · intro k x hx
      by_cases e : k = key
      · exact .inr e
      · left; simpa [e] using hx
    · intro k x hk hB
      by_cases e : k = key
      · simp only [if_pos e, Option.some.injEq] at hB
        subst hB
        exact hAown blk hA
      · rw [St.get_put_ne (fun e' => e e'.symm)] at hk
        have hB' : G.B k = some x := by simpa [e] using hB
        exact .inr ⟨k, x, hs1some k (hs2some k hk), hB', rfl⟩
  cases r
  case osl sz n cs =>
    simp only [recvRes, Option.some.injEq, Prod.mk.injEq] at hrec
    obtain ⟨rfl, hst'⟩ := hrec
    obtain ⟨G', _, h2, h3⟩ := newly hrel hst'.symm
    exact ⟨G', h2, h3⟩
  case tup ps =>
    obtain ⟨us, rfl, hl, hps⟩ := hrel
    simp only [recvRes] at hrec
    split at hrec
    · rename_i i sz n cs hfo
      split at hrec
      · rename_i hall
        simp only [Option.some.injEq, Prod.mk.injEq] at hrec
        obtain ⟨rfl, hst'⟩ := hrec
        have hi := firstO_facts hfo
        have hip : i < ps.length := (List.getElem?_eq_some_iff.1 hi).1
        have hiu : i < us.size := by omega
        obtain ⟨G', h1, h2, h3⟩ := newly (hps i us[i] _ (by simp [hiu]) hi) hst'.symm
        refine ⟨G', .tup us _ (by simp [hl]) ?_, h3⟩
        intro j u q hu hq
        by_cases hj : i = j
        · subst hj
          rw [List.getElem?_set_self hip] at hq
          simp only [Option.some.injEq] at hq
          subst hq
          have : u = us[i] := by simp [hiu] at hu; exact hu.symm
          rw [this]; exact h2
        · rw [List.getElem?_set_ne hj] at hq
          have hno : q.isO = none := by
            have := List.all_eq_true.1 hall q (List.mem_of_getElem? (by rw [List.getElem?_set_ne hj]; exact hq))
            simpa using this
          exact (((hps j u q hu hq).toF hno).mono h1).toV
      · simp at hrec
    · rename_i hfo
      simp only [Option.some.injEq, Prod.mk.injEq] at hrec
      obtain ⟨rfl, hst'⟩ := hrec
      obtain ⟨_, h3⟩ := plainly hst'.symm
      exact ⟨_, .tup us _ hl (fun j u q hu hq => FRel.toV (G := ⟨F3, G.B⟩) ((hps j u q hu hq).toF (firstO_none hfo q (List.mem_of_getElem? hq)))), h3⟩
  all_goals
    simp only [recvRes, Option.some.injEq, Prod.mk.injEq] at hrec
    obtain ⟨rfl, hst'⟩ := hrec
    obtain ⟨_, h3⟩ := plainly hst'.symm
    exact ⟨_, FRel.toV (G := ⟨F3, G.B⟩) hrel, h3⟩
end Go.Pe
