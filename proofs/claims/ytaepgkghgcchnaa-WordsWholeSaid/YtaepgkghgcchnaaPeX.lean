/-
  Freezing, and what is handed in and out by value. No condition; nothing of the program.
-/
import Derived.Test.YtaepgkghgcchnaaPeW
set_option linter.unusedVariables false
set_option linter.unusedSimpArgs false
namespace Go.Pe
open Go Go.Am Go.RowKit

/-- frozen cells one by one -/
def FC (F : Nat → Nat → Option Value) (vs : List Value) (ps : List PV) : Prop := vs.length = ps.length ∧ ∀ (i : Nat) (v : Value) (p : PV), vs[i]? = some v → ps[i]? = some p → FRel F v p
theorem FC.mono {F F' : Nat → Nat → Option Value} (hl : ∀ b o u, F b o = some u → F' b o = some u) {vs : List Value} {ps : List PV} (h : FC F vs ps) : FC F' vs ps := ⟨h.1, fun i v p a b => (h.2 i v p a b).mono hl⟩
theorem FC.toC {G : Ghost} {vs : List Value} {ps : List PV} (h : FC G.F vs ps) : CRel G vs ps := ⟨h.1, fun i v p a b => (h.2 i v p a b).toV⟩

theorem freezeK_get : ∀ (ks : List Nat) (st : St) {k : Nat} {x : PObj}, (freezeK st ks).get k = some x → st.get k = some x ∨ ∃ cs z, st.get k = some (.cells cs z) ∧ x = .cells cs true ∧ k ∈ ks
  | [], st, k, x, h => .inl h
  | k0 :: ks, st, k, x, h => by
    simp only [freezeK, freeze1] at h
    split at h
    · rename_i cs z hg
      rcases freezeK_get ks _ h with h1 | ⟨cs', z', h1, h2, h3⟩
      · rcases St.get_put h1 with ⟨rfl, e⟩ | ⟨hne, h1'⟩
        · simp only [Option.some.injEq] at e
          exact .inr ⟨cs, z, hg, e.symm, List.mem_cons_self⟩
        · exact .inl h1'
      · rcases St.get_put h1 with ⟨rfl, e⟩ | ⟨hne, h1'⟩
        · simp only [Option.some.injEq, PObj.cells.injEq] at e
          obtain ⟨rfl, rfl⟩ := e
          exact .inr ⟨cs, z, hg, h2, List.mem_cons_self⟩
        · exact .inr ⟨cs', z', h1', h2, List.mem_cons_of_mem _ h3⟩
    · rcases freezeK_get ks _ h with h1 | ⟨cs', z', h1, h2, h3⟩
      · exact .inl h1
      · exact .inr ⟨cs', z', h1, h2, List.mem_cons_of_mem _ h3⟩
theorem freezeK_free : ∀ (ks : List Nat) (st : St) {k : Nat} {cs : List PV}, (freezeK st ks).get k = some (.cells cs false) → st.get k = some (.cells cs false) ∧ k ∉ ks
  | [], st, k, cs, h => ⟨h, by simp⟩
  | k0 :: ks, st, k, cs, h => by
    simp only [freezeK, freeze1] at h
    split at h
    · rename_i cs0 z hg
      obtain ⟨h1, h2⟩ := freezeK_free ks _ h
      rcases St.get_put h1 with ⟨rfl, e⟩ | ⟨hne, h1'⟩
      · simp at e
      · exact ⟨h1', by simp [h2]; exact fun e => hne e.symm⟩
    · rename_i hg
      obtain ⟨h1, h2⟩ := freezeK_free ks _ h
      exact ⟨h1, by simp [h2]; rintro rfl; exact hg cs false h1⟩
theorem freezeK_cnt : ∀ (ks : List Nat) (st : St), (freezeK st ks).cnt = st.cnt
  | [], st => rfl
  | k :: ks, st => by
    simp only [freezeK]
    rw [freezeK_cnt ks]
    unfold freeze1
    split <;> rfl
section
variable {G : Ghost} {st : St} {w : World} {base : Nat}
/-- cells are frozen -/
theorem freeze_ex (hs : Sim G st w base) (keys : List Nat) : ∃ G' : Ghost, G.le G' ∧ G'.B = G.B ∧ Sim G' (freezeK st keys) w base ∧
    (∀ b o u, G'.F b o = some u → G.F b o = some u ∨ ∃ k size, k ∈ keys ∧ (st.get k).isSome ∧ G.B k = some (b, size)) ∧
    (∀ (f : Nat) (p p' : PV) (v : Value), (∀ k ∈ keysP st f p, k ∈ keys) → VRel G v p → deep st f p = some p' → FRel G'.F v p') := by
  classical
  obtain ⟨G', hGF, hGB⟩ : ∃ G' : Ghost, (∀ b o, G'.F b o = if ∃ k cs z size, k ∈ keys ∧ st.get k = some (.cells cs z) ∧ G.B k = some (b, size) ∧ o < cs.length then w.cell? ⟨b, o, none⟩ else G.F b o) ∧ G'.B = G.B :=
    ⟨{ F := fun b o => if ∃ k cs z size, k ∈ keys ∧ st.get k = some (.cells cs z) ∧ G.B k = some (b, size) ∧ o < cs.length then w.cell? ⟨b, o, none⟩ else G.F b o, B := G.B }, fun _ _ => rfl, rfl⟩
  have hF : ∀ b o u, G'.F b o = some u → w.cell? ⟨b, o, none⟩ = some u := by
    intro b o u h
    rw [hGF] at h
    split at h
    · exact h
    · exact hs.frz b o u h
  have hle : G.le G' := by
    refine ⟨fun b o u h => ?_, fun _ _ h => by rw [hGB]; exact h⟩
    rw [hGF]
    split
    · exact hs.frz b o u h
    · exact h
  have hsome : ∀ k, ((freezeK st keys).get k).isSome → (st.get k).isSome := by
    intro k hk
    obtain ⟨x, hx⟩ := Option.isSome_iff_exists.1 hk
    rcases freezeK_get keys st hx with h | ⟨cs, z, h, _⟩ <;> rw [h] <;> rfl
  refine ⟨G', hle, hGB, ?_, ?_, ?_⟩
  · refine ⟨hs.bas, hF, ?_, ?_, ?_, ?_, ?_, ?_⟩
    rotate_right 1
    · intro k es blk size hg hB
      rw [hGB] at hB
      rcases freezeK_get keys st hg with h | ⟨cs', z', h, e, _⟩
      · obtain ⟨obj, g1, g2⟩ := hs.mps k es blk size h hB
        exact ⟨obj, g1, g2.mono hle⟩
      · subst e
        obtain ⟨obj, g1, _⟩ := hs.mps k _ blk size h hB
        exact ⟨obj, g1, trivial⟩
    · intro k cs z blk size hg hB
      rw [hGB] at hB
      rcases freezeK_get keys st hg with h | ⟨cs', z', h, e, _⟩
      · obtain ⟨cur, ty, m, g1, g2, g3, g4, g5⟩ := hs.cells k cs z blk size h hB
        exact ⟨cur, ty, m, g1, g2, g3, g4, g5.mono hle⟩
      · simp only [PObj.cells.injEq] at e
        obtain ⟨rfl, rfl⟩ := e
        obtain ⟨cur, ty, m, g1, g2, g3, g4, g5⟩ := hs.cells k _ z' blk size h hB
        exact ⟨cur, ty, m, g1, g2, g3, g4, g5.mono hle⟩
    · intro k cs blk size hg hB i hi
      rw [hGB] at hB
      rcases freezeK_get keys st hg with h | ⟨cs', z', h, e, hk⟩
      · obtain ⟨u, hu⟩ := hs.frzd k cs blk size h hB i hi
        exact ⟨u, hle.F _ _ _ hu⟩
      · simp only [PObj.cells.injEq] at e
        obtain ⟨rfl, _⟩ := e
        obtain ⟨cur, h1, h2, h3, h4⟩ := hs.get_cell h hB
        refine ⟨cur.getD i undef, ?_⟩
        rw [hGF, if_pos ⟨k, cs, z', size, hk, h, hB, hi⟩]
        exact (h4 i (by omega)).1
    · intro k cs blk size hg hB o
      rw [hGB] at hB
      obtain ⟨h, hk⟩ := freezeK_free keys st hg
      rw [hGF, if_neg]
      · exact hs.free k cs blk size h hB o
      · rintro ⟨k2, cs2, z2, s2, hk2, h2, hB2, _⟩
        have := hs.inj k k2 (blk, size) (blk, s2) (by rw [h]; rfl) (by rw [h2]; rfl) hB hB2 rfl
        subst this
        exact hk hk2
    · intro k k' x x' hk hk'
      rw [hGB]
      exact hs.inj k k' x x' (hsome k hk) (hsome k' hk')
    · intro k x hk
      rw [hGB]
      exact hs.low k x (hsome k hk)
  · intro b o u h
    by_cases hc : ∃ k cs z size, k ∈ keys ∧ st.get k = some (.cells cs z) ∧ G.B k = some (b, size) ∧ o < cs.length
    · obtain ⟨k, cs, z, size, h1, h2, h3, _⟩ := hc
      exact .inr ⟨k, size, h1, by rw [h2]; rfl, h3⟩
    · left
      rw [hGF, if_neg hc] at h
      exact h
  · intro f
    induction f with
    | zero => intro p p' v _ _ h; simp [deep] at h
    | succ f ih =>
      intro p p' v hk hv hd
      have hlist : ∀ (vs : List Value) (ps ps' : List PV), CRel G vs ps → (∀ q ∈ ps, ∀ k ∈ keysP st f q, k ∈ keys) → mapO (deep st f) ps = some ps' → FC G'.F vs ps' := by
        intro vs ps ps' hc hkk hm
        obtain ⟨h1, h2⟩ := mapO_some hm
        refine ⟨by rw [h1]; exact hc.1, fun i u q hu hq => ?_⟩
        have hi : i < ps.length := by rw [← h1]; exact (List.getElem?_eq_some_iff.1 hq).1
        exact ih ps[i] q u (hkk _ (List.getElem_mem _)) (hc.2 i u ps[i] hu (List.getElem?_eq_getElem hi)) (h2 i ps[i] q (List.getElem?_eq_getElem hi) hq)
      cases hv with
      | und v => simp [deep] at hd; subst hd; exact .und v
      | i k n => simp [deep] at hd; subst hd; exact .i k n
      | b x => simp [deep] at hd; subst hd; exact .b x
      | s l => simp [deep] at hd; subst hd; exact .s l
      | nsl => simp [deep] at hd; subst hd; exact .nsl
      | fnull a cap hm => simp [deep] at hd; subst hd; exact .fnull a cap hm
      | fsl b o n cap ps g hc hm hFF h => simp [deep] at hd; subst hd; exact .fsl b o n cap ps g hc hm (fun i hi => hle.F _ _ _ (hFF i hi)) (fun i q hq => (h i q hq).mono hle.F)
      | nptr => simp [deep] at hd; subst hd; exact .nptr
      | nfn => simp [deep] at hd; subst hd; exact .nfn
      | nmp => simp [deep] at hd; subst hd; exact .nmp
      | ptr => simp [deep] at hd
      | fptr => simp [deep] at hd
      | fn => simp [deep] at hd
      | bfn => simp [deep] at hd
      | mp => simp [deep] at hd
      | agg cs ps hl h =>
        simp only [deep, Option.map_eq_some_iff] at hd
        obtain ⟨ps', hm, rfl⟩ := hd
        have := hlist cs.toList ps ps' ⟨by simpa using hl, fun i v p hv hp => h i v p (by simpa using hv) hp⟩ (fun q hq k hk' => hk k (by simp only [keysP]; exact List.mem_flatMap.2 ⟨q, hq, hk'⟩)) hm
        exact .agg cs ps' (by simpa using this.1) fun i v p hv hp => this.2 i v p (by simpa using hv) hp
      | tup cs ps hl h =>
        simp only [deep, Option.map_eq_some_iff] at hd
        obtain ⟨ps', hm, rfl⟩ := hd
        have := hlist cs.toList ps ps' ⟨by simpa using hl, fun i v p hv hp => h i v p (by simpa using hv) hp⟩ (fun q hq k hk' => hk k (by simp only [keysP]; exact List.mem_flatMap.2 ⟨q, hq, hk'⟩)) hm
        exact .tup cs ps' (by simpa using this.1) fun i v p hv hp => this.2 i v p (by simpa using hv) hp
      | rsl k sz off n blk size cap hB hc hm hz hz0 =>
        simp only [deep] at hd
        split at hd
        · rename_i cs z hg
          split at hd
          · rename_i l hl
            simp only [Option.map_eq_some_iff] at hd
            obtain ⟨l', hm', rfl⟩ := hd
            unfold cut? at hl
            split at hl
            · rename_i hfit
              simp only [Option.some.injEq] at hl
              subst hl
              obtain ⟨cur, h1, h2, h3, h4⟩ := hs.get_cell hg hB
              have hkk : ∀ q ∈ cs, ∀ k' ∈ keysP st f q, k' ∈ keys := fun q hq k' hk' => hk k' (by simp only [keysP, hg]; exact List.mem_cons_of_mem _ (List.mem_flatMap.2 ⟨q, hq, hk'⟩))
              have hkm : k ∈ keys := hk k (by simp only [keysP]; exact List.mem_cons_self)
              have hfc := hlist (((cur.take cs.length).drop off).take (n * sz)) ((cs.drop off).take (n * sz)) l' ((h3.drop off).take _) (fun q hq => hkk q (List.mem_of_mem_drop (List.mem_of_mem_take hq))) hm'
              have hll : l'.length = n * sz := by rw [← hfc.1]; simp; omega
              refine .fsl blk off n cap l' (fun i => cur.getD (off + i) undef) hc hm ?_ ?_
              · intro i hi
                rw [hGF, if_pos ⟨k, cs, z, size, hkm, hg, hB, by omega⟩]
                exact (h4 (off + i) (by omega)).1
              · intro i q hq
                have hi : i < l'.length := (List.getElem?_eq_some_iff.1 hq).1
                refine hfc.2 i (cur.getD (off + i) undef) q ?_ hq
                rw [List.getElem?_take, if_pos (by omega), List.getElem?_drop, List.getElem?_take, if_pos (by omega)]
                have : off + i < cur.length := by omega
                simp [List.getD, this]
            · simp at hl
          · simp at hd
        · simp at hd
theorem deepL_rel {G' : Ghost} {keys : List Nat} (hd : ∀ (f : Nat) (p p' : PV) (v : Value), (∀ k ∈ keysP st f p, k ∈ keys) → VRel G v p → deep st f p = some p' → FRel G'.F v p') {vs : List Value} {ps ps' : List PV} (hc : CRel G vs ps) (hk : ∀ k ∈ keysL st ps, k ∈ keys) (hm : deepL st ps = some ps') : FC G'.F vs ps' := by
  obtain ⟨h1, h2⟩ := mapO_some hm
  refine ⟨by rw [h1]; exact hc.1, fun i u q hu hq => ?_⟩
  have hi : i < ps.length := by rw [← h1]; exact (List.getElem?_eq_some_iff.1 hq).1
  exact hd deepN ps[i] q u (fun k hk' => hk k (List.mem_flatMap.2 ⟨ps[i], List.getElem_mem _, hk'⟩)) (hc.2 i u ps[i] hu (List.getElem?_eq_getElem hi)) (h2 i ps[i] q (List.getElem?_eq_getElem hi) hq)
end
/-- a slice that is handed over: its block -/
def OwnRel (F : Nat → Nat → Option Value) (w : World) (base : Nat) (v : Value) (blk sz n : Nat) (cs : List PV) : Prop :=
  ∃ (size cap : Nat) (cur : Array Value) (ty : TypeId) (m : Nat × Nat), v = .slice (some ⟨blk, 0, none⟩) n cap ∧ n ≤ cap ∧ cap ≤ maxLen ∧ cap * sz ≤ size ∧ 0 < sz ∧ w.heap[blk]? = some (.cells cur ty m) ∧ Free m cur.size ∧ cur.size = size ∧ cs.length ≤ size ∧
    FC F (cur.toList.take cs.length) cs ∧ (∀ o, F blk o = none) ∧ base ≤ blk
/-- what is handed in by value -/
def ARel (F : Nat → Nat → Option Value) (w : World) (base : Nat) (vs : List Value) (args : List PV) (g : Option Nat) : Prop :=
  match args with
  | .osl sz n cs :: rest => ∃ v vs' blk, vs = v :: vs' ∧ OwnRel F w base v blk sz n cs ∧ FC F vs' rest ∧ g = some blk
  | l => FC F vs l ∧ g = none
/-- what is handed out by value -/
def RRel1 (F : Nat → Nat → Option Value) (w : World) (base : Nat) (A : Nat → Prop) (v : Value) (p : PV) : Prop :=
  match p with
  | .osl sz n cs => ∃ blk, A blk ∧ OwnRel F w base v blk sz n cs
  | p => FRel F v p
def RRel (F : Nat → Nat → Option Value) (w : World) (base : Nat) (A : Nat → Prop) (v : Value) (r : PV) : Prop :=
  match r with
  | .tup ps => ∃ us : Array Value, v = .tuple us ∧ us.size = ps.length ∧ ∀ (i : Nat) (u : Value) (p : PV), us[i]? = some u → ps[i]? = some p → RRel1 F w base A u p
  | p => RRel1 F w base A v p
/-- a function by value -/
def PureOK (P : Program) (Gl : Gmap) (f : FuncId) (g : List PV → Option PV) : Prop :=
  ∀ args r, g args = some r → ∀ (F : Nat → Nat → Option Value) (w : World) (base : Nat) (vs : List Value) (gv : Option Nat), (∀ b o u, F b o = some u → w.cell? ⟨b, o, none⟩ = some u) → (∀ b o u, Gl b o = some u → F b o = some u) → base ≤ w.heap.size → ARel F w base vs args gv →
    Calls P f vs.toArray w fun e w' => ∃ v F', e = .returned v ∧ (∀ b o u, F b o = some u → F' b o = some u) ∧ (∀ b o u, F' b o = some u → w'.cell? ⟨b, o, none⟩ = some u) ∧ w'.os = w.os ∧ w'.tape = w.tape ∧ w'.output = w.output ∧ w.heap.size ≤ w'.heap.size ∧
      (∀ j, j < w.heap.size → some j ≠ gv → w'.heap[j]? = w.heap[j]?) ∧ (∀ b o u, F' b o = some u → F b o = some u ∨ w.heap.size ≤ b ∨ some b = gv) ∧ RRel F' w' base (fun b => w.heap.size ≤ b ∨ some b = gv) v r
/-- a function among objects -/
def CallOK (P : Program) (Gl : Gmap) (callE : CallE) : Prop :=
  ∀ f args st r st', callE f args st = some (r, st') → hasBody P f = true ∧ st.cnt ≤ st'.cnt ∧ ∀ G w base vs, Sim G st w base → Full Gl G st → CRel G vs args → (∀ k, st.cnt ≤ k → G.B k = none) →
    Calls P f vs.toArray w fun e w' => ∃ v G', e = .returned v ∧ VRel G' v r ∧ Step base (fun k => st.cnt ≤ k ∧ k < st'.cnt) G st w G' st' w'
end Go.Pe
