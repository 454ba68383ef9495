/-
  Each operation of plain data does what the model's does, fourth part: composite values, new rows, append, copy. No condition; nothing of the program.
-/
import Derived.Test.YtaepgkghgcchnaaPeR
set_option linter.unusedVariables false
set_option linter.unusedSimpArgs false
namespace Go.Pe
open Go Go.Am Go.RowKit
section
variable {P : Program} {V : List Nat} {base : Nat} {N : Nat → Prop} {G : Ghost} {st : St} {w : World}

theorem fold_cells (off : Nat) : ∀ (vs : List Value) (j : Nat) (cells : Array Value), off + j + vs.length ≤ cells.size →
    ((vs.zipIdx j).foldl (fun cs (x : Value × Nat) => cs.setIfInBounds (off + x.2) x.1) cells).toList = cells.toList.take (off + j) ++ vs ++ cells.toList.drop (off + j + vs.length)
  | [], j, cells, h => by simp
  | v :: r, j, cells, h => by
    simp only [List.zipIdx_cons, List.foldl_cons]
    rw [fold_cells off r (j + 1) (cells.setIfInBounds (off + j) v) (by simp at h ⊢; omega)]
    have ho : off + j < cells.toList.length := by simp at h ⊢; omega
    simp only [Array.toList_setIfInBounds, List.length_cons]
    have e1 : (cells.toList.set (off + j) v).take (off + (j + 1)) = cells.toList.take (off + j) ++ [v] := by
      rw [show off + (j + 1) = off + j + 1 by omega, List.take_succ_eq_append_getElem (by simpa using ho)]
      simp [List.take_set_of_le]
    have e2 : (cells.toList.set (off + j) v).drop (off + (j + 1) + r.length) = cells.toList.drop (off + j + (r.length + 1)) := by
      rw [List.drop_set_of_lt (by omega)]; congr 1; omega
    rw [e1, e2]; simp
/-- composite values: part by part -/
theorem fill_rel (place : Nat → Option (Nat × Nat)) : ∀ (parts : List (Nat × Value)) (ps : List (Nat × Nat × PV)) (cells : Array Value) (cs cs' : List PV), CRel G cells.toList cs →
    parts.length = ps.length → (∀ (i : Nat) (x : Nat × Value) (y : Nat × Nat × PV), parts[i]? = some x → ps[i]? = some y → place x.1 = some (y.1, y.2.1) ∧ VRel G x.2 y.2.2) → fillP cs ps = some cs' →
    ∃ cells', Instr.fill place cells parts = some cells' ∧ CRel G cells'.toList cs'
  | [], ps, cells, cs, cs', hc, hl, hp, hf => by
    cases ps with
    | cons y ps => simp at hl
    | nil => simp [fillP] at hf; subst hf; exact ⟨cells, rfl, hc⟩
  | (i, v) :: parts, ps, cells, cs, cs', hc, hl, hp, hf => by
    cases ps with
    | nil => simp at hl
    | cons y ps =>
      obtain ⟨off, n, p⟩ := y
      simp only [fillP] at hf
      split at hf
      · rename_i hcond
        obtain ⟨h1, h2, h3⟩ := hcond
        obtain ⟨hpl, hv⟩ := hp 0 _ _ rfl rfl
        simp only [] at hpl hv
        obtain ⟨hcv, _⟩ := hv.cells h3
        have hvl : v.cells.size = n := by have := hcv.1; simp at this; omega
        have hcl := hc.1
        have hfold := fold_cells off v.cells.toList 0 cells (by simp at hcl ⊢; omega)
        have e0 : (v.cells.zipIdx.foldl (fun cs (x : Value × Nat) => cs.setIfInBounds (off + x.2) x.1) cells).toList = cells.toList.take off ++ v.cells.toList ++ cells.toList.drop (off + n) := by
          rw [← Array.foldl_toList, Array.toList_zipIdx]
          simp only [Nat.add_zero] at hfold
          rw [hfold]; simp [hvl]
        obtain ⟨cells', g1, g2⟩ := fill_rel place parts ps (v.cells.zipIdx.foldl (fun cs (x : Value × Nat) => cs.setIfInBounds (off + x.2) x.1) cells) _ cs' (by rw [e0]; exact ((hc.take off).append hcv).append (hc.drop (off + n))) (by simpa using hl)
          (fun i x y hx hy => hp (i + 1) x y (by simpa using hx) (by simpa using hy)) hf
        refine ⟨cells', ?_, g2⟩
        simp only [Instr.fill, hpl]
        rw [if_neg (by simp at hcl; simp [hvl]; omega)]
        exact g1
      · simp at hf
theorem op_build_struct (hs : Sim G st w base) {t : TypeId} {fs : Array Field} (hu : P.underlying t = some (.struct fs)) {z : List PV} (hz : zeroT P t = some z) {parts : List (Nat × Value)} {ps : List (Nat × Nat × PV)} (hl : parts.length = ps.length)
    (hp : ∀ (i : Nat) (x : Nat × Value) (y : Nat × Nat × PV), parts[i]? = some x → ps[i]? = some y → (∃ f, fs[x.1]? = some f ∧ y.1 = f.offset ∧ sizeT P f.type = some y.2.1) ∧ VRel G x.2 y.2.2)
    (hall : ∀ f ∈ fs.toList, (sizeT P f.type).isSome) {cs : List PV} (hf : fillP z ps = some cs) : OpOK P base N G st w (do pure (.value (← Instr.build t parts.toArray))) (.agg cs) st := by
  obtain ⟨v, i, hi, hv, hlen, hc, hsz, _, hrun⟩ := zeroT_run (G := G) hz
  have hmap : (fs.mapM fun f => do pure (f.offset, ← sizeOf f.type) : Sem (Array (Nat × Nat))).run P w = .ok (fs.toList.map fun f => (f.offset, (sizeT P f.type).getD 0)).toArray w := by
    rw [Array.mapM_eq_mapM_toList]
    have : ∀ l : List Field, (∀ f ∈ l, (sizeT P f.type).isSome) → (l.mapM (fun f => Prod.mk f.offset <$> sizeOf f.type) : Sem (List (Nat × Nat))).run P w = .ok (l.map fun f => (f.offset, (sizeT P f.type).getD 0)) w := by
      intro l
      induction l with
      | nil => intro _; rfl
      | cons f l ih =>
        intro h
        obtain ⟨n, hn⟩ := Option.isSome_iff_exists.1 (h f List.mem_cons_self)
        simp [List.mapM_cons, sizeT_run hn, ih (fun g hg => h g (List.mem_cons_of_mem _ hg)), hn]
    simp [this _ hall]
  obtain ⟨cells', g1, g2⟩ := fill_rel (G := G) ((fs.toList.map fun f => (f.offset, (sizeT P f.type).getD 0)).toArray[·]?) parts ps v.cells z cs hc hl (fun i x y hx hy => by
    obtain ⟨⟨f, hf1, hf2, hf3⟩, hf4⟩ := hp i x y hx hy
    refine ⟨?_, hf4⟩
    have : fs.toList[x.1]? = some f := by simpa using hf1
    simp [this, hf2, hf3]) hf
  refine OpOK.same hs (v := .agg cells') ?_ (VRel.agg_c g2)
  simp only [Instr.build, Sem.run_bind, hrun, Result.andThen_ok, run_underlying hu, hmap, g1, Sem.run_pure]
theorem op_build_array (hs : Sim G st w base) {t e : TypeId} {n : Nat} (hu : P.underlying t = some (.array n e)) {z : List PV} (hz : zeroT P t = some z) {sz : Nat} (hn : sizeT P e = some sz) {parts : List (Nat × Value)} {ps : List (Nat × Nat × PV)} (hl : parts.length = ps.length)
    (hp : ∀ (i : Nat) (x : Nat × Value) (y : Nat × Nat × PV), parts[i]? = some x → ps[i]? = some y → y.1 = x.1 * sz ∧ y.2.1 = sz ∧ VRel G x.2 y.2.2)
    {cs : List PV} (hf : fillP z ps = some cs) : OpOK P base N G st w (do pure (.value (← Instr.build t parts.toArray))) (.agg cs) st := by
  obtain ⟨v, i, hi, hv, hlen, hc, hsz, _, hrun⟩ := zeroT_run (G := G) hz
  obtain ⟨cells', g1, g2⟩ := fill_rel (G := G) (fun i => some (i * sz, sz)) parts ps v.cells z cs hc hl (fun i x y hx hy => by
    obtain ⟨a, b, c⟩ := hp i x y hx hy
    exact ⟨by rw [a, b], c⟩) hf
  refine OpOK.same hs (v := .agg cells') ?_ (VRel.agg_c g2)
  simp only [Instr.build, Sem.run_bind, hrun, Result.andThen_ok, run_underlying hu, sizeT_run hn, g1, Sem.run_pure]
theorem flat_rel {z : Array Value} {cs : List PV} (hc : CRel G z.toList cs) (hp : 0 < z.size) : ∀ n, CRel G (madeCells z (n * z.size)).toList (List.flatten (List.replicate n cs)) := by
  have hl := hc.1
  have hlen : ∀ n, (List.flatten (List.replicate n cs)).length = n * z.size := by
    intro n; simp at hl; simp [hl]
  intro n
  refine ⟨by rw [hlen]; simp [madeCells], ?_⟩
  intro i v p hv hp2
  have hi : i < n * z.size := by
    have := (List.getElem?_eq_some_iff.1 hp2).1; rwa [hlen] at this
  have hv' : v = z[i % z.size]! := by
    have := (List.getElem?_eq_some_iff.1 hv).2
    simp [madeCells] at this; exact this.symm
  have him : i % z.size < z.size := Nat.mod_lt _ hp
  have hp3 : cs[i % z.size]? = some p := by
    rw [← hp2]
    clear hp2 hv hv'
    induction n generalizing i with
    | zero => simp at hi
    | succ n ih =>
      rw [List.replicate_succ, List.flatten_cons]
      simp at hl
      by_cases h : i < z.size
      · rw [List.getElem?_append_left (by omega), Nat.mod_eq_of_lt h]
      · rw [List.getElem?_append_right (by omega), ← hl]
        have e : i % z.size = (i - z.size) % z.size := by rw [Nat.mod_eq_sub_mod (by omega)]
        rw [e]
        exact ih (i := i - z.size) (by rw [Nat.succ_mul] at hi; omega) (Nat.mod_lt _ hp)
  rw [hv', getElem!_pos z _ him]
  exact hc.2 (i % z.size) _ p (by simp [him]) hp3
theorem op_bslice (hs : Sim G st w base) {t e : TypeId} (hu : P.underlying t = some (.slice e)) {sz : Nat} (hn : sizeT P e = some sz) {z : List PV} (hz : zeroT P e = some z) {len : Nat} (hlen : len * sz ≤ 16777216) (hsz : 0 < sz) {parts : List (Nat × Value)} {ps : List (Nat × Nat × PV)} (hl : parts.length = ps.length)
    (hp : ∀ (i : Nat) (x : Nat × Value) (y : Nat × Nat × PV), parts[i]? = some x → ps[i]? = some y → y.1 = x.1 * sz ∧ y.2.1 = sz ∧ VRel G x.2 y.2.2) {cs : List PV} (hf : fillP (List.flatten (List.replicate len z)) ps = some cs) (hcs : cs.length = len * sz) (key : Nat) (hN : N key) (hk : G.B key = none) :
    OpOK P base N G st w (do pure (.value (← Instr.buildSlice t len parts.toArray))) (.rsl key sz 0 len) (st.put key (some (.cells cs false))) := by
  obtain ⟨v, i, hi, hv, hlz, hc, hvs, _, hrun⟩ := zeroT_run (G := G) hz
  have his : i.size = sz := by
    obtain ⟨i', hi', hs'⟩ := Option.map_eq_some_iff.1 hn
    rw [hi] at hi'; simp at hi'; subst hi'; exact hs'
  have hflat := flat_rel hc (by omega) len
  rw [hvs, his] at hflat
  obtain ⟨cells', g1, g2⟩ := fill_rel (G := G) (fun i => some (i * sz, sz)) parts ps (madeCells v.cells (len * sz)) _ cs hflat hl (fun i x y hx hy => by
    obtain ⟨a, b, c⟩ := hp i x y hx hy
    exact ⟨by rw [a, b], c⟩) hf
  have hcl : cells'.size = len * sz := by have := g2.1; simp at this; omega
  obtain ⟨G', hB, hst⟩ := Step.alloc hs key hN hk cs cells' e (0, 0) (.inl rfl) (by omega) (by rw [List.take_of_length_le (by simp; omega)]; exact g2)
  refine ⟨.value (.slice (some ⟨w.heap.size, 0, none⟩) len len), _, G', ?_, .inl ⟨_, rfl, ?_⟩, hst⟩
  · have hb : ¬ len * sz > 2 ^ 24 := by omega
    simp only [Instr.buildSlice, Sem.run_bind, run_underlying hu, Result.andThen_ok, sizeT_run hn]
    rw [Sem.run_ite, if_neg hb]
    by_cases h0 : len * sz = 0
    · have e0 : ∀ z : Array Value, madeCells z 0 = #[] := by intro z; simp [madeCells]
      rw [h0, e0] at g1
      simp [h0, g1, newRow, Array.range_zero']
    · have hne : ¬ len * sz = 0 := h0
      simp only [madeCells] at g1
      simp [hne, hrun, g1, newRow]
  · refine .rsl key sz 0 len w.heap.size cells'.size len hB (Nat.le_refl _) ?_ (by omega) hsz
    have : len ≤ len * sz := Nat.le_mul_of_pos_right _ hsz
    unfold maxLen; omega
theorem op_mkslice (hs : Sim G st w base) {t e : TypeId} (hu : P.underlying t = some (.slice e)) {sz bytes : Nat} (hn : sizeT P e = some sz) (hby : bytesT P e = some bytes) {z : List PV} (hz : zeroT P e = some z) {n : Int} (h0 : 0 ≤ n) (h1 : n.toNat * bytes ≤ maxBytes) (h2 : 0 < bytes) (h3 : z.length = sz) (h4 : 0 < sz) (key : Nat) (hN : N key) (hk : G.B key = none) :
    OpOK P base N G st w (do pure (.value (← Instr.makeSlice t (.int .i64 n) (.int .i64 n)))) (.rsl key sz 0 n.toNat) (st.put key (some (.cells (List.flatten (List.replicate n.toNat z)) false))) := by
  obtain ⟨v, i, hi, hv, hlz, hc, hvs, _, hrun⟩ := zeroT_run (G := G) hz
  obtain ⟨i1, hi1, hs1⟩ := Option.map_eq_some_iff.1 hn
  obtain ⟨i2, hi2, hs2⟩ := Option.map_eq_some_iff.1 hby
  rw [hi] at hi1 hi2
  simp at hi1 hi2
  subst hi1
  subst hi2
  unfold maxBytes at h1
  have hb1 : n.toNat ≤ n.toNat * bytes := Nat.le_mul_of_pos_right _ h2
  have hbb : (i.bytes : Int) * n ≤ 281474976710656 := by
    obtain ⟨m, rfl⟩ := Int.eq_ofNat_of_zero_le h0
    rw [hs2]
    have : ((bytes * m : Nat) : Int) ≤ 281474976710656 := by simp at h1; rw [Nat.mul_comm]; omega
    rwa [Int.natCast_mul] at this
  have hr := run_make (P := P) w t e i v hu hi hv .i64 .i64 n n h0 (Int.le_refl _) hbb (by omega)
  have hflat := flat_rel hc (by omega) n.toNat
  rw [hvs] at hflat
  obtain ⟨G', hB, hst⟩ := Step.alloc hs key hN hk (List.flatten (List.replicate n.toNat z)) (madeCells v.cells (n.toNat * i.size)) e (0, 0) (.inl rfl) (by have := hflat.1; simp only [Array.length_toList] at this; omega) (by rw [List.take_of_length_le (by have := hflat.1; omega)]; exact hflat)
  refine ⟨.value (.slice (some ⟨w.heap.size, 0, none⟩) n.toNat n.toNat), _, G', by simp [hr], .inl ⟨_, rfl, ?_⟩, hst⟩
  exact .rsl key sz 0 n.toNat w.heap.size _ n.toNat hB (Nat.le_refl _) (by unfold maxLen; omega) (by simp [madeCells, hs1]) h4
end
end Go.Pe
