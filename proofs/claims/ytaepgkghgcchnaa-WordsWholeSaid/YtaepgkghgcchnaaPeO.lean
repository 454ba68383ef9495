/-
  The steps of plain data: a new object, a store into one, an append onto one. No condition; nothing of the program.
-/
import Derived.Test.YtaepgkghgcchnaaPeS
set_option linter.unusedVariables false
set_option linter.unusedSimpArgs false
namespace Go.Pe
open Go Go.Am Go.RowKit

theorem setCells_facts (b : Nat) : ∀ (vs : List Value) (o : Nat) (w : World) (cur : Array Value) (ty : TypeId) (m : Nat × Nat), w.heap[b]? = some (.cells cur ty m) → o + vs.length ≤ cur.size →
    (∃ cur', (w.setCells b o vs).heap[b]? = some (.cells cur' ty m) ∧ cur'.toList = cur.toList.take o ++ vs ++ cur.toList.drop (o + vs.length)) ∧ (w.setCells b o vs).heap.size = w.heap.size ∧
    (∀ j, j ≠ b → (w.setCells b o vs).heap[j]? = w.heap[j]?) ∧ (w.setCells b o vs).os = w.os ∧ (w.setCells b o vs).tape = w.tape ∧ (w.setCells b o vs).output = w.output
  | [], o, w, cur, ty, m, h, hl => ⟨⟨cur, h, by simp⟩, rfl, fun _ _ => rfl, rfl, rfl, rfl⟩
  | v :: r, o, w, cur, ty, m, h, hl => by
    have hlt : b < w.heap.size := (Array.getElem?_eq_some_iff.1 h).1
    have h2 : w.heap[b] = .cells cur ty m := by simpa [Array.getElem?_eq_getElem hlt] using h
    have h1 : (w.setCell ⟨b, o, none⟩ v).heap[b]? = some (.cells (cur.setIfInBounds o v) ty m) := by
      show (w.heap.modify b _)[b]? = _
      rw [Array.getElem?_eq_getElem (by simpa using hlt), Array.getElem_modify_self, h2]
      simp
    obtain ⟨⟨cur', g1, g2⟩, g3, g4, g5, g6, g7⟩ := setCells_facts b r (o + 1) (w.setCell ⟨b, o, none⟩ v) (cur.setIfInBounds o v) ty m h1 (by simp at hl ⊢; omega)
    refine ⟨⟨cur', g1, ?_⟩, ?_, ?_, g5, g6, g7⟩
    · rw [g2]
      have ho : o < cur.toList.length := by simp at hl ⊢; omega
      simp only [Array.toList_setIfInBounds, List.length_cons]
      have e1 : (cur.toList.set o v).take (o + 1) = cur.toList.take o ++ [v] := by
        rw [List.take_succ_eq_append_getElem (by simpa using ho)]
        simp [List.take_set_of_le]
      have e2 : (cur.toList.set o v).drop (o + 1 + r.length) = cur.toList.drop (o + (r.length + 1)) := by
        rw [List.drop_set_of_lt (by omega)]; congr 1; omega
      rw [e1, e2]; simp
    · rw [World.setCells, g3]; simp
    · intro j hj
      rw [World.setCells, g4 j hj]
      exact Below.heap_setCell _ _ _ _ (by simpa using hj)

theorem Sim.noF {G : Ghost} {st : St} {w : World} {base : Nat} (h : Sim G st w base) {b : Nat} (hb : w.heap.size ≤ b) (o : Nat) : G.F b o = none := by
  cases hx : G.F b o with
  | none => rfl
  | some u =>
    have := World.block_lt_of_cell? w ⟨b, o, none⟩ (h.frz b o u hx)
    simp at this; omega

/-- a new object -/
theorem Step.alloc {base : Nat} {N : Nat → Prop} {G : Ghost} {st : St} {w : World} (h : Sim G st w base) (key : Nat) (hN : N key) (hk : G.B key = none) (cs : List PV) (cur : Array Value) (ty : TypeId) (m : Nat × Nat)
    (hf : Free m cur.size) (hc : cs.length ≤ cur.size) (hr : CRel G (cur.toList.take cs.length) cs) :
    ∃ G', G'.B key = some (w.heap.size, cur.size) ∧ Step base N G st w G' (st.put key (some (.cells cs false))) (w.alloc (.cells cur ty m)) := by
  have hle : G.le { G with B := fun k => if k = key then some (w.heap.size, cur.size) else G.B k } :=
    ⟨fun _ _ _ h => h, fun k x hx => by show (if k = key then _ else G.B k) = _; rw [if_neg (by intro e; subst e; rw [hk] at hx; simp at hx)]; exact hx⟩
  refine ⟨{ G with B := fun k => if k = key then some (w.heap.size, cur.size) else G.B k }, by simp, hle, ?_, ?_, rfl, rfl, rfl, by simp, ?_, ?_, fun _ _ _ h => .inl h, fun k hk => by
    by_cases e : k = key
    · subst e; right; simp
    · rw [St.get_put_ne (fun e' => e e'.symm)] at hk; exact .inl hk⟩
  · intro k x hx
    by_cases e : k = key
    · subst e; exact .inr hN
    · left; simpa [e] using hx
  · refine ⟨by simp; have := h.bas; omega, ?_, ?_, ?_, ?_, ?_, ?_, ?_⟩
    · intro b o u hu
      have h1 := h.frz b o u hu
      have h2 := World.block_lt_of_cell? w _ h1
      rw [World.cell?_of_block (heap_alloc_old w _ h2)]; exact h1
    · intro k cs' z blk size hg hB
      rcases St.get_put hg with ⟨rfl, e⟩ | ⟨hne, hg'⟩
      · simp only [Option.some.injEq, PObj.cells.injEq] at e
        obtain ⟨rfl, rfl⟩ := e
        simp only [if_pos, Option.some.injEq, Prod.mk.injEq] at hB
        obtain ⟨rfl, rfl⟩ := hB
        exact ⟨cur, ty, m, heap_alloc_new w _, hf, rfl, hc, hr.mono hle⟩
      · have hB' : G.B k = some (blk, size) := by simpa [show k ≠ key from fun e => hne e.symm] using hB
        obtain ⟨cur0, ty0, m0, g1, g2, g3, g4, g5⟩ := h.cells k cs' z blk size hg' hB'
        exact ⟨cur0, ty0, m0, by rw [heap_alloc_old w _ (Array.getElem?_eq_some_iff.1 g1).1]; exact g1, g2, g3, g4, g5.mono hle⟩
    · intro k cs' blk size hg hB
      rcases St.get_put hg with ⟨rfl, e⟩ | ⟨hne, hg'⟩
      · simp at e
      · have hB' : G.B k = some (blk, size) := by simpa [show k ≠ key from fun e => hne e.symm] using hB
        exact h.frzd k cs' blk size hg' hB'
    · intro k cs' blk size hg hB
      rcases St.get_put hg with ⟨rfl, e⟩ | ⟨hne, hg'⟩
      · simp only [if_pos, Option.some.injEq, Prod.mk.injEq] at hB
        obtain ⟨rfl, rfl⟩ := hB
        exact h.noF (Nat.le_refl _)
      · have hB' : G.B k = some (blk, size) := by simpa [show k ≠ key from fun e => hne e.symm] using hB
        exact h.free k cs' blk size hg' hB'
    · intro k k' x x' hg hg' hB hB' e
      have hlow : ∀ k x, k ≠ key → ((st.put key (some (.cells cs false))).get k).isSome → (if k = key then some (w.heap.size, cur.size) else G.B k) = some x → (st.get k).isSome ∧ G.B k = some x ∧ x.1 < w.heap.size := by
        intro k x hne hg hB
        rw [St.get_put_ne (fun e => hne e.symm)] at hg
        rw [if_neg hne] at hB
        exact ⟨hg, hB, (h.low k x hg hB).2⟩
      by_cases e1 : k = key
      · by_cases e2 : k' = key
        · omega
        · have := hlow k' x' e2 hg' hB'
          simp only [if_pos e1, Option.some.injEq] at hB
          subst hB; simp at e; omega
      · have h1 := hlow k x e1 hg hB
        by_cases e2 : k' = key
        · simp only [if_pos e2, Option.some.injEq] at hB'
          subst hB'; simp at e; omega
        · have h2 := hlow k' x' e2 hg' hB'
          exact h.inj k k' x x' h1.1 h2.1 h1.2.1 h2.2.1 e
    · intro k x hg hB
      by_cases e1 : k = key
      · simp only [if_pos e1, Option.some.injEq] at hB
        subst hB; have := h.bas; simp; exact this
      · rw [St.get_put_ne (fun e => e1 e.symm)] at hg
        have hB : G.B k = some x := by simpa [e1] using hB
        have := h.low k x hg hB
        exact ⟨this.1, by simp; omega⟩
    · intro k es blk size hg hB
      rcases St.get_put hg with ⟨rfl, e⟩ | ⟨hne, hg'⟩
      · simp only [Option.some.injEq] at e
        subst e
        simp only [if_pos, Option.some.injEq, Prod.mk.injEq] at hB
        obtain ⟨rfl, rfl⟩ := hB
        exact ⟨_, heap_alloc_new w _, trivial⟩
      · have hB' : G.B k = some (blk, size) := by simpa [show k ≠ key from fun e => hne e.symm] using hB
        obtain ⟨obj, g1, g2⟩ := h.mps k es blk size hg' hB'
        exact ⟨obj, by rw [heap_alloc_old w _ (Array.getElem?_eq_some_iff.1 g1).1]; exact g1, g2.mono hle⟩
  · intro j hj _
    exact heap_alloc_old w _ hj
  · intro k x hg hB
    by_cases e1 : k = key
    · simp only [if_pos e1, Option.some.injEq] at hB
      subst hB; exact .inl (Nat.le_refl _)
    · rw [St.get_put_ne (fun e => e1 e.symm)] at hg
      have hB' : G.B k = some x := by simpa [e1] using hB
      exact .inr ⟨k, x, hg, hB', rfl⟩

/-- a new map -/
theorem Step.allocM {base : Nat} {N : Nat → Prop} {G : Ghost} {st : St} {w : World} (h : Sim G st w base) (key : Nat) (hN : N key) (hk : G.B key = none) (po : PObj) (obj : Obj) (hpo : ∀ cs z, po ≠ .cells cs z) (hho : ∀ G', HObj G' po obj) :
    ∃ G', G'.B key = some (w.heap.size, 0) ∧ Step base N G st w G' (st.put key (some po)) (w.alloc obj) := by
  have hle : G.le { G with B := fun k => if k = key then some (w.heap.size, 0) else G.B k } :=
    ⟨fun _ _ _ h => h, fun k x hx => by show (if k = key then _ else G.B k) = _; rw [if_neg (by intro e; subst e; rw [hk] at hx; simp at hx)]; exact hx⟩
  refine ⟨{ G with B := fun k => if k = key then some (w.heap.size, 0) else G.B k }, by simp, hle, ?_, ?_, rfl, rfl, rfl, by simp, ?_, ?_, fun _ _ _ h => .inl h, fun k hk => by
    by_cases e : k = key
    · subst e; right; simp
    · rw [St.get_put_ne (fun e' => e e'.symm)] at hk; exact .inl hk⟩
  · intro k x hx
    by_cases e : k = key
    · subst e; exact .inr hN
    · left; simpa [e] using hx
  · refine ⟨by simp; have := h.bas; omega, ?_, ?_, ?_, ?_, ?_, ?_, ?_⟩
    · intro b o u hu
      have h1 := h.frz b o u hu
      have h2 := World.block_lt_of_cell? w _ h1
      rw [World.cell?_of_block (heap_alloc_old w _ h2)]; exact h1
    · intro k cs' z blk size hg hB
      rcases St.get_put hg with ⟨rfl, e⟩ | ⟨hne, hg'⟩
      · simp only [Option.some.injEq] at e; exact absurd e (hpo _ _)
      · have hB' : G.B k = some (blk, size) := by simpa [show k ≠ key from fun e => hne e.symm] using hB
        obtain ⟨cur0, ty0, m0, g1, g2, g3, g4, g5⟩ := h.cells k cs' z blk size hg' hB'
        exact ⟨cur0, ty0, m0, by rw [heap_alloc_old w _ (Array.getElem?_eq_some_iff.1 g1).1]; exact g1, g2, g3, g4, g5.mono hle⟩
    · intro k cs' blk size hg hB
      rcases St.get_put hg with ⟨rfl, e⟩ | ⟨hne, hg'⟩
      · simp only [Option.some.injEq] at e; exact absurd e (hpo _ _)
      · have hB' : G.B k = some (blk, size) := by simpa [show k ≠ key from fun e => hne e.symm] using hB
        exact h.frzd k cs' blk size hg' hB'
    · intro k cs' blk size hg hB
      rcases St.get_put hg with ⟨rfl, e⟩ | ⟨hne, hg'⟩
      · simp only [if_pos, Option.some.injEq, Prod.mk.injEq] at hB
        obtain ⟨rfl, rfl⟩ := hB
        exact h.noF (Nat.le_refl _)
      · have hB' : G.B k = some (blk, size) := by simpa [show k ≠ key from fun e => hne e.symm] using hB
        exact h.free k cs' blk size hg' hB'
    · intro k k' x x' hg hg' hB hB' e
      have hlow : ∀ k x, k ≠ key → ((st.put key (some po)).get k).isSome → (if k = key then some (w.heap.size, 0) else G.B k) = some x → (st.get k).isSome ∧ G.B k = some x ∧ x.1 < w.heap.size := by
        intro k x hne hg hB
        rw [St.get_put_ne (fun e => hne e.symm)] at hg
        rw [if_neg hne] at hB
        exact ⟨hg, hB, (h.low k x hg hB).2⟩
      by_cases e1 : k = key
      · by_cases e2 : k' = key
        · omega
        · have := hlow k' x' e2 hg' hB'
          simp only [if_pos e1, Option.some.injEq] at hB
          subst hB; simp at e; omega
      · have h1 := hlow k x e1 hg hB
        by_cases e2 : k' = key
        · simp only [if_pos e2, Option.some.injEq] at hB'
          subst hB'; simp at e; omega
        · have h2 := hlow k' x' e2 hg' hB'
          exact h.inj k k' x x' h1.1 h2.1 h1.2.1 h2.2.1 e
    · intro k x hg hB
      by_cases e1 : k = key
      · simp only [if_pos e1, Option.some.injEq] at hB
        subst hB; have := h.bas; simp; exact this
      · rw [St.get_put_ne (fun e => e1 e.symm)] at hg
        have hB : G.B k = some x := by simpa [e1] using hB
        have := h.low k x hg hB
        exact ⟨this.1, by simp; omega⟩
    · intro k es blk size hg hB
      rcases St.get_put hg with ⟨rfl, e⟩ | ⟨hne, hg'⟩
      · simp only [Option.some.injEq] at e
        subst e
        simp only [if_pos, Option.some.injEq, Prod.mk.injEq] at hB
        obtain ⟨rfl, rfl⟩ := hB
        exact ⟨obj, heap_alloc_new w _, hho _⟩
      · have hB' : G.B k = some (blk, size) := by simpa [show k ≠ key from fun e => hne e.symm] using hB
        obtain ⟨o2, g1, g2⟩ := h.mps k es blk size hg' hB'
        exact ⟨o2, by rw [heap_alloc_old w _ (Array.getElem?_eq_some_iff.1 g1).1]; exact g1, g2.mono hle⟩
  · intro j hj _
    exact heap_alloc_old w _ hj
  · intro k x hg hB
    by_cases e1 : k = key
    · simp only [if_pos e1, Option.some.injEq] at hB
      subst hB; exact .inl (Nat.le_refl _)
    · rw [St.get_put_ne (fun e => e1 e.symm)] at hg
      have hB' : G.B k = some x := by simpa [e1] using hB
      exact .inr ⟨k, x, hg, hB', rfl⟩

/-- an object's block is written anew, under another name or the same -/
theorem Step.write {base : Nat} {N : Nat → Prop} {G : Ghost} {st : St} {w w' : World} (h : Sim G st w base) (k key : Nat) (hN : key = k ∨ N key) (cs : List PV) (blk size : Nat) (hg : st.get k = some (.cells cs false)) (hB : G.B k = some (blk, size))
    (hk : key = k ∨ G.B key = none) (cs' : List PV) (cur' : Array Value) (ty : TypeId) (m : Nat × Nat) (hh : w'.heap[blk]? = some (.cells cur' ty m)) (hf : Free m cur'.size) (hs : cur'.size = size) (hc : cs'.length ≤ size) (hr : CRel G (cur'.toList.take cs'.length) cs')
    (hsz : w'.heap.size = w.heap.size) (ho : ∀ j, j ≠ blk → w'.heap[j]? = w.heap[j]?) (hos : w'.os = w.os) (hta : w'.tape = w.tape) (hou : w'.output = w.output) :
    ∃ G', G'.B key = some (blk, size) ∧ Step base N G st w G' ((st.put k none).put key (some (.cells cs' false))) w' := by
  have hle : G.le { G with B := fun j => if j = key then some (blk, size) else G.B j } := by
    refine ⟨fun _ _ _ h => h, fun j x hx => ?_⟩
    show (if j = key then _ else G.B j) = _
    by_cases e : j = key
    · rw [if_pos e]
      subst e
      rcases hk with rfl | hk
      · rw [← hB]; exact hx
      · rw [hk] at hx; simp at hx
    · rw [if_neg e]; exact hx
  have hBe : ∀ j x, (if j = key then some (blk, size) else G.B j) = some x → j ≠ key → G.B j = some x := fun j x hx hne => by rwa [if_neg hne] at hx
  have hget : ∀ j x, ((st.put k none).put key (some (.cells cs' false))).get j = some x → j ≠ key → j ≠ k ∧ st.get j = some x := by
    intro j x hx hne
    rw [St.get_put_ne (fun e => hne e.symm)] at hx
    rcases St.get_put hx with ⟨_, e⟩ | ⟨hne', hx'⟩
    · simp at e
    · exact ⟨fun e => hne' e.symm, hx'⟩
  have hgs : ∀ j, (((st.put k none).put key (some (.cells cs' false))).get j).isSome → j ≠ key → j ≠ k ∧ (st.get j).isSome := by
    intro j hj hne
    obtain ⟨x, hx⟩ := Option.isSome_iff_exists.1 hj
    obtain ⟨a, b⟩ := hget j x hx hne
    exact ⟨a, by rw [b]; rfl⟩
  have hks : (st.get k).isSome := by rw [hg]; rfl
  have hfree := h.free k cs blk size hg hB
  refine ⟨{ G with B := fun j => if j = key then some (blk, size) else G.B j }, by simp, hle, ?_, ?_, hos, hta, hou, by omega, ?_, ?_, fun _ _ _ h => .inl h, fun j hj => by
    by_cases e : j = key
    · subst e; right; simp
    · exact .inl (hgs j hj e).2⟩
  · intro j x hx
    by_cases e : j = key
    · subst e
      rcases hN with rfl | hN
      · left; simp only [if_pos, Option.some.injEq] at hx; rw [← hx]; exact hB
      · exact .inr hN
    · exact .inl (hBe j x hx e)
  · refine ⟨by rw [hsz]; exact h.bas, ?_, ?_, ?_, ?_, ?_, ?_, ?_⟩
    · intro b o u hu
      have hne : b ≠ blk := by rintro rfl; have := hfree o; rw [show G.F b o = some u from hu] at this; simp at this
      rw [World.cell?_of_block (ho b hne)]
      exact h.frz b o u hu
    · intro j cs0 z b s hj hBj
      by_cases e : j = key
      · subst e
        simp only [if_pos, Option.some.injEq, Prod.mk.injEq] at hBj
        obtain ⟨rfl, rfl⟩ := hBj
        rcases St.get_put hj with ⟨_, e⟩ | ⟨hne, _⟩
        · simp only [Option.some.injEq, PObj.cells.injEq] at e
          obtain ⟨rfl, rfl⟩ := e
          exact ⟨cur', ty, m, hh, hf, hs, hc, hr.mono hle⟩
        · exact absurd rfl hne
      · obtain ⟨hne, hj'⟩ := hget j _ hj e
        have hBj' := hBe j _ hBj e
        obtain ⟨c0, t0, m0, g1, g2, g3, g4, g5⟩ := h.cells j cs0 z b s hj' hBj'
        have hbn : b ≠ blk := fun eb => hne (h.inj j k (b, s) (blk, size) (by rw [hj']; rfl) hks hBj' hB eb)
        exact ⟨c0, t0, m0, by rw [ho b hbn]; exact g1, g2, g3, g4, g5.mono hle⟩
    · intro j cs0 b s hj hBj
      by_cases e : j = key
      · subst e
        rcases St.get_put hj with ⟨_, e⟩ | ⟨hne, _⟩
        · simp at e
        · exact absurd rfl hne
      · obtain ⟨hne, hj'⟩ := hget j _ hj e
        exact h.frzd j cs0 b s hj' (hBe j _ hBj e)
    · intro j cs0 b s hj hBj
      by_cases e : j = key
      · subst e
        simp only [if_pos, Option.some.injEq, Prod.mk.injEq] at hBj
        obtain ⟨rfl, rfl⟩ := hBj
        exact hfree
      · obtain ⟨hne, hj'⟩ := hget j _ hj e
        exact h.free j cs0 b s hj' (hBe j _ hBj e)
    · intro i j x y hi hj hBi hBj e
      by_cases e1 : i = key
      · by_cases e2 : j = key
        · omega
        · obtain ⟨hne, hj'⟩ := hgs j hj e2
          have hBj' := hBe j y hBj e2
          simp only [if_pos e1, Option.some.injEq] at hBi
          subst hBi
          exact absurd (h.inj k j (blk, size) y hks hj' hB hBj' e) (fun q => hne q.symm)
      · obtain ⟨hne1, hi'⟩ := hgs i hi e1
        have hBi' := hBe i x hBi e1
        by_cases e2 : j = key
        · simp only [if_pos e2, Option.some.injEq] at hBj
          subst hBj
          exact absurd (h.inj i k x (blk, size) hi' hks hBi' hB e) hne1
        · obtain ⟨hne, hj'⟩ := hgs j hj e2
          exact h.inj i j x y hi' hj' hBi' (hBe j y hBj e2) e
    · intro j x hj hBj
      rw [hsz]
      by_cases e : j = key
      · simp only [if_pos e, Option.some.injEq] at hBj
        subst hBj; exact h.low k (blk, size) hks hB
      · obtain ⟨hne, hj'⟩ := hgs j hj e
        exact h.low j x hj' (hBe j x hBj e)
    · intro j es b s hj hBj
      by_cases e : j = key
      · subst e
        simp only [if_pos, Option.some.injEq, Prod.mk.injEq] at hBj
        obtain ⟨rfl, rfl⟩ := hBj
        rcases St.get_put hj with ⟨_, e⟩ | ⟨hne, _⟩
        · simp only [Option.some.injEq] at e
          subst e
          exact ⟨_, hh, trivial⟩
        · exact absurd rfl hne
      · obtain ⟨hne, hj'⟩ := hget j _ hj e
        have hBj' := hBe j _ hBj e
        obtain ⟨obj, g1, g2⟩ := h.mps j es b s hj' hBj'
        have hbn : b ≠ blk := fun eb => hne (h.inj j k (b, s) (blk, size) (by rw [hj']; rfl) hks hBj' hB eb)
        exact ⟨obj, by rw [ho b hbn]; exact g1, g2.mono hle⟩
  · intro j hj hno
    exact ho j (fun e => hno k (blk, size) hks hB e.symm)
  · intro j x hj hBj
    by_cases e : j = key
    · simp only [if_pos e, Option.some.injEq] at hBj
      subst hBj; exact .inr ⟨k, (blk, size), hks, hB, rfl⟩
    · obtain ⟨hne, hj'⟩ := hgs j hj e
      exact .inr ⟨j, x, hj', hBe j x hBj e, rfl⟩
/-- a map is written -/
theorem Step.mapw {base : Nat} {N : Nat → Prop} {G : Ghost} {st : St} {w w' : World} (h : Sim G st w base) (k : Nat) (po po' : PObj) (blk size : Nat) (hpo : ∀ cs z, po ≠ .cells cs z) (hpo' : ∀ cs z, po' ≠ .cells cs z) (hg : st.get k = some po) (hB : G.B k = some (blk, size))
    (obj' : Obj) (hh : w'.heap[blk]? = some obj') (hr : HObj G po' obj')
    (hsz : w'.heap.size = w.heap.size) (ho : ∀ j, j ≠ blk → w'.heap[j]? = w.heap[j]?) (hos : w'.os = w.os) (hta : w'.tape = w.tape) (hou : w'.output = w.output) :
    Step base N G st w G (st.put k (some po')) w' := by
  have hks : (st.get k).isSome := by rw [hg]; rfl
  have hgs : ∀ j, ((st.put k (some po')).get j).isSome → (st.get j).isSome := by
    intro j hj
    by_cases e : j = k
    · subst e; exact hks
    · rwa [St.get_put_ne (fun e' => e e'.symm)] at hj
  obtain ⟨obj, g1, g2⟩ := h.mps k po blk size hg hB
  have hnc : ∀ c t m, obj ≠ .cells c t m := by
    intro c t m e
    subst e
    cases po with
    | cells cs z => exact hpo cs z rfl
    | map es => obtain ⟨_, _, e, _⟩ := g2; simp at e
    | iter l p => simp [HObj] at g2
  have ne : ∀ j b s, j ≠ k → (st.get j).isSome → G.B j = some (b, s) → b ≠ blk := fun j b s hne hj hBj e => hne (h.inj j k (b, s) (blk, size) hj hks hBj hB e)
  refine ⟨.refl G, fun _ _ h => .inl h, ⟨by rw [hsz]; exact h.bas, ?_, ?_, ?_, ?_, ?_, ?_, ?_⟩, hos, hta, hou, by omega, ?_, ?_, fun _ _ _ h => .inl h, fun j hj => .inl (hgs j hj)⟩
  · intro b o u hu
    have hc := h.frz b o u hu
    have hne : b ≠ blk := by
      rintro rfl
      simp only [World.cell?, g1] at hc
      cases obj <;> first | (simp at hc; done) | exact hnc _ _ _ rfl
    rw [World.cell?_of_block (ho b hne)]
    exact hc
  · intro j cs z b s hj hBj
    rcases St.get_put hj with ⟨_, e⟩ | ⟨hne, hj'⟩
    · simp only [Option.some.injEq] at e; exact absurd e (hpo' _ _)
    · obtain ⟨c0, t0, m0, q1, q2⟩ := h.cells j cs z b s hj' hBj
      exact ⟨c0, t0, m0, by rw [ho b (ne j b s (fun e => hne e.symm) (by rw [hj']; rfl) hBj)]; exact q1, q2⟩
  · intro j cs b s hj hBj
    rcases St.get_put hj with ⟨_, e⟩ | ⟨hne, hj'⟩
    · simp only [Option.some.injEq] at e; exact absurd e (hpo' _ _)
    · exact h.frzd j cs b s hj' hBj
  · intro j cs b s hj hBj
    rcases St.get_put hj with ⟨_, e⟩ | ⟨hne, hj'⟩
    · simp only [Option.some.injEq] at e; exact absurd e (hpo' _ _)
    · exact h.free j cs b s hj' hBj
  · intro i j x y hi hj
    exact h.inj i j x y (hgs i hi) (hgs j hj)
  · intro j x hj hBj
    rw [hsz]
    exact h.low j x (hgs j hj) hBj
  · intro j es0 b s hj hBj
    rcases St.get_put hj with ⟨rfl, e⟩ | ⟨hne, hj'⟩
    · simp only [Option.some.injEq] at e
      subst e
      rw [hB] at hBj
      simp only [Option.some.injEq, Prod.mk.injEq] at hBj
      obtain ⟨rfl, rfl⟩ := hBj
      exact ⟨obj', hh, hr⟩
    · obtain ⟨e0, q1, q2⟩ := h.mps j es0 b s hj' hBj
      exact ⟨e0, by rw [ho b (ne j b s (fun e => hne e.symm) (by rw [hj']; rfl) hBj)]; exact q1, q2⟩
  · intro j hj hno
    exact ho j (fun e => hno k (blk, size) hks hB e.symm)
  · intro j x hj hBj
    exact .inr ⟨j, x, hgs j hj, hBj, rfl⟩
end Go.Pe
