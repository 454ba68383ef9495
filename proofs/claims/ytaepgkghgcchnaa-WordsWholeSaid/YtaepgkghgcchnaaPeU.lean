/-
  Each operation of plain data does what the model's does, fifth part: bytes of a string, append, copy. No condition; nothing of the program.
-/
import Derived.Test.YtaepgkghgcchnaaPeT
set_option linter.unusedVariables false
set_option linter.unusedSimpArgs false
namespace Go.Pe
open Go Go.Am Go.RowKit
section
variable {P : Program} {V : List Nat} {base : Nat} {N : Nat → Prop} {G : Ghost} {st : St} {w : World}

theorem bytes_rel (G : Ghost) : ∀ l : List UInt8, CRel G (bytesC l) (ofBytes l)
  | [] => .nil
  | c :: l => .cons (.i _ _) (bytes_rel G l)
theorem ofBytes_length (l : List UInt8) : (ofBytes l).length = l.length := by simp [ofBytes]
theorem bytesRow_take (s : List UInt8) (cap : Nat) : (bytesRow ⟨s.toArray⟩ cap).toList.take s.length = bytesC s := by
  have : (bytesRow ⟨s.toArray⟩ cap).toList = bytesC s ++ List.replicate (cap - s.length) (.int .u8 0) := by
    simp [bytesRow, bytesC, ByteArray.size]
  rw [this, List.take_append_of_le_length (by simp)]
  exact List.take_of_length_le (by simp)
theorem op_s2b (hs : Sim G st w base) {src dst e : TypeId} (h1 : P.underlying src = some .string) (h2 : P.underlying dst = some (.slice e)) (he : P.underlying e = some (.int .u8)) {l : List UInt8} (hl : l.length ≤ maxBytes) (key : Nat) (hN : N key) (hk : G.B key = none) :
    OpOK P base N G st w (do pure (.value (← convert src dst (.string ⟨l.toArray⟩)))) (.rsl key 1 0 l.length) (st.put key (some (.cells (ofBytes l) false))) := by
  have hsz : (⟨l.toArray⟩ : ByteArray).size = l.length := by simp [ByteArray.size]
  have hr := run_bytes_of_string (P := P) w src dst e ⟨l.toArray⟩ h1 h2 he
  rw [hsz] at hr
  have hc1 := grownCap_ge w l.length 0 e
  have hc2 := grownCap_le_maxLen w l.length 0 e (by unfold maxBytes at hl; unfold maxLen; omega)
  have hrow : (bytesRow ⟨l.toArray⟩ (grownCap w l.length 0 e)).size = grownCap w l.length 0 e := by
    simp [bytesRow, ByteArray.size]; omega
  obtain ⟨G', hB, hst⟩ := Step.alloc (w := w.drew) (hs.drewN 1) key hN hk (ofBytes l) (bytesRow ⟨l.toArray⟩ (grownCap w l.length 0 e)) e ((bytesRow ⟨l.toArray⟩ (grownCap w l.length 0 e)).size, (bytesRow ⟨l.toArray⟩ (grownCap w l.length 0 e)).size + 1) (.inr (Nat.le_refl _))
    (by rw [hrow, ofBytes_length]; exact hc1) (by rw [ofBytes_length, bytesRow_take]; exact bytes_rel G l)
  refine ⟨.value (.slice (some ⟨w.heap.size, 0, none⟩) l.length (grownCap w l.length 0 e)), _, G', by simp only [Sem.run_bind, hr, Result.andThen_ok, Sem.run_pure], .inl ⟨_, rfl, ?_⟩, (Step.drew hs).trans hst (fun _ h => h) (fun _ h => h)⟩
  exact .rsl key 1 0 l.length w.heap.size _ _ hB hc1 hc2 (by rw [hrow]; omega) (by omega)

theorem Sim.appended (hs : Sim G st w base) {k : Nat} {cs : List PV} {blk size : Nat} (hg : st.get k = some (.cells cs false)) (hB : G.B k = some (blk, size)) {news : List PV} {nv : List Value} (hn : CRel G nv news) (hfit : cs.length + news.length ≤ size) (key : Nat) (hN : N key) (hk : G.B key = none) :
    ∃ G', G'.B key = some (blk, size) ∧ Step base N G st w G' ((st.put k none).put key (some (.cells (cs ++ news) false))) (w.setCells blk cs.length nv) := by
  obtain ⟨cur, ty, m, g1, g2, g3, g4, g5⟩ := hs.cells k cs false blk size hg hB
  have hnl := hn.1
  obtain ⟨⟨cur', f1, f2⟩, f3, f4, f5, f6, f7⟩ := setCells_facts blk nv cs.length w cur ty m g1 (by omega)
  have hsz' : cur'.size = size := by
    have := congrArg List.length f2
    simp at this; omega
  refine Step.write hs k key (.inr hN) cs blk size hg hB (.inr hk) (cs ++ news) cur' ty m f1 (by rcases g2 with rfl | g2; exact .inl rfl; exact .inr (by omega)) hsz' (by simp; omega) ?_ f3 f4 f5 f6 f7
  have e : cur'.toList.take (cs ++ news).length = cur.toList.take cs.length ++ nv := by
    rw [f2]
    exact List.take_left' (by simp; omega)
  rw [e]
  exact g5.append hn

/-- what is appended -/
theorem src_of (hs : Sim G st w base) {sz : Nat} {tx e' : TypeId} (hk : P.underlying tx = some (.slice e')) {v : Value} {p : PV} (hv : VRel G v p) {m : Nat} {cs : List PV} (hc : cellsOf st sz p = some (m, cs)) (h1 : cs.all PV.one = true) :
    ∃ nv, CRel G nv cs ∧ cs.length = m * sz ∧ Src P sz tx v m nv w := by
  obtain ⟨a, cap, vs, rfl, g1, g2, g3, g4, g5, g6⟩ := cellsOf_rel hs hv hc
  have hone : ∀ u ∈ vs, u.oneCell' = true := by
    intro u hu
    obtain ⟨i, hi, rfl⟩ := List.getElem_of_mem hu
    have hi' : i < cs.length := by rw [← g3.1]; exact hi
    exact (g3.2 i vs[i] cs[i] (List.getElem?_eq_getElem hi) (List.getElem?_eq_getElem hi')).one ((List.all_eq_true.1 h1) _ (List.getElem_mem _))
  refine ⟨vs, g3, by rw [← g3.1]; exact g4, ?_⟩
  cases a with
  | none =>
    have := g5 rfl
    subst this
    have : vs = [] := List.eq_nil_of_length_eq_zero (by simpa using g4)
    subst this
    exact Src.ofNil w hk cap
  | some ad =>
    refine Src.ofSlice w hk ad m cap vs g4 ?_ hone
    intro j u hu
    have hj : j < vs.length := (List.getElem?_eq_some_iff.1 hu).1
    obtain ⟨b, o, e, hr⟩ := g6 (by omega)
    simp only [Option.some.injEq] at e
    subst e
    rw [Addr.add_mid]
    exact hr j u hu
/-- append, of what may be read or of a string's bytes -/
theorem op_append (hs : Sim G st w base) {t tx ty e : TypeId} (hu : P.underlying t = some (.slice e)) {sz bytes : Nat} (hn : sizeT P e = some sz) (hby : bytesT P e = some bytes) {z : List PV} (hz : zeroT P e = some z) {x : Value} {m : Nat} {nv : List Value} {news : List PV} (hsrc : Src P sz tx x m nv w) (hnews : CRel G nv news) (hml : news.length = m * sz)
    (hsz : 0 < sz) (hb0 : 0 < bytes) {v : Value} {p r : PV} {st' : St} (hv : VRel G v p) (key : Nat) (hN : N key) (hk : G.B key = none)
    (h : appendP st key sz bytes m news p = some (r, st')) : OpOK P base N G st w (do pure (.value (← Builtin.append_ #[t, tx] ty #[v, x]))) r st' := by
  obtain ⟨zv, i, hi, hzv, hlz, hzc, hvs, _, hrun⟩ := zeroT_run (G := G) hz
  obtain ⟨i1, hi1, hs1⟩ := Option.map_eq_some_iff.1 hn
  obtain ⟨i2, hi2, hs2⟩ := Option.map_eq_some_iff.1 hby
  rw [hi] at hi1 hi2
  simp at hi1 hi2
  subst hi1
  subst hi2
  subst hs1
  subst hs2
  have grow : ∀ (a : Option Addr) (n cap : Nat) (olds : List Value) (cs : List PV) (st0 : St), Sim G st0 w base → n ≤ cap → cap < n + m → (n + m) * i.bytes ≤ maxBytes → CRel G olds cs → cs.length = n * i.size →
      (Builtin.firstCells i.size n (.slice a n cap)).run P w.drew = .ok olds.toArray w.drew →
      OpOK P base N G st0 w (do pure (.value (← Builtin.append_ #[t, tx] ty #[.slice a n cap, x]))) (.rsl key i.size 0 (n + m)) (st0.put key (some (.cells (cs ++ news) false))) := by
    intro a n cap olds cs st0 hs0 hnc hg hbb hold hol hfc
    unfold maxBytes at hbb
    have h63 : n + m ≤ (n + m) * i.bytes := Nat.le_mul_of_pos_right _ hb0
    have hr := run_append_grow_src (P := P) w t tx ty e i zv hu hi hzv a n cap olds hfc x m nv hsrc hg (by omega) (growslice_fits hg hbb)
    have hc1 := grownCap_ge w (n + m) cap e
    have hc2 := grownCap_le_maxLen w (n + m) cap e (by unfold maxLen; omega)
    have hll : (olds ++ nv).length = (n + m) * i.size := by
      have h1 := hold.1; have h2 := hnews.1
      simp; rw [Nat.add_mul]; omega
    have hcur : ((olds ++ nv).toArray ++ Builtin.zeroCells zv.cells (grownCap w (n + m) cap e - (n + m))).size = grownCap w (n + m) cap e * i.size := by
      rw [Array.size_append, List.size_toArray, hll, size_zeroCells, hvs, ← Nat.add_mul]; congr 1; omega
    have hle : (n + m) * i.size ≤ grownCap w (n + m) cap e * i.size := Nat.mul_le_mul_right _ hc1
    have hcl : (cs ++ news).length = (n + m) * i.size := by simp; rw [Nat.add_mul]; omega
    obtain ⟨G', hB, hst⟩ := Step.alloc (w := w.drew) (hs0.drewN 1) key hN hk (cs ++ news) _ e (0, 0) (.inl rfl) (by rw [hcl, hcur]; exact hle) (by
      rw [Array.toList_append, hcl, List.take_append_of_le_length (by simp at hll ⊢; omega), List.take_of_length_le (by simp at hll ⊢; omega)]
      exact hold.append hnews)
    refine ⟨.value (.slice (some ⟨w.heap.size, 0, none⟩) (n + m) (grownCap w (n + m) cap e)), _, G', by simp only [Sem.run_bind, hr, Result.andThen_ok, Sem.run_pure], .inl ⟨_, rfl, ?_⟩, (Step.drew hs0).trans hst (fun _ h => h) (fun _ h => h)⟩
    exact .rsl key i.size 0 (n + m) w.heap.size _ _ hB hc1 hc2 (by rw [hcur]; omega) hsz
  cases hv with
  | nsl =>
    simp only [appendP] at h
    split at h
    · rename_i h0
      simp only [Option.some.injEq, Prod.mk.injEq] at h
      obtain ⟨rfl, rfl⟩ := h
      subst h0
      have hk0 : (∃ e', P.underlying tx = some (.slice e')) ∨ P.underlying tx = some .string := hsrc.kind
      have hnv : nv = [] := List.eq_nil_of_length_eq_zero (by have := hsrc.newsLen; simpa using this)
      subst hnv
      have hcells := hsrc.cells
      refine OpOK.same hs (v := .slice none 0 0) ?_ .nsl
      rcases hk0 with ⟨e', hk⟩ | hk <;> simp [Builtin.append_, run_underlying hu, run_underlying hk, sizeOf, typeInfo, hi, hsrc.len, hcells]
    · split at h
      · rename_i h0 hbb
        simp only [Option.some.injEq, Prod.mk.injEq] at h
        obtain ⟨rfl, rfl⟩ := h
        have := grow none 0 0 [] [] st hs (Nat.le_refl _) (by omega) (by simpa using hbb) .nil (by simp) (by simp [Builtin.firstCells])
        simpa using this
      · simp at h
  | rsl k z off n blk size cap hB hc hm hz hz0 =>
    simp only [appendP] at h
    split at h
    · rename_i cs hg
      split at h
      · rename_i hcond
        obtain ⟨rfl, rfl, hcl, hbb⟩ := hcond
        simp only [Option.some.injEq, Prod.mk.injEq] at h
        obtain ⟨rfl, rfl⟩ := h
        obtain ⟨cur, ty0, m0, g1, g2, g3, g4, g5⟩ := hs.cells k cs false blk size hg hB
        by_cases hroom : n + m ≤ cap
        · have hfit : (n + m) * i.size ≤ cap * i.size := Nat.mul_le_mul_right _ hroom
          rw [Nat.add_mul] at hfit
          have hnl := hnews.1
          have hr := run_append_room_src (P := P) w t tx ty e i hu hi blk 0 n cap x m nv hsrc hroom
            (by intro j hj; have : 0 + n * i.size + j < cur.size := by omega
                simp [World.cell?, g1]; omega)
            (by intro j hj
                simp only [World.frozen?, g1]
                rcases g2 with rfl | g2
                · simp
                · simp; omega)
          rw [Nat.zero_add, ← hcl] at hr
          obtain ⟨G', hB', hst⟩ := hs.appended hg hB hnews (by omega) key hN hk
          refine ⟨.value (.slice (some ⟨blk, 0, none⟩) (n + m) cap), _, G', by simp only [Sem.run_bind, hr, Result.andThen_ok, Sem.run_pure], .inl ⟨_, rfl, ?_⟩, hst⟩
          exact .rsl key i.size 0 (n + m) blk size cap hB' hroom hm hz hsz
        · have hlk : cs.length ≤ cur.toList.length := by simp; omega
          -- the old name is forgotten ahead
          have hs0 : Sim G (st.put k none) w base := by
            refine ⟨hs.bas, hs.frz, ?_, ?_, ?_, ?_, ?_, ?_⟩
            rotate_right 1
            · intro k' es' b s h' hB'
              rcases St.get_put h' with ⟨_, e⟩ | ⟨_, h''⟩
              · simp at e
              · exact hs.mps k' es' b s h'' hB'
            · intro k' cs' z' b s h' hB'
              rcases St.get_put h' with ⟨_, e⟩ | ⟨_, h''⟩
              · simp at e
              · exact hs.cells k' cs' z' b s h'' hB'
            · intro k' cs' b s h' hB'
              rcases St.get_put h' with ⟨_, e⟩ | ⟨_, h''⟩
              · simp at e
              · exact hs.frzd k' cs' b s h'' hB'
            · intro k' cs' b s h' hB'
              rcases St.get_put h' with ⟨_, e⟩ | ⟨_, h''⟩
              · simp at e
              · exact hs.free k' cs' b s h'' hB'
            · have hsome : ∀ j, ((st.put k none).get j).isSome → (st.get j).isSome := by
                intro j hj
                obtain ⟨q, hq⟩ := Option.isSome_iff_exists.1 hj
                rcases St.get_put hq with ⟨_, e⟩ | ⟨_, h''⟩
                · simp at e
                · rw [h'']; rfl
              intro a b q q' ha hb
              exact hs.inj a b q q' (hsome a ha) (hsome b hb)
            · have hsome : ∀ j, ((st.put k none).get j).isSome → (st.get j).isSome := by
                intro j hj
                obtain ⟨q, hq⟩ := Option.isSome_iff_exists.1 hj
                rcases St.get_put hq with ⟨_, e⟩ | ⟨_, h''⟩
                · simp at e
                · rw [h'']; rfl
              intro a q ha
              exact hs.low a q (hsome a ha)
          have hfc : (Builtin.firstCells i.size n (.slice (some ⟨blk, 0, none⟩) n cap)).run P w.drew = .ok (cur.toList.take cs.length).toArray w.drew := by
            refine run_firstCells_some (P := P) w.drew i.size n ⟨blk, 0, none⟩ n cap (cur.toList.take cs.length) (by simp at hlk; simp; omega) ?_
            intro j u hj
            rw [Addr.add_mid]
            rw [List.getElem?_take] at hj
            split at hj
            · have : cur[j]? = some u := by simpa using hj
              show w.cell? _ = _
              simp [World.cell?, g1, this]
            · simp at hj
          obtain ⟨n1, w1, G1, e1, e2, e3⟩ := grow (some ⟨blk, 0, none⟩) n cap (cur.toList.take cs.length) cs (st.put k none) hs0 hc (by omega) hbb g5 hcl hfc
          refine ⟨n1, w1, G1, e1, e2, ?_⟩
          -- with the old name
          have hkk : (st.get k).isSome := by rw [hg]; rfl
          refine ⟨e3.le, e3.new, e3.sim, e3.os, e3.tape, e3.output, e3.size, ?_, ?_, ?_, ?_⟩
          · intro j hj hno
            refine e3.kept j hj ?_
            intro a q ha hBa
            refine hno a q ?_ hBa
            obtain ⟨y, hy⟩ := Option.isSome_iff_exists.1 ha
            rcases St.get_put hy with ⟨_, e⟩ | ⟨_, h''⟩
            · simp at e
            · rw [h'']; rfl
          · intro a q ha hBa
            rcases e3.own a q ha hBa with h1 | ⟨k0, x0, a1, a2, a3⟩
            · exact .inl h1
            · refine .inr ⟨k0, x0, ?_, a2, a3⟩
              obtain ⟨y, hy⟩ := Option.isSome_iff_exists.1 a1
              rcases St.get_put hy with ⟨_, e⟩ | ⟨_, h''⟩
              · simp at e
              · rw [h'']; rfl
          · intro b o u hu'
            rcases e3.fnew b o u hu' with h1 | h1 | ⟨k0, x0, a1, a2, a3⟩
            · exact .inl h1
            · exact .inr (.inl h1)
            · refine .inr (.inr ⟨k0, x0, ?_, a2, a3⟩)
              obtain ⟨y, hy⟩ := Option.isSome_iff_exists.1 a1
              rcases St.get_put hy with ⟨_, e⟩ | ⟨_, h''⟩
              · simp at e
              · rw [h'']; rfl
          · intro a ha
            rcases e3.ful a ha with h1 | h1
            · left
              obtain ⟨y, hy⟩ := Option.isSome_iff_exists.1 h1
              rcases St.get_put hy with ⟨_, e⟩ | ⟨_, h''⟩
              · simp at e
              · rw [h'']; rfl
            · exact .inr h1
      · simp at h
    · simp at h
  | _ => simp [appendP] at h
theorem op_copy (hs : Sim G st w base) {t tx ty e e' : TypeId} (hu : P.underlying t = some (.slice e)) (hux : P.underlying tx = some (.slice e')) {sz : Nat} (hn : sizeT P e = some sz) {d x : Value} {pd px : PV} (hd : VRel G d pd) (hx : VRel G x px) {m : Nat} {cs : List PV} (hc : cellsOf st sz px = some (m, cs)) {r : PV} {st' : St}
    (h : copyP st sz m cs pd = some (r, st')) : OpOK P base N G st w (do pure (.value (← Builtin.copy_ #[t, tx] ty #[d, x]))) r st' := by
  obtain ⟨a, cap, vs, rfl, g1, g2, g3, g4, g5, g6⟩ := cellsOf_rel hs hx hc
  have hfc : ∀ q, q ≤ m → (Builtin.firstCells sz q (.slice a m cap)).run P w = .ok (vs.take (q * sz)).toArray w := by
    intro q hq
    have hqs : q * sz ≤ m * sz := Nat.mul_le_mul_right _ hq
    cases a with
    | none =>
      have := g5 rfl
      subst this
      have : vs = [] := List.eq_nil_of_length_eq_zero (by simpa using g4)
      subst this
      simp [Builtin.firstCells]
    | some ad =>
      refine run_firstCells_some (P := P) w sz q ad m cap (vs.take (q * sz)) (by simp; omega) ?_
      intro j u hj
      rw [List.getElem?_take] at hj
      split at hj
      · have hjl : j < vs.length := (List.getElem?_eq_some_iff.1 hj).1
        obtain ⟨b, o, e, hr⟩ := g6 (by omega)
        simp only [Option.some.injEq] at e
        subst e
        rw [Addr.add_mid]
        exact hr j u hj
      · simp at hj
  have hzero : ∀ (b : Option Addr) (dc : Nat), (Builtin.copy_ #[t, tx] ty #[.slice b 0 dc, .slice a m cap]).run P w = .ok (.int .i64 0) w := by
    intro b dc
    have h0 := hfc 0 (Nat.zero_le _)
    simp at h0
    cases b <;> simp [Builtin.copy_, run_underlying hu, Builtin.lenOf, sizeT_run hn, h0, storeCells, goInt]
  cases hd with
  | nsl =>
    simp only [copyP, Option.some.injEq, Prod.mk.injEq] at h
    obtain ⟨rfl, rfl⟩ := h
    exact OpOK.same hs (by simp [hzero]) (.i _ _)
  | fnull b dc hm =>
    simp only [copyP, Option.some.injEq, Prod.mk.injEq] at h
    obtain ⟨rfl, rfl⟩ := h
    exact OpOK.same hs (by simp [hzero]) (.i _ _)
  | fsl b o n dc ps f hc' hm hF hh =>
    cases n with
    | zero =>
      simp only [copyP, Option.some.injEq, Prod.mk.injEq] at h
      obtain ⟨rfl, rfl⟩ := h
      exact OpOK.same hs (by simp [hzero]) (.i _ _)
    | succ n => simp [copyP] at h
  | rsl k z off n blk size dc hB hc' hm hz hz0 =>
    simp only [copyP] at h
    split at h
    · rename_i l hg
      split at h
      · rename_i hcond
        obtain ⟨rfl, hfit, hall⟩ := hcond
        simp only [Option.some.injEq, Prod.mk.injEq] at h
        obtain ⟨rfl, rfl⟩ := h
        obtain ⟨cur, ty0, m0, f1, f2, f3, f4, f5⟩ := hs.cells k l false blk size hg hB
        obtain ⟨q, hq⟩ : ∃ q, Nat.min m n = q := ⟨_, rfl⟩
        have hqm : q ≤ m := by rw [← hq]; exact Nat.min_le_left _ _
        have hqn : q ≤ n := by rw [← hq]; exact Nat.min_le_right _ _
        have hqz : q * z ≤ n * z := Nat.mul_le_mul_right _ hqn
        have hqz2 : q * z ≤ m * z := Nat.mul_le_mul_right _ hqm
        rw [hq]
        have hvl : (vs.take (q * z)).length = q * z := by simp; omega
        have hone : ∀ u ∈ vs.take (q * z), u.oneCell' = true := by
          intro u hu'
          have hu' := List.mem_of_mem_take hu'
          obtain ⟨i, hi, rfl⟩ := List.getElem_of_mem hu'
          have hi' : i < cs.length := by rw [← g3.1]; exact hi
          exact (g3.2 i vs[i] cs[i] (List.getElem?_eq_getElem hi) (List.getElem?_eq_getElem hi')).one ((List.all_eq_true.1 hall) _ (List.getElem_mem _))
        have hst := run_storeCells_cells (P := P) blk off (vs.take (q * z)) 0 w
          (by intro j hj; rw [hvl] at hj; simp [World.cell?, f1]; omega)
          (by intro j hj; rw [hvl] at hj
              simp only [World.frozen?, f1]
              rcases f2 with rfl | f2
              · simp
              · simp; omega) hone
        rw [Nat.add_zero] at hst
        have hrun : (Builtin.copy_ #[t, tx] ty #[.slice (some ⟨blk, off, none⟩) n dc, .slice a m cap]).run P w = .ok (.int .i64 (q : Int)) (w.setCells blk off (vs.take (q * z))) := by
          simp [Builtin.copy_, run_underlying hu, Builtin.lenOf, sizeT_run hn, hq, hfc q hqm, hst, goInt]
        obtain ⟨⟨cur', e1, e2⟩, e3, e4, e5, e6, e7⟩ := setCells_facts blk (vs.take (q * z)) off w cur ty0 m0 f1 (by rw [hvl]; omega)
        have hsz' : cur'.size = size := by
          have := congrArg List.length e2
          simp only [Array.length_toList, List.length_append, List.length_take, List.length_drop, hvl] at this
          omega
        have hcsl : cs.length = m * z := by rw [← g3.1]; exact g4
        have hll : (l.take off ++ cs.take (q * z) ++ l.drop (off + q * z)).length = l.length := by simp; omega
        obtain ⟨G', hB', hst'⟩ := Step.write hs k k (N := N) (.inl rfl) l blk size hg hB (.inl rfl) (l.take off ++ cs.take (q * z) ++ l.drop (off + q * z)) cur' ty0 m0 e1 (by rcases f2 with rfl | f2; exact .inl rfl; exact .inr (by omega)) hsz' (by omega) (by
          rw [hll, e2, hvl]
          have e8 : ((cur.toList.take off ++ vs.take (q * z) ++ cur.toList.drop (off + q * z)).take l.length) = (cur.toList.take l.length).take off ++ vs.take (q * z) ++ (cur.toList.take l.length).drop (off + q * z) := by
            rw [List.take_append, List.take_append, List.take_take, List.drop_take]
            congr 1
            · congr 1
              · rw [List.take_take]; congr 1; omega
              · rw [List.take_of_length_le]; rw [hvl]; simp; omega
            · congr 1; rw [List.length_append, hvl]; simp; omega
          rw [e8]
          exact ((f5.take off).append (g3.take _)).append (f5.drop _)) e3 e4 e5 e6 e7
        rw [St.put_put] at hst'
        exact ⟨_, _, G', by simp only [Sem.run_bind, hrun, Result.andThen_ok, Sem.run_pure], .inl ⟨_, rfl, .i _ _⟩, hst'⟩
      · simp at h
    · simp at h
  | _ => simp [copyP] at h
end
end Go.Pe
