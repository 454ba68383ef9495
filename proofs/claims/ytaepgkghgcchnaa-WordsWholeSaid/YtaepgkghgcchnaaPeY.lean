/-
  A function among objects, by value. No condition; nothing of the program.
-/
import Derived.Test.YtaepgkghgcchnaaPeX
set_option linter.unusedVariables false
set_option linter.unusedSimpArgs false
namespace Go.Pe
open Go Go.Am Go.RowKit

theorem whole_facts {st : St} {v : PV} {k sz n : Nat} {cs : List PV} (h : whole? st v = some (k, sz, n, cs)) : v = .rsl k sz 0 n ∧ st.get k = some (.cells cs false) ∧ cs.length = n * sz ∧ 0 < sz := by
  unfold whole? at h
  split at h
  · split at h
    · rename_i hg
      split at h
      · rename_i hc
        simp only [Option.some.injEq, Prod.mk.injEq] at h
        obtain ⟨rfl, rfl, rfl, rfl⟩ := h
        obtain ⟨rfl, h1, h2⟩ := hc
        exact ⟨rfl, hg, h1, h2⟩
      · simp at h
    · simp at h
  · simp at h
theorem firstWhole_facts {st : St} : ∀ {vs : List PV} {i k sz n : Nat} {cs : List PV}, firstWhole st vs = some (i, k, sz, n, cs) → vs[i]? = some (.rsl k sz 0 n) ∧ st.get k = some (.cells cs false) ∧ cs.length = n * sz ∧ 0 < sz
  | [], i, k, sz, n, cs, h => by simp [firstWhole] at h
  | v :: r, i, k, sz, n, cs, h => by
    simp only [firstWhole] at h
    split at h
    · rename_i x hx
      simp only [Option.some.injEq, Prod.mk.injEq] at h
      obtain ⟨rfl, rfl⟩ := h
      obtain ⟨rfl, h1, h2, h3⟩ := whole_facts hx
      exact ⟨rfl, h1, h2, h3⟩
    · simp only [Option.map_eq_some_iff, Prod.mk.injEq] at h
      obtain ⟨y, hy, rfl, hy2⟩ := h
      obtain ⟨j, z⟩ := y
      simp only [] at hy2
      subst hy2
      obtain ⟨h1, h2⟩ := firstWhole_facts hy
      exact ⟨by simpa using h1, h2⟩
theorem keysL_mem {st : St} {l : List PV} {q : PV} (hq : q ∈ l) {k : Nat} (hk : k ∈ keysP st deepN q) : k ∈ keysL st l := List.mem_flatMap.2 ⟨q, hq, hk⟩

/-- an object as a whole, handed over -/
theorem own_out {G : Ghost} {st : St} {w : World} {base : Nat} (hs : Sim G st w base) {k sz n : Nat} {cs l : List PV} (hg : st.get k = some (.cells cs false)) (hl : cs.length = n * sz) {v : Value} (hv : VRel G v (.rsl k sz 0 n)) {keys : List Nat} {G' : Ghost} (hle : G.le G') (hB : G'.B = G.B) (hs' : Sim G' (freezeK st keys) w base)
    (hd : ∀ (f : Nat) (p p' : PV) (v : Value), (∀ k ∈ keysP st f p, k ∈ keys) → VRel G v p → deep st f p = some p' → FRel G'.F v p') (hk : ∀ j ∈ keysL st cs, j ∈ keys) (hnk : k ∉ keys) (hm : deepL st cs = some l) :
    ∃ blk size, G.B k = some (blk, size) ∧ OwnRel G'.F w base v blk sz n l := by
  cases hv with
  | rsl _ _ _ _ blk size cap hBk hc hmx hz hz0 =>
    obtain ⟨cur, ty, m, g1, g2, g3, g4, g5⟩ := hs.cells k cs false blk size hg hBk
    have hfc := deepL_rel hd g5 hk hm
    have hll : l.length = cs.length := by rw [← hfc.1]; simp; omega
    refine ⟨blk, size, hBk, size, cap, cur, ty, m, rfl, hc, hmx, by omega, hz0, g1, g2, g3, by omega, by rw [hll]; exact hfc, ?_, (hs.low k _ (by rw [hg]; rfl) hBk).1⟩
    intro o
    have hg' : (freezeK st keys).get k = some (.cells cs false) := by
      have hkeep : ∀ (ks : List Nat) (s : St), s.get k = some (.cells cs false) → k ∉ ks → (freezeK s ks).get k = some (.cells cs false) := by
        intro ks
        induction ks with
        | nil => intro s h _; exact h
        | cons j ks ih =>
          intro s h hn
          simp only [freezeK]
          refine ih _ ?_ (fun h' => hn (List.mem_cons_of_mem _ h'))
          unfold freeze1
          split
          · rw [St.get_put_ne (by rintro rfl; exact hn List.mem_cons_self)]; exact h
          · exact h
      exact hkeep keys st hg hnk
    exact hs'.free k cs blk size hg' (by rw [hB]; exact hBk) o

theorem deep_tup {st : St} {f : Nat} {p : PV} {ps : List PV} (h : deep st f p = some (.tup ps)) : ∃ vs, p = .tup vs := by
  cases f with
  | zero => simp [deep] at h
  | succ f =>
    cases p <;> simp only [deep] at h <;> first | exact ⟨_, rfl⟩ | (simp at h; done) | skip
    split at h
    · split at h <;> simp at h
    · simp at h
theorem callP_ok {P : Program} {Gl : Gmap} {callE : CallE} (hc : CallOK P Gl callE) (f : FuncId) : PureOK P Gl f (callP callE f) := by
  intro args r hr F w base vs gv hF hGl hbase hA
  unfold callP at hr
  split at hr
  · rename_i r0 st' hcall
    obtain ⟨_, _, hc'⟩ := hc f _ _ _ _ hcall
    -- what is handed in
    obtain ⟨B0, hs0, hfull, hcr, hB0, hgv⟩ : ∃ B0 : Nat → Option (Nat × Nat), Sim ⟨F, B0⟩ (openArgs args).2 w base ∧ Full Gl ⟨F, B0⟩ (openArgs args).2 ∧ CRel ⟨F, B0⟩ vs (openArgs args).1 ∧ (∀ k, (openArgs args).2.cnt ≤ k → B0 k = none) ∧
        (∀ k x, ((openArgs args).2.get k).isSome → B0 k = some x → some x.1 = gv) := by
      have hempty : ∀ (l : List PV), FC F vs l → ∃ B0 : Nat → Option (Nat × Nat), Sim ⟨F, B0⟩ { sto := .leaf, cnt := 1 } w base ∧ Full Gl ⟨F, B0⟩ { sto := .leaf, cnt := 1 } ∧ CRel ⟨F, B0⟩ vs l ∧ (∀ k, 1 ≤ k → B0 k = none) ∧ (∀ k x, (St.get { sto := .leaf, cnt := 1 } k).isSome → B0 k = some x → some x.1 = gv) := by
        intro l hfc
        have hno : ∀ k, St.get { sto := .leaf, cnt := 1 } k = none := by intro k; rfl
        refine ⟨fun _ => none, ⟨hbase, hF, ?_, ?_, ?_, ?_, ?_, ?_⟩, ⟨hGl, fun k h => by rw [hno] at h; simp at h⟩, hfc.toC, fun _ _ => rfl, fun k x h => by rw [hno] at h; simp at h⟩
        all_goals (intros; simp_all)
      cases args with
      | nil => simp only [ARel] at hA; exact hempty [] hA.1
      | cons a rest =>
        by_cases ho : ∃ sz n cs, a = .osl sz n cs
        · obtain ⟨sz, n, cs, rfl⟩ := ho
          simp only [ARel] at hA
          obtain ⟨v, vs', blk, rfl, ⟨size, cap, cur, ty, m, rfl, h1, h2, h3, h4, h5, h6, h7, h8, h9, h10, h11⟩, hrest, rfl⟩ := hA
          have hget : ∀ k x, (openArgs (.osl sz n cs :: rest)).2.get k = some x → k = 0 ∧ x = .cells cs false := by
            intro k x hx
            by_cases h0 : (0 : Nat) = k
            · subst h0
              have e : (openArgs (.osl sz n cs :: rest)).2.get 0 = some (PObj.cells cs false) := St.get_putk { sto := .leaf, cnt := 1 } 0 _
              rw [e] at hx
              simp at hx
              exact ⟨rfl, hx.symm⟩
            · have h' : (({ sto := .leaf, cnt := 1 } : St).put 0 (some (PObj.cells cs false))).get k = some x := hx
              rw [St.get_put_ne h0] at h'
              have : ({ sto := .leaf, cnt := 1 } : St).get k = none := rfl
              rw [this] at h'; simp at h'
          refine ⟨fun k => if k = 0 then some (blk, size) else none, ⟨hbase, hF, ?_, ?_, ?_, ?_, ?_, fun k es b s hg hB => by
            obtain ⟨rfl, e⟩ := hget k _ hg
            subst e
            simp only [if_pos, Option.some.injEq, Prod.mk.injEq] at hB
            obtain ⟨rfl, rfl⟩ := hB
            exact ⟨_, h5, trivial⟩⟩, ⟨hGl, fun k hk => by
            obtain ⟨y, hy⟩ := Option.isSome_iff_exists.1 hk
            obtain ⟨rfl, _⟩ := hget k y hy
            simp⟩, ?_, ?_, ?_⟩
          · intro k cs' z b s hg hB
            obtain ⟨rfl, e⟩ := hget k _ hg
            simp only [PObj.cells.injEq] at e
            obtain ⟨rfl, rfl⟩ := e
            simp only [if_pos, Option.some.injEq, Prod.mk.injEq] at hB
            obtain ⟨rfl, rfl⟩ := hB
            exact ⟨cur, ty, m, h5, h6, h7, h8, h9.toC⟩
          · intro k cs' b s hg hB
            obtain ⟨rfl, e⟩ := hget k _ hg
            simp at e
          · intro k cs' b s hg hB
            obtain ⟨rfl, e⟩ := hget k _ hg
            simp only [if_pos, Option.some.injEq, Prod.mk.injEq] at hB
            obtain ⟨rfl, rfl⟩ := hB
            exact h10
          · intro k k' x x' hk hk' _ _ _
            obtain ⟨y, hy⟩ := Option.isSome_iff_exists.1 hk
            obtain ⟨y', hy'⟩ := Option.isSome_iff_exists.1 hk'
            rw [(hget k y hy).1, (hget k' y' hy').1]
          · intro k x hk hB
            obtain ⟨y, hy⟩ := Option.isSome_iff_exists.1 hk
            obtain ⟨rfl, _⟩ := hget k y hy
            simp only [if_pos, Option.some.injEq] at hB
            subst hB
            exact ⟨h11, (Array.getElem?_eq_some_iff.1 h5).1⟩
          · exact CRel.cons (.rsl 0 sz 0 n blk size cap (by simp) h1 h2 (by omega) h4) hrest.toC
          · intro k hk
            have : 1 ≤ k := hk
            simp; omega
          · intro k x hk hB
            obtain ⟨y, hy⟩ := Option.isSome_iff_exists.1 hk
            obtain ⟨rfl, _⟩ := hget k y hy
            simp only [if_pos, Option.some.injEq] at hB
            subst hB; rfl
        · have hA' : FC F vs (a :: rest) ∧ gv = none := by
            cases a <;> first | exact hA | (exfalso; exact ho ⟨_, _, _, rfl⟩)
          have ho' : openArgs (a :: rest) = (a :: rest, { sto := .leaf, cnt := 1 }) := by
            cases a <;> first | rfl | (exfalso; exact ho ⟨_, _, _, rfl⟩)
          rw [ho']
          exact hempty _ hA'.1
    refine (hc' ⟨F, B0⟩ w base vs hs0 hfull hcr hB0).mono ?_
    rintro e w' ⟨v, G', rfl, hv, hst⟩
    have hown : ∀ k x, (st'.get k).isSome → G'.B k = some x → w.heap.size ≤ x.1 ∨ some x.1 = gv := by
      intro k x hk hB
      rcases hst.own k x hk hB with h | ⟨k0, x0, a, b, c⟩
      · exact .inl h
      · right; rw [← c]; exact hgv k0 x0 a b
    have hkept : ∀ j, j < w.heap.size → some j ≠ gv → w'.heap[j]? = w.heap[j]? := fun j hj hne => hst.kept j hj (fun k x a b c => hne (by rw [← c]; exact hgv k x a b))
    have fin : ∀ (keys : List Nat) (r' : PV), (∀ (G2 : Ghost), G'.le G2 → G2.B = G'.B → Sim G2 (freezeK st' keys) w' base → (∀ (f : Nat) (p p' : PV) (v : Value), (∀ k ∈ keysP st' f p, k ∈ keys) → VRel G' v p → deep st' f p = some p' → FRel G2.F v p') → RRel G2.F w' base (fun b => w.heap.size ≤ b ∨ some b = gv) v r') →
        ∃ (v1 : Value) (F' : Nat → Nat → Option Value), Ending.returned v = .returned v1 ∧ (∀ b o u, F b o = some u → F' b o = some u) ∧ (∀ b o u, F' b o = some u → w'.cell? ⟨b, o, none⟩ = some u) ∧ w'.os = w.os ∧ w'.tape = w.tape ∧ w'.output = w.output ∧ w.heap.size ≤ w'.heap.size ∧
        (∀ j, j < w.heap.size → some j ≠ gv → w'.heap[j]? = w.heap[j]?) ∧ (∀ b o u, F' b o = some u → F b o = some u ∨ w.heap.size ≤ b ∨ some b = gv) ∧ RRel F' w' base (fun b => w.heap.size ≤ b ∨ some b = gv) v1 r' := by
      intro keys r' h
      obtain ⟨G2, h1, h2, h3, h4, h5⟩ := freeze_ex hst.sim keys
      refine ⟨v, G2.F, rfl, fun b o u hu => h1.F _ _ _ (hst.le.F b o u hu), h3.frz, hst.os, hst.tape, hst.output, hst.size, hkept, ?_, h G2 h1 h2 h3 h5⟩
      intro b o u hu
      rcases h4 b o u hu with h6 | ⟨k, size, _, h7, h8⟩
      · rcases hst.fnew b o u h6 with h9 | h9 | ⟨k0, x0, a, b', c⟩
        · exact .inl h9
        · exact .inr (.inl h9)
        · exact .inr (.inr (by rw [← c]; exact hgv k0 x0 a b'))
      · exact .inr (hown k (b, size) h7 h8)
    have one : ∀ {F' : Nat → Nat → Option Value} {u : Value} {p : PV} {A : Nat → Prop}, FRel F' u p → RRel1 F' w' base A u p := by
      intro F' u p A h
      cases h <;> (simp only [RRel1]; constructor <;> assumption)
    unfold closeRes at hr
    split at hr
    · rename_i vs1
      obtain ⟨us0, rfl, hus⟩ := hv.tup_inv
      split at hr
      · rename_i i k sz n cs hfw
        obtain ⟨g1, g2, g3, g4⟩ := firstWhole_facts hfw
        split at hr
        · simp at hr
        · rename_i hnk
          split at hr
          · rename_i l us hl hu
            simp only [Option.some.injEq] at hr
            subst hr
            refine fin (keysL st' cs ++ keysL st' (vs1.set i .und)) _ ?_
            intro G2 h1 h2 h3 h5
            have hset : CRel G' us0.toList (vs1.set i .und) := by
              refine ⟨by simp [hus.1], fun j u p hu' hp => ?_⟩
              by_cases hj : i = j
              · subst hj
                rw [List.getElem?_set_self (by have := (List.getElem?_eq_some_iff.1 hp).1; simpa using this)] at hp
                simp only [Option.some.injEq] at hp
                subst hp; exact .und u
              · rw [List.getElem?_set_ne hj] at hp
                exact hus.2 j u p hu' hp
            have hfc := deepL_rel h5 hset (fun k' hk' => List.mem_append_right _ hk') hu
            have hi : i < vs1.length := (List.getElem?_eq_some_iff.1 g1).1
            have hi0 : i < us0.toList.length := by rw [hus.1]; exact hi
            obtain ⟨blk, size, hBk, ho⟩ := own_out hst.sim g2 g3 (hus.2 i us0.toList[i] _ (List.getElem?_eq_getElem hi0) g1) h1 h2 h3 h5 (fun k' hk' => List.mem_append_left _ hk') (by simpa using hnk) hl
            refine ⟨us0, rfl, by simp [← hfc.1], fun j u p hu' hp => ?_⟩
            have hu'' : us0.toList[j]? = some u := by simpa using hu'
            by_cases hj : i = j
            · subst hj
              rw [List.getElem?_set_self (by have := (List.getElem?_eq_some_iff.1 hp).1; simpa using this)] at hp
              simp only [Option.some.injEq] at hp
              subst hp
              rw [List.getElem?_eq_getElem hi0] at hu''
              simp only [Option.some.injEq] at hu''
              subst hu''
              exact ⟨blk, hown k (blk, size) (by rw [g2]; rfl) hBk, ho⟩
            · rw [List.getElem?_set_ne hj] at hp
              exact one (hfc.2 j u p hu'' hp)
          · simp at hr
      · simp only [Option.map_eq_some_iff] at hr
        obtain ⟨us, hu, rfl⟩ := hr
        refine fin (keysL st' vs1) _ ?_
        intro G2 h1 h2 h3 h5
        have hfc := deepL_rel h5 hus (fun k' hk' => hk') hu
        exact ⟨us0, rfl, by simp [← hfc.1], fun j u p hu' hp => one (hfc.2 j u p (by simpa using hu') hp)⟩
    · rename_i hnt
      split at hr
      · rename_i k sz n cs hw
        obtain ⟨rfl, g2, g3, g4⟩ := whole_facts hw
        split at hr
        · simp at hr
        · rename_i hnk
          simp only [Option.map_eq_some_iff] at hr
          obtain ⟨l, hl, rfl⟩ := hr
          refine fin (keysL st' cs) _ ?_
          intro G2 h1 h2 h3 h5
          obtain ⟨blk, size, hBk, ho⟩ := own_out hst.sim g2 g3 hv h1 h2 h3 h5 (fun k' hk' => hk') (by simpa using hnk) hl
          exact ⟨blk, hown k (blk, size) (by rw [g2]; rfl) hBk, ho⟩
      · refine fin (keysP st' deepN r0) _ ?_
        intro G2 h1 h2 h3 h5
        have hf := h5 deepN r0 r v (fun k hk => hk) hv hr
        have h1' := one (A := fun b => w.heap.size ≤ b ∨ some b = gv) hf
        cases hf <;> first | exact h1' | skip
        -- a tuple out of what is none
        rename_i cs ps hl hh
        exfalso
        obtain ⟨vs, rfl⟩ := deep_tup hr
        exact hnt vs rfl
  · simp at hr
end Go.Pe
