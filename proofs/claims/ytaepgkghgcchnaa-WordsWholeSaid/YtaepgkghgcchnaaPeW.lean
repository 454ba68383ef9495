/-
  Each operation of plain data but a call does what the model's does. No condition; nothing of the program.
-/
import Derived.Test.YtaepgkghgcchnaaPeV
set_option linter.unusedVariables false
set_option linter.unusedSimpArgs false
namespace Go.Pe
open Go Go.Am Go.RowKit

theorem mapO_some {α β : Type} {f : α → Option β} : ∀ {l : List α} {m : List β}, mapO f l = some m → m.length = l.length ∧ ∀ (i : Nat) (x : α) (y : β), l[i]? = some x → m[i]? = some y → f x = some y
  | [], m, h => by simp [mapO] at h; subst h; simp
  | a :: r, m, h => by
    simp only [mapO] at h
    split at h
    · rename_i x y hx hy
      simp only [Option.some.injEq] at h
      subst h
      obtain ⟨h1, h2⟩ := mapO_some hy
      refine ⟨by simp [h1], fun i u v hu hv => ?_⟩
      cases i with
      | zero => simp at hu hv; subst hu; subst hv; exact hx
      | succ i => exact h2 i u v (by simpa using hu) (by simpa using hv)
    · simp at h
section
variable {P : Program} {V : List Nat} {base : Nat} {G : Ghost} {st : St} {w : World} {ρc : Operand → Value} {ρ : Arg → PV}

theorem cArgO_rel (hρ : ∀ x y, cArg V x = some y → VRel G (ρc x) (ρ y)) {x : Option Operand} {y : Option Arg} (h : cArgO V x = some y) : ORel G (x.map ρc) (y.map ρ) := by
  cases x with
  | none => simp [cArgO] at h; subst h; trivial
  | some x =>
    simp only [cArgO, Option.map_eq_some_iff] at h
    obtain ⟨a, ha, rfl⟩ := h
    exact hρ x a ha
theorem args_rel (hρ : ∀ x y, cArg V x = some y → VRel G (ρc x) (ρ y)) {l : List Operand} {m : List Arg} (h : mapO (cArg V) l = some m) : CRel G (l.map ρc) (m.map ρ) := by
  obtain ⟨h1, h2⟩ := mapO_some h
  refine ⟨by simp [h1], fun i v p hv hp => ?_⟩
  simp only [List.getElem?_map, Option.map_eq_some_iff] at hv hp
  obtain ⟨x, hx, rfl⟩ := hv
  obtain ⟨y, hy, rfl⟩ := hp
  exact hρ x y (h2 i x y hx hy)

theorem min_rel (w : World) : ∀ {l : List Value} {m : List PV} {v : Value} {p r : PV}, CRel G l m → VRel G v p → minP p m = some r → ∃ u, (l.foldlM Builtin.min2 v).run P w = .ok u w ∧ VRel G u r
  | [], m, v, p, r, h, hv, hr => by
    have : m = [] := by have := h.1; simpa using this.symm
    subst this
    simp [minP] at hr; subst hr; exact ⟨v, rfl, hv⟩
  | x :: l, [], v, p, r, h, hv, hr => by have := h.1; simp at this
  | x :: l, q :: m, v, p, r, h, hv, hr => by
    obtain ⟨h1, h2⟩ := h.uncons
    cases hv <;> cases h1 <;> simp [minP] at hr
    rename_i k1 n1 k2 n2
    obtain ⟨rfl, hr⟩ := hr
    obtain ⟨u, hu, hru⟩ := min_rel w h2 (.i k1 (if n2 < n1 then n2 else n1)) hr
    exact ⟨u, by simp [List.foldlM_cons, Builtin.min2, hu], hru⟩

theorem max_rel (w : World) : ∀ {l : List Value} {m : List PV} {v : Value} {p r : PV}, CRel G l m → VRel G v p → maxP p m = some r → ∃ u, (l.foldlM Builtin.max2 v).run P w = .ok u w ∧ VRel G u r
  | [], m, v, p, r, h, hv, hr => by
    have : m = [] := by have := h.1; simpa using this.symm
    subst this
    simp [maxP] at hr; subst hr; exact ⟨v, rfl, hv⟩
  | x :: l, [], v, p, r, h, hv, hr => by have := h.1; simp at this
  | x :: l, q :: m, v, p, r, h, hv, hr => by
    obtain ⟨h1, h2⟩ := h.uncons
    cases hv <;> cases h1 <;> simp [maxP] at hr
    rename_i k1 n1 k2 n2
    obtain ⟨rfl, hr⟩ := hr
    obtain ⟨u, hu, hru⟩ := max_rel w h2 (.i k1 (if n2 > n1 then n2 else n1)) hr
    exact ⟨u, by simp [List.foldlM_cons, Builtin.max2, hu], hru⟩

set_option maxHeartbeats 2000000 in
theorem evOp_sound {modes : FuncId → Option Bool} {cfg : Cfg} {callE : CallE} {o : Oper} {m : MOp} (hm : cOp P V modes o.op = some m) (hpl : m.plain = true) (hs : Sim G st w base) (hρ : ∀ x y, cArg V x = some y → VRel G (ρc x) (ρ y)) {key : Nat} (hk : G.B key = none)
    {r : PV} {st' : St} (he : evOp cfg callE ρ st key m = some (r, st')) : OpOK P base (fun k => k = key) G st w (execOp ρc o) r st' := by
  cases hop : o.op <;> rw [hop] at hm
  case move x =>
    simp only [cOp, Option.map_eq_some_iff] at hm
    obtain ⟨a, ha, rfl⟩ := hm
    simp only [evOp, Option.some.injEq, Prod.mk.injEq] at he
    obtain ⟨rfl, rfl⟩ := he
    exact OpOK.same hs (by simp [execOp, hop]) (hρ x a ha)
  case assign x =>
    simp only [cOp, Option.map_eq_some_iff] at hm
    obtain ⟨a, ha, rfl⟩ := hm
    simp only [evOp, Option.some.injEq, Prod.mk.injEq] at he
    obtain ⟨rfl, rfl⟩ := he
    exact OpOK.same hs (by simp [execOp, hop]) (hρ x a ha)
  case pick c a b =>
    simp only [cOp, Option.bind_eq_bind, Option.bind_eq_some_iff, Option.some.injEq] at hm
    obtain ⟨c', hc, a', ha, b', hb, rfl⟩ := hm
    simp only [evOp] at he
    have h1 := hρ _ _ hc
    split at he
    · rename_i x hx
      simp only [Option.some.injEq, Prod.mk.injEq] at he
      obtain ⟨rfl, rfl⟩ := he
      rw [hx] at h1
      obtain ⟨q, hq⟩ : ∃ q, ρc c = q := ⟨_, rfl⟩
      rw [hq] at h1
      cases h1
      cases x
      · exact OpOK.same hs (v := ρc b) (by simp [execOp, hop, hq, asBool]) (hρ _ _ hb)
      · exact OpOK.same hs (v := ρc a) (by simp [execOp, hop, hq, asBool]) (hρ _ _ ha)
    · simp at he
  case alloc e =>
    simp only [cOp, Option.bind_eq_bind, Option.bind_eq_some_iff, Option.some.injEq] at hm
    obtain ⟨z, hz, rfl⟩ := hm
    simp only [evOp, Option.some.injEq, Prod.mk.injEq] at he
    obtain ⟨rfl, rfl⟩ := he
    simp only [execOp, hop]
    exact op_alloc hs hz key rfl hk
  case box e x =>
    simp only [cOp, Option.bind_eq_bind, Option.bind_eq_some_iff, Option.some.injEq] at hm
    obtain ⟨a, ha, rfl⟩ := hm
    simp only [evOp] at he
    split at he
    · rename_i h1
      simp only [Option.some.injEq, Prod.mk.injEq] at he
      obtain ⟨rfl, rfl⟩ := he
      simp only [execOp, hop]
      exact op_box hs (hρ _ _ ha) h1 key rfl hk
    · simp at he
  case build t parts =>
    simp only [cOp, Option.bind_eq_bind, Option.bind_eq_some_iff, Option.some.injEq] at hm
    obtain ⟨z, hz, ps, hps, rfl⟩ := hm
    simp only [evOp, Option.map_eq_some_iff, Prod.mk.injEq] at he
    obtain ⟨cs, hcs, rfl, rfl⟩ := he
    simp only [execOp, hop]
    have hpt : (parts.map fun (x : Nat × Operand) => (x.1, ρc x.2)) = (parts.toList.map fun (x : Nat × Operand) => (x.1, ρc x.2)).toArray := by apply Array.ext'; simp
    show OpOK _ _ _ _ _ _ (do pure (.value (← Instr.build t (parts.map fun (x : Nat × Operand) => (x.1, ρc x.2))))) _ _
    rw [hpt]
    unfold partsT at hps
    split at hps
    · rename_i fs hu
      split at hps
      · rename_i hall
        obtain ⟨h1, h2⟩ := mapO_some hps
        refine op_build_struct hs hu hz (ps := ps.map fun p => (p.1, p.2.1, ρ p.2.2)) (by simp [h1]) ?_ (fun f hf => by have := List.all_eq_true.1 hall f hf; simpa using this) hcs
        intro i x y hx hy
        simp only [List.getElem?_map, Option.map_eq_some_iff] at hx hy
        obtain ⟨x0, hx0, rfl⟩ := hx
        obtain ⟨y0, hy0, rfl⟩ := hy
        have := h2 i x0 y0 hx0 hy0
        simp only [Option.bind_eq_bind, Option.bind_eq_some_iff, Option.some.injEq] at this
        obtain ⟨f, hf, n, hn, q, hq, rfl⟩ := this
        exact ⟨⟨f, hf, rfl, hn⟩, hρ _ _ hq⟩
      · simp at hps
    · rename_i n e hu
      split at hps
      · simp at hps
      · rename_i n' hn'
        obtain ⟨h1, h2⟩ := mapO_some hps
        refine op_build_array hs hu hz hn' (ps := ps.map fun p => (p.1, p.2.1, ρ p.2.2)) (by simp [h1]) ?_ hcs
        intro i x y hx hy
        simp only [List.getElem?_map, Option.map_eq_some_iff] at hx hy
        obtain ⟨x0, hx0, rfl⟩ := hx
        obtain ⟨y0, hy0, rfl⟩ := hy
        have := h2 i x0 y0 hx0 hy0
        simp only [Option.bind_eq_bind, Option.bind_eq_some_iff, Option.some.injEq] at this
        obtain ⟨q, hq, rfl⟩ := this
        exact ⟨rfl, rfl, hρ _ _ hq⟩
    · simp at hps
  case buildSlice t len parts =>
    simp only [cOp, Option.bind_eq_bind, Option.bind_eq_some_iff] at hm
    obtain ⟨e, hu', sz, hn, z, hz, ps, hps, hm⟩ := hm
    split at hm
    · rename_i hlen
      simp only [Option.some.injEq] at hm
      subst hm
      have hu : P.underlying t = some (.slice e) := by
        unfold sliceT at hu'
        split at hu'
        · rename_i e' he'; simp at hu'; subst hu'; exact he'
        · simp at hu'
      simp only [evOp] at he
      split at he
      · rename_i cs hcs
        split at he
        · rename_i hcond
          simp only [Option.some.injEq, Prod.mk.injEq] at he
          obtain ⟨rfl, rfl⟩ := he
          simp only [execOp, hop]
          have hpt : (parts.map fun (x : Nat × Operand) => (x.1, ρc x.2)) = (parts.toList.map fun (x : Nat × Operand) => (x.1, ρc x.2)).toArray := by apply Array.ext'; simp
          show OpOK _ _ _ _ _ _ (do pure (.value (← Instr.buildSlice t len (parts.map fun (x : Nat × Operand) => (x.1, ρc x.2))))) _ _
          rw [hpt]
          obtain ⟨h1, h2⟩ := mapO_some hps
          refine op_bslice hs hu hn hz hlen hcond.1 (ps := ps.map fun p => (p.1, p.2.1, ρ p.2.2)) (by simp [h1]) ?_ hcs hcond.2 key rfl hk
          intro i x y hx hy
          simp only [List.getElem?_map, Option.map_eq_some_iff] at hx hy
          obtain ⟨x0, hx0, rfl⟩ := hx
          obtain ⟨y0, hy0, rfl⟩ := hy
          have := h2 i x0 y0 hx0 hy0
          simp only [Option.bind_eq_bind, Option.bind_eq_some_iff, Option.some.injEq] at this
          obtain ⟨q, hq, rfl⟩ := this
          exact ⟨rfl, rfl, hρ _ _ hq⟩
        · simp at he
      · simp at he
    · simp at hm
  case load t a =>
    simp only [cOp, Option.bind_eq_bind, Option.bind_eq_some_iff, Option.some.injEq] at hm
    obtain ⟨g, hg, n, hn, x, hx, rfl⟩ := hm
    simp only [evOp] at he
    split at he
    · rename_i cs hcs
      simp only [Option.map_eq_some_iff, Prod.mk.injEq] at he
      obtain ⟨q, hq, rfl, rfl⟩ := he
      simp only [execOp, hop]
      exact op_load hs hg hn (hρ _ _ hx) hcs hq
    · simp at he
  case store t a x =>
    simp only [cOp, Option.bind_eq_bind, Option.bind_eq_some_iff, Option.some.injEq] at hm
    obtain ⟨n, hn, a', ha, x', hx, rfl⟩ := hm
    simp only [evOp, Option.map_eq_some_iff, Prod.mk.injEq] at he
    obtain ⟨q, hq, rfl, rfl⟩ := he
    simp only [execOp, hop]
    exact op_store hs hn (hρ _ _ ha) (hρ _ _ hx) hq
  case nilCheck x =>
    simp only [cOp, Option.bind_eq_bind, Option.bind_eq_some_iff, Option.some.injEq] at hm
    obtain ⟨a, ha, rfl⟩ := hm
    simp only [evOp] at he
    have hv := hρ _ _ ha
    split at he
    · rename_i k o' hx
      simp only [Option.some.injEq, Prod.mk.injEq] at he
      obtain ⟨rfl, rfl⟩ := he
      rw [hx] at hv
      exact op_nilck hs hv (by simp) rfl hop
    · rename_i cs hx
      simp only [Option.some.injEq, Prod.mk.injEq] at he
      obtain ⟨rfl, rfl⟩ := he
      rw [hx] at hv
      exact op_nilck hs hv (by simp) rfl hop
    · simp at he
  case unOp op t x =>
    simp only [cOp, Option.bind_eq_bind, Option.bind_eq_some_iff, Option.some.injEq] at hm
    obtain ⟨a, ha, rfl⟩ := hm
    simp only [evOp, Option.map_eq_some_iff, Prod.mk.injEq] at he
    obtain ⟨q, hq, rfl, rfl⟩ := he
    simp only [execOp, hop]
    exact op_un hs (hρ _ _ ha) hq
  case makeMap t rs =>
    cases rs with
    | some x => simp [cOp] at hm
    | none =>
      simp only [cOp, Option.some.injEq] at hm
      subst hm
      simp only [evOp, Option.some.injEq, Prod.mk.injEq] at he
      obtain ⟨rfl, rfl⟩ := he
      simp only [execOp, hop, Option.map_none]
      exact op_mkmap hs key rfl hk
  case range t x =>
    simp only [cOp] at hm
    split at hm
    · rename_i hu
      simp only [Option.bind_eq_bind, Option.bind_eq_some_iff, Option.some.injEq] at hm
      obtain ⟨a, ha, rfl⟩ := hm
      have hv := hρ _ _ ha
      simp only [execOp, hop]
      simp only [evOp] at he
      split at he
      · rename_i l hx
        simp only [Option.some.injEq, Prod.mk.injEq] at he
        obtain ⟨rfl, rfl⟩ := he
        rw [hx] at hv
        generalize ρc x = vx at hv ⊢
        cases hv
        exact op_srange hs hu key rfl hk
      · simp at he
    · simp at hm
  case next x b =>
    cases b with
    | false => simp [cOp] at hm
    | true =>
      simp only [cOp, Option.bind_eq_bind, Option.bind_eq_some_iff, Option.some.injEq] at hm
      obtain ⟨a, ha, rfl⟩ := hm
      have hv := hρ _ _ ha
      simp only [execOp, hop]
      simp only [evOp] at he
      split at he
      · rename_i k hx
        rw [hx] at hv
        split at he
        · rename_i l p hg
          split at he
          · rename_i hp
            simp only [Option.some.injEq, Prod.mk.injEq] at he
            obtain ⟨rfl, rfl⟩ := he
            exact op_snext hs hv hg (.inl ⟨hp, rfl, rfl⟩)
          · rename_i hp
            simp only [Option.some.injEq, Prod.mk.injEq] at he
            obtain ⟨rfl, rfl⟩ := he
            exact op_snext hs hv hg (.inr ⟨hp, rfl, rfl⟩)
        · simp at he
      · simp at he
  case lookup t x i ok =>
    simp only [cOp, Option.bind_eq_bind, Option.bind_eq_some_iff, Option.some.injEq] at hm
    obtain ⟨⟨kt, et⟩, hu, ck, hck, z, hz, a, ha, c, hc, rfl⟩ := hm
    have hv := hρ _ _ ha
    have hw := hρ _ _ hc
    simp only [execOp, hop]
    simp only [evOp] at he
    split at he
    · rename_i hx
      simp only [Option.some.injEq, Prod.mk.injEq] at he
      obtain ⟨rfl, rfl⟩ := he
      exact op_lookup hs hu hck hz hv hw (.inl ⟨hx, rfl⟩)
    · rename_i j hx
      split at he
      · rename_i es hg
        simp only [Option.map_eq_some_iff, Prod.mk.injEq] at he
        obtain ⟨g, hgm, rfl, rfl⟩ := he
        exact op_lookup hs hu hck hz hv hw (.inr ⟨j, es, g, hx, hg, hgm, rfl⟩)
      · simp at he
    · simp at he
  case mapUpdate t x i y =>
    simp only [cOp, Option.bind_eq_bind, Option.bind_eq_some_iff, Option.some.injEq] at hm
    obtain ⟨⟨kt, et⟩, hu, ck, hck, a, ha, c, hc, d, hd, rfl⟩ := hm
    have hv := hρ _ _ ha
    have hw := hρ _ _ hc
    have hy := hρ _ _ hd
    simp only [execOp, hop]
    simp only [evOp] at he
    split at he
    · rename_i j hx
      split at he
      · rename_i es hg
        simp only [Option.map_eq_some_iff, Prod.mk.injEq] at he
        obtain ⟨es', hgm, rfl, rfl⟩ := he
        rw [hx] at hv
        exact op_mapup hs hu hck hv hw hy hg hgm
      · simp at he
    · simp at he
  case insert t x i y =>
    simp only [cOp, Option.bind_eq_bind, Option.bind_eq_some_iff, Option.some.injEq] at hm
    obtain ⟨⟨kt, et⟩, hu, ck, hck, a, ha, c, hc, d, hd, rfl⟩ := hm
    have hv := hρ _ _ ha
    have hw := hρ _ _ hc
    have hy := hρ _ _ hd
    simp only [execOp, hop]
    simp only [evOp] at he
    split at he
    · rename_i j hx
      split at he
      · rename_i es hg
        simp only [Option.map_eq_some_iff, Prod.mk.injEq] at he
        obtain ⟨es', hgm, rfl, rfl⟩ := he
        rw [hx] at hv
        exact op_mapup hs hu hck hv hw hy hg hgm
      · simp at he
    · simp at he
  case extract x i =>
    simp only [cOp, Option.bind_eq_bind, Option.bind_eq_some_iff, Option.some.injEq] at hm
    obtain ⟨a, ha, rfl⟩ := hm
    simp only [evOp] at he
    split at he
    · rename_i vs hx
      simp only [Option.map_eq_some_iff, Prod.mk.injEq] at he
      obtain ⟨q, hq, rfl, rfl⟩ := he
      simp only [execOp, hop]
      exact op_extract hs (by have := hρ _ _ ha; rwa [hx] at this) hq
    · simp at he
  case makeFunc fn first cap =>
    cases fn <;> simp only [cOp] at hm
    case func f =>
      split at hm
      · rename_i hf
        simp only [Option.bind_eq_bind, Option.bind_eq_some_iff, Option.some.injEq] at hm
        obtain ⟨l, hl, rfl⟩ := hm
        simp only [evOp, Option.some.injEq, Prod.mk.injEq] at he
        obtain ⟨rfl, rfl⟩ := he
        simp only [execOp, hop]
        have hfe : first.map ρc = #[] := by
          have : first = #[] := by simpa using hf
          subst this; simp
        rw [hfe]
        exact op_mkfn hs (by simpa using args_rel hρ hl)
      · split at hm
        · rename_i hf
          simp only [Option.bind_eq_bind, Option.bind_eq_some_iff, Option.some.injEq] at hm
          obtain ⟨l, hl, rfl⟩ := hm
          simp only [evOp, Option.some.injEq, Prod.mk.injEq] at he
          obtain ⟨rfl, rfl⟩ := he
          simp only [execOp, hop]
          have hfe : cap.map ρc = #[] := by
            have : cap = #[] := by simpa using hf
            subst this; simp
          rw [hfe]
          exact op_mkbfn hs (by simpa using args_rel hρ hl)
        · simp at hm
    all_goals simp at hm
  case fieldAddr s x f =>
    simp only [cOp] at hm
    split at hm
    · rename_i fs hu
      simp only [Option.bind_eq_bind, Option.bind_eq_some_iff] at hm
      obtain ⟨fd, hf, n, hn, hm⟩ := hm
      split at hm
      · simp at hm
      · rename_i h0
        simp only [Option.bind_eq_bind, Option.bind_eq_some_iff, Option.some.injEq] at hm
        obtain ⟨a, ha, rfl⟩ := hm
        simp only [evOp] at he
        simp only [execOp, hop]
        have hv := hρ _ _ ha
        split at he
        · rename_i k o' hx
          simp only [Option.some.injEq, Prod.mk.injEq] at he
          obtain ⟨rfl, rfl⟩ := he
          rw [hx] at hv
          exact op_fieldAddr hs hu hf hn h0 hv rfl
        · rename_i cs hx
          simp only [Option.some.injEq, Prod.mk.injEq] at he
          obtain ⟨rfl, rfl⟩ := he
          rw [hx] at hv
          exact op_fieldAddr hs hu hf hn h0 hv rfl
        · simp at he
    · simp at hm
  case field s x f =>
    simp only [cOp] at hm
    split at hm
    · rename_i fs hu
      simp only [Option.bind_eq_bind, Option.bind_eq_some_iff, Option.some.injEq] at hm
      obtain ⟨fd, hf, g, hg, n, hn, a, ha, rfl⟩ := hm
      simp only [evOp] at he
      simp only [execOp, hop]
      have hv := hρ _ _ ha
      split at he
      · rename_i cs hx
        split at he
        · rename_i l hl
          simp only [Option.map_eq_some_iff, Prod.mk.injEq] at he
          obtain ⟨q, hq, rfl, rfl⟩ := he
          rw [hx] at hv
          exact op_field hs hu hf hg hn hv hl hq
        · simp at he
      · simp at he
    · simp at hm
  case indexAddr t x i =>
    simp only [cOp] at hm
    split at hm
    · rename_i n e hu
      simp only [Option.bind_eq_bind, Option.bind_eq_some_iff, Option.some.injEq] at hm
      obtain ⟨sz, hn, a, ha, b, hb, rfl⟩ := hm
      simp only [evOp] at he
      simp only [execOp, hop]
      have hv := hρ _ _ ha
      have hw := hρ _ _ hb
      split at he
      · rename_i k o' k2 j hx hy
        split at he
        · rename_i hcond
          simp only [Option.some.injEq, Prod.mk.injEq] at he
          obtain ⟨rfl, rfl⟩ := he
          rw [hx] at hv
          rw [hy] at hw
          generalize ρc i = vi at hw ⊢
          cases hw
          exact op_indexAddr_arr hs hu hn hv hcond.1 hcond.2 rfl
        · simp at he
      · rename_i cs k2 j hx hy
        split at he
        · rename_i hcond
          simp only [Option.some.injEq, Prod.mk.injEq] at he
          obtain ⟨rfl, rfl⟩ := he
          rw [hx] at hv
          rw [hy] at hw
          generalize ρc i = vi at hw ⊢
          cases hw
          exact op_indexAddr_arr hs hu hn hv hcond.1 hcond.2 rfl
        · simp at he
      · simp at he
    · rename_i e hu
      simp only [Option.bind_eq_bind, Option.bind_eq_some_iff, Option.some.injEq] at hm
      obtain ⟨sz, hn, a, ha, b, hb, rfl⟩ := hm
      simp only [evOp] at he
      simp only [execOp, hop]
      have hv := hρ _ _ ha
      have hw := hρ _ _ hb
      split at he
      · rename_i k z off n k2 j hx hy
        split at he
        · rename_i hcond
          simp only [Option.some.injEq, Prod.mk.injEq] at he
          obtain ⟨rfl, rfl⟩ := he
          rw [hx] at hv
          rw [hy] at hw
          generalize ρc i = vi at hw ⊢
          cases hw
          exact op_indexAddr_sl hs hu hn hv (by simp only []; rw [if_pos hcond])
        · simp at he
      · rename_i n cs k2 j hx hy
        split at he
        · rename_i hcond
          simp only [Option.some.injEq, Prod.mk.injEq] at he
          obtain ⟨rfl, rfl⟩ := he
          rw [hx] at hv
          rw [hy] at hw
          generalize ρc i = vi at hw ⊢
          cases hw
          exact op_indexAddr_sl hs hu hn hv (by simp only []; rw [if_pos hcond])
        · simp at he
      · simp at he
    · simp at hm
  case index t x i =>
    simp only [cOp] at hm
    split at hm
    · rename_i n e hu
      simp only [Option.bind_eq_bind, Option.bind_eq_some_iff, Option.some.injEq] at hm
      obtain ⟨g, hg, sz, hn, a, ha, b, hb, rfl⟩ := hm
      simp only [evOp] at he
      simp only [execOp, hop]
      have hv := hρ _ _ ha
      have hw := hρ _ _ hb
      split at he
      · rename_i cs k2 j hx hy
        split at he
        · rename_i hcond
          split at he
          · rename_i l hl
            simp only [Option.map_eq_some_iff, Prod.mk.injEq] at he
            obtain ⟨q, hq, rfl, rfl⟩ := he
            rw [hx] at hv
            rw [hy] at hw
            generalize ρc i = vi at hw ⊢
            cases hw
            exact op_index hs hu hg hn hv hcond.1 hcond.2 hl hq
          · simp at he
        · simp at he
      · simp at he
    · rename_i hu
      simp only [Option.bind_eq_bind, Option.bind_eq_some_iff, Option.some.injEq] at hm
      obtain ⟨a, ha, b, hb, rfl⟩ := hm
      simp only [evOp] at he
      simp only [execOp, hop]
      have hv := hρ _ _ ha
      have hw := hρ _ _ hb
      split at he
      · rename_i l k2 j hx hy
        split at he
        · rename_i hcond
          simp only [Option.map_eq_some_iff, Prod.mk.injEq] at he
          obtain ⟨q, hq, rfl, rfl⟩ := he
          rw [hx] at hv
          rw [hy] at hw
          generalize ρc i = vi at hw ⊢
          generalize ρc x = vx at hv ⊢
          cases hw
          cases hv
          exact op_sindex hs hu hcond hq
        · simp at he
      · simp at he
    · simp at hm
  case binOp op t x y t2 =>
    simp only [cOp, Option.bind_eq_bind, Option.bind_eq_some_iff] at hm
    obtain ⟨a, ha, c, hc, hm⟩ := hm
    have hv := hρ _ _ ha
    have hw := hρ _ _ hc
    simp only [execOp, hop]
    split at hm
    · simp only [Option.some.injEq] at hm
      subst hm
      simp only [evOp, Option.map_eq_some_iff, Prod.mk.injEq] at he
      obtain ⟨q, hq, rfl, rfl⟩ := he
      have := op_bin (P := P) (t := t) (x := x) (y := y) (N := fun k => k = key) hs hv hw hq
      simpa using this
    · simp only [Option.some.injEq] at hm
      subst hm
      simp only [evOp, Option.map_eq_some_iff, Prod.mk.injEq] at he
      obtain ⟨q, hq, rfl, rfl⟩ := he
      have := op_bin (P := P) (t := t) (x := x) (y := y) (N := fun k => k = key) hs hv hw hq
      simpa using this
    · rename_i hu
      split at hm
      · simp only [Option.some.injEq] at hm
        subst hm
        simp only [evOp, Option.map_eq_some_iff, Prod.mk.injEq] at he
        obtain ⟨q, hq, rfl, rfl⟩ := he
        have := op_eqb (x := x) (y := y) (N := fun k => k = key) hs hu hv hw hq
        simpa using this
      · simp only [Option.some.injEq] at hm
        subst hm
        simp only [evOp, Option.map_eq_some_iff, Prod.mk.injEq] at he
        obtain ⟨q, hq, rfl, rfl⟩ := he
        have := op_eqb (x := x) (y := y) (N := fun k => k = key) hs hu hv hw hq
        simpa using this
      · simp at hm
    · rename_i fs hu
      simp only [Option.bind_eq_bind, Option.bind_eq_some_iff] at hm
      obtain ⟨l, hl, hm⟩ := hm
      split at hm
      · simp at hm
      · rename_i hcond
        simp only [Bool.or_eq_true, not_or, Bool.not_eq_true] at hcond
        have fin : ∀ neg, evOp cfg callE ρ st key (.eqs neg l a c) = some (r, st') → OpOK P base (fun k => k = key) G st w (do pure (.value (← do eqGuard (if neg then .neq else .eql) t x y (ρc x) (ρc y); binOp (if neg then .neq else .eql) t (ρc x) (ρc y)))) r st' := by
          intro neg he
          simp only [evOp] at he
          split at he
          · rename_i ps qs hx hy
            simp only [Option.map_eq_some_iff, Prod.mk.injEq] at he
            obtain ⟨q, hq, rfl, rfl⟩ := he
            rw [hx] at hv
            rw [hy] at hw
            exact op_eqs hs hu hl hcond.1 hcond.2 hv hw hq
          · simp at he
        split at hm
        · simp only [Option.some.injEq] at hm
          subst hm
          simpa using fin false he
        · simp only [Option.some.injEq] at hm
          subst hm
          simpa using fin true he
        · simp at hm
    · rename_i d h1 h2 h3 h4 hu
      split at hm
      · rename_i kd hk2
        simp only [Option.some.injEq] at hm
        subst hm
        simp only [evOp, Option.map_eq_some_iff, Prod.mk.injEq] at he
        obtain ⟨q, hq, rfl, rfl⟩ := he
        have := op_eqn (x := x) (y := y) (N := fun k => k = key) hs hu hk2 hv hw hq
        simpa using this
      · rename_i kd hk2
        simp only [Option.some.injEq] at hm
        subst hm
        simp only [evOp, Option.map_eq_some_iff, Prod.mk.injEq] at he
        obtain ⟨q, hq, rfl, rfl⟩ := he
        have := op_eqn (x := x) (y := y) (N := fun k => k = key) hs hu hk2 hv hw hq
        simpa using this
      · simp at hm
    · simp at hm
  case convert src dst x =>
    simp only [cOp, Option.bind_eq_bind, Option.bind_eq_some_iff] at hm
    obtain ⟨a, ha, hm⟩ := hm
    have hv := hρ _ _ ha
    simp only [execOp, hop]
    generalize ρc x = vx at hv ⊢
    split at hm
    · rename_i k0 k h1 h2
      simp only [Option.some.injEq] at hm
      subst hm
      simp only [evOp] at he
      split at he
      · rename_i c k1 n hcv hx
        simp only [Cv.int.injEq] at hcv
        subst hcv
        simp only [Option.some.injEq, Prod.mk.injEq] at he
        obtain ⟨rfl, rfl⟩ := he
        rw [hx] at hv
        cases hv
        exact op_conv_int hs h2 h1
      all_goals first | (rename_i hcv _; simp at hcv; done) | (simp at he; done) | skip
      all_goals simp_all
    · rename_i h1 h2
      simp only [Option.some.injEq] at hm
      subst hm
      cases hx : ρ a <;> simp [evOp, hx] at he
      obtain ⟨rfl, rfl⟩ := he
      rw [hx] at hv
      cases hv
      exact op_conv_same hs h2 h1
    · rename_i e h1 h2
      split at hm
      · rename_i he'
        simp only [Option.some.injEq] at hm
        subst hm
        cases hx : ρ a <;> simp [evOp, hx] at he
        obtain ⟨hl, rfl, rfl⟩ := he
        rw [hx] at hv
        cases hv
        exact op_s2b hs h1 h2 he' hl key rfl hk
      · simp at hm
    · rename_i e h1 h2
      split at hm
      · rename_i he'
        simp only [Option.some.injEq] at hm
        subst hm
        simp only [evOp] at he
        split at he
        · rename_i n cs hcs
          simp only [Option.map_eq_some_iff, Prod.mk.injEq] at he
          obtain ⟨l, hl, rfl, rfl⟩ := he
          exact op_b2s hs h1 he' h2 hv hcs hl
        · simp at he
      · simp at hm
    · rename_i e0 e h1 h2
      split at hm
      · rename_i he'
        split at hm
        · rename_i hsd
          subst hsd
          simp only [Option.some.injEq] at hm
          subst hm
          simp only [evOp] at he
          split at he
          · rename_i k z off n hx
            split at he
            · rename_i cs fz hg
              simp only [Option.some.injEq, Prod.mk.injEq] at he
              obtain ⟨rfl, rfl⟩ := he
              rw [hx] at hv
              exact op_mark hs h2 he' hv hg
            · simp at he
          · simp at he
        · simp at hm
      · simp at hm
    · simp at hm
  case makeSlice t l c =>
    simp only [cOp, Option.bind_eq_bind, Option.bind_eq_some_iff] at hm
    obtain ⟨e, hu', hm⟩ := hm
    have hu : P.underlying t = some (.slice e) := by
      unfold sliceT at hu'
      split at hu'
      · rename_i e' he'; simp at hu'; subst hu'; exact he'
      · simp at hu'
    have key2 : ∀ {sz bytes : Nat} {z : List PV} {b : Arg}, sizeT P e = some sz → bytesT P e = some bytes → zeroT P e = some z → cArg V l = some b → ρc c = ρc l → m = .mkslice sz bytes z b →
        OpOK P base (fun k => k = key) G st w (execOp ρc o) r st' := by
      intro sz bytes z b hn hby hz hb hcl hmm
      subst hmm
      simp only [evOp] at he
      have hw := hρ _ _ hb
      split at he
      · rename_i n hx
        split at he
        · rename_i hcond
          simp only [Option.some.injEq, Prod.mk.injEq] at he
          obtain ⟨rfl, rfl⟩ := he
          rw [hx] at hw
          simp only [execOp, hop, hcl]
          generalize ρc l = vl at hw ⊢
          cases hw
          exact op_mkslice hs hu hn hby hz hcond.1 hcond.2.1 hcond.2.2.1 hcond.2.2.2.1 hcond.2.2.2.2 key rfl hk
        · simp at he
      · simp at he
    split at hm
    · rename_i a b
      split at hm
      · rename_i hab
        subst hab
        simp only [Option.bind_eq_bind, Option.bind_eq_some_iff, Option.some.injEq] at hm
        obtain ⟨sz, hn, bytes, hby, z, hz, b, hb, hmm⟩ := hm
        exact key2 hn hby hz hb rfl hmm.symm
      · simp at hm
    · rename_i a b
      split at hm
      · rename_i hab
        subst hab
        simp only [Option.bind_eq_bind, Option.bind_eq_some_iff, Option.some.injEq] at hm
        obtain ⟨sz, hn, bytes, hby, z, hz, b, hb, hmm⟩ := hm
        exact key2 hn hby hz hb rfl hmm.symm
      · simp at hm
    · simp at hm
  case slice t x lo hi mx =>
    cases mx with
    | some q => simp [cOp] at hm
    | none =>
      simp only [cOp, Option.bind_eq_bind, Option.bind_eq_some_iff] at hm
      obtain ⟨a, ha, l, hl, h, hh, hm⟩ := hm
      have hv := hρ _ _ ha
      have hlo := cArgO_rel hρ hl
      have hhi := cArgO_rel hρ hh
      simp only [execOp, hop, Option.map_none]
      split at hm
      · rename_i n e hu
        simp only [Option.bind_eq_bind, Option.bind_eq_some_iff, Option.some.injEq] at hm
        obtain ⟨sz, hn, rfl⟩ := hm
        simp only [evOp] at he
        split at he
        · rename_i k off hx
          split at he
          · rename_i h' cs fz b1 hg
            split at he
            · rename_i l' b2
              split at he
              · rename_i hcond
                simp only [Option.some.injEq, Prod.mk.injEq] at he
                obtain ⟨rfl, rfl⟩ := he
                rw [hx] at hv
                exact op_slice_arr hs hu hn hv hg hlo hhi b1 b2 hcond.1 hcond.2.1 hcond.2.2.1 hcond.2.2.2
              · simp at he
            · simp at he
          · simp at he
        · simp at he
      · rename_i e hu
        simp only [Option.bind_eq_bind, Option.bind_eq_some_iff, Option.some.injEq] at hm
        obtain ⟨sz, hn, rfl⟩ := hm
        simp only [evOp, Option.map_eq_some_iff, Prod.mk.injEq] at he
        obtain ⟨q, hq, rfl, rfl⟩ := he
        exact op_slice_sl hs hu hn hv hlo hhi hq
      · rename_i hu
        simp only [Option.some.injEq] at hm
        subst hm
        simp only [evOp] at he
        split at he
        · rename_i s hx
          split at he
          · rename_i h' b1
            split at he
            · rename_i l' b2
              simp only [Option.some.injEq, Prod.mk.injEq] at he
              obtain ⟨rfl, rfl⟩ := he
              rw [hx] at hv
              generalize ρc x = vx at hv ⊢
              cases hv
              exact op_substr hs hu hlo hhi b1 b2
            · simp at he
          · simp at he
        · simp at he
      · simp at hm
  case call c =>
    simp only [cOp] at hm
    split at hm
    · split at hm
      · split at hm <;> (simp only [Option.some.injEq] at hm; subst hm; simp [MOp.plain] at hpl)
      · simp at hm
    · simp only [Option.bind_eq_bind, Option.bind_eq_some_iff, Option.some.injEq] at hm
      obtain ⟨_, _, _, _, rfl⟩ := hm
      simp [MOp.plain] at hpl
    · rename_i hca
      split at hm
      · rename_i t u s x hat har
        simp only [Option.bind_eq_bind, Option.bind_eq_some_iff] at hm
        obtain ⟨e, hu', hm⟩ := hm
        have hu : P.underlying t = some (.slice e) := by
          unfold sliceT at hu'
          split at hu'
          · rename_i e' he'; simp at hu'; subst hu'; exact he'
          · simp at hu'
        have hat' : c.argTypes = #[t, u] := by apply Array.ext'; simpa using hat
        have har' : c.args = #[s, x] := by apply Array.ext'; simpa using har
        have hex : execOp ρc o = (do pure (.value (← Builtin.append_ #[t, u] o.type #[ρc s, ρc x]))) := by
          simp [execOp, hop, resolve, hca, hat', har', invoke, builtin]
        rw [hex]
        split at hm
        · rename_i e2 hu2
          simp only [Option.bind_eq_bind, Option.bind_eq_some_iff, Option.some.injEq] at hm
          obtain ⟨z, hz, sz, hn, bytes, hby, a, ha, b, hb, rfl⟩ := hm
          simp only [evOp] at he
          split at he
          · rename_i m news hc
            split at he
            · rename_i hcond
              obtain ⟨nv, h1, h2, h3⟩ := src_of hs hu2 (hρ _ _ hb) hc hcond.2.2
              exact op_append hs hu hn hby hz h3 h1 h2 hcond.1 hcond.2.1 (hρ _ _ ha) key rfl hk he
            · simp at he
          · simp at he
        · rename_i hu2
          simp only [Option.bind_eq_bind, Option.bind_eq_some_iff] at hm
          obtain ⟨z, hz, n, hn, bb, hby, hm⟩ := hm
          split at hm
          · rename_i hcond
            obtain ⟨rfl, rfl⟩ := hcond
            simp only [Option.bind_eq_bind, Option.bind_eq_some_iff, Option.some.injEq] at hm
            obtain ⟨a, ha, b, hb, rfl⟩ := hm
            simp only [evOp] at he
            split at he
            · rename_i l hx
              have hv := hρ _ _ hb
              rw [hx] at hv
              generalize ρc x = vx at hv ⊢
              cases hv
              have hsz : (⟨l.toArray⟩ : ByteArray).size = l.length := by simp [ByteArray.size]
              have hbc : byteCells ⟨l.toArray⟩ = bytesC l := by simp [byteCells, bytesC]
              have h3 := Src.ofString (P := P) w hu2 ⟨l.toArray⟩
              rw [hsz, hbc] at h3
              exact op_append hs hu hn hby hz h3 (bytes_rel G l) (by simp [ofBytes]) (by omega) (by omega) (hρ _ _ ha) key rfl hk he
            · simp at he
          · simp at hm
        · simp at hm
      · simp at hm
    · rename_i hca
      split at hm
      · rename_i t x hat har
        have hat' : c.argTypes = #[t] := by apply Array.ext'; simpa using hat
        have har' : c.args = #[x] := by apply Array.ext'; simpa using har
        have hex : execOp ρc o = (do pure (.value (← Builtin.len_ #[t] o.type #[ρc x]))) := by
          simp [execOp, hop, resolve, hca, hat', har', invoke, builtin]
        rw [hex]
        split at hm
        · rename_i hu
          simp only [Option.bind_eq_bind, Option.bind_eq_some_iff, Option.some.injEq] at hm
          obtain ⟨a, ha, rfl⟩ := hm
          simp only [evOp] at he
          split at he
          · rename_i l hx
            simp only [Option.some.injEq, Prod.mk.injEq] at he
            obtain ⟨rfl, rfl⟩ := he
            have hv := hρ _ _ ha
            rw [hx] at hv
            generalize ρc x = vx at hv ⊢
            cases hv
            exact op_slen hs hu
          · simp at he
        · rename_i e hu
          simp only [Option.bind_eq_bind, Option.bind_eq_some_iff, Option.some.injEq] at hm
          obtain ⟨a, ha, rfl⟩ := hm
          simp only [evOp, Option.map_eq_some_iff, Prod.mk.injEq] at he
          obtain ⟨q, hq, rfl, rfl⟩ := he
          exact op_len hs hu (hρ _ _ ha) hq
        · rename_i n e hu
          simp only [Option.some.injEq] at hm
          subst hm
          simp only [evOp, Option.some.injEq, Prod.mk.injEq] at he
          obtain ⟨rfl, rfl⟩ := he
          exact op_alen hs hu
        · rename_i kt et hu
          simp only [Option.bind_eq_bind, Option.bind_eq_some_iff, Option.some.injEq] at hm
          obtain ⟨a, ha, rfl⟩ := hm
          have hv := hρ _ _ ha
          simp only [evOp] at he
          split at he
          · rename_i hx
            simp only [Option.some.injEq, Prod.mk.injEq] at he
            obtain ⟨rfl, rfl⟩ := he
            exact op_mlen hs hu hv (.inl ⟨hx, rfl⟩)
          · rename_i j hx
            split at he
            · rename_i es hg
              simp only [Option.some.injEq, Prod.mk.injEq] at he
              obtain ⟨rfl, rfl⟩ := he
              exact op_mlen hs hu hv (.inr ⟨j, es, hx, hg, rfl⟩)
            · simp at he
          · simp at he
        · simp at hm
      · simp at hm
    · rename_i hca
      split at hm
      · rename_i t u d s hat har
        simp only [Option.bind_eq_bind, Option.bind_eq_some_iff, Option.some.injEq] at hm
        obtain ⟨e, hu', e2, hu2', sz, hn, a, ha, b, hb, rfl⟩ := hm
        have hsl : ∀ {t e : TypeId}, sliceT P t = some e → P.underlying t = some (.slice e) := by
          intro t e hu'
          unfold sliceT at hu'
          split at hu'
          · rename_i e' he'; simp at hu'; subst hu'; exact he'
          · simp at hu'
        have hat' : c.argTypes = #[t, u] := by apply Array.ext'; simpa using hat
        have har' : c.args = #[d, s] := by apply Array.ext'; simpa using har
        have hex : execOp ρc o = (do pure (.value (← Builtin.copy_ #[t, u] o.type #[ρc d, ρc s]))) := by
          simp [execOp, hop, resolve, hca, hat', har', invoke, builtin]
        rw [hex]
        simp only [evOp] at he
        split at he
        · rename_i m cs hc
          exact op_copy hs (hsl hu') (hsl hu2') hn (hρ _ _ ha) (hρ _ _ hb) hc he
        · simp at he
      · simp at hm
    · rename_i hca
      split at hm
      · rename_i x ys har
        simp only [Option.bind_eq_bind, Option.bind_eq_some_iff, Option.some.injEq] at hm
        obtain ⟨a, ha, b, hb, rfl⟩ := hm
        simp only [evOp, Option.map_eq_some_iff, Prod.mk.injEq] at he
        obtain ⟨q, hq, rfl, rfl⟩ := he
        obtain ⟨u, hu, hr⟩ := max_rel (P := P) w (args_rel hρ hb) (hρ _ _ ha) hq
        refine OpOK.same hs (v := u) ?_ hr
        have har' : c.args = (x :: ys).toArray := by apply Array.ext'; simpa using har
        simp [execOp, hop, resolve, hca, har', invoke, builtin, Builtin.max_, hu]
      · simp at hm
    · rename_i hca
      split at hm
      · rename_i x ys har
        simp only [Option.bind_eq_bind, Option.bind_eq_some_iff, Option.some.injEq] at hm
        obtain ⟨a, ha, b, hb, rfl⟩ := hm
        simp only [evOp, Option.map_eq_some_iff, Prod.mk.injEq] at he
        obtain ⟨q, hq, rfl, rfl⟩ := he
        obtain ⟨u, hu, hr⟩ := min_rel (P := P) w (args_rel hρ hb) (hρ _ _ ha) hq
        refine OpOK.same hs (v := u) ?_ hr
        have har' : c.args = (x :: ys).toArray := by apply Array.ext'; simpa using har
        simp [execOp, hop, resolve, hca, har', invoke, builtin, Builtin.min_, hu]
      · simp at hm
    · simp at hm
  all_goals (simp [cOp] at hm)
end
end Go.Pe
