/-
  Each operation of plain data does what the model's does: structs against structs, maps. No condition; nothing of the program.
-/
import Derived.Test.YtaepgkghgcchnaaPeU
import Derived.Laws.StructEq
import Derived.MapKept
set_option linter.unusedVariables false
set_option linter.unusedSimpArgs false
namespace Go.Pe
open Go Go.Am Go.RowKit
section
variable {P : Program} {V : List Nat} {base : Nat} {N : Nat → Prop} {G : Ghost} {st : St} {w : World}
theorem bytes_beq (a c : List UInt8) : ((⟨a.toArray⟩ : ByteArray) == ⟨c.toArray⟩) = (a == c) := by rw [beq_toListBytes, toList_mk, toList_mk]
theorem eq1_run {t : TypeId} {ck : Nat} (ht : ckT P t = some ck) {a c : Value} {p q : PV} (ha : VRel G a p) (hc : VRel G c q) {b : Bool} (h : eq1 ck p q = some b) :
    (∀ D, P.underlying t = some D → Instr.sameNow D a c = some b) ∧ (b = true → Instr.sameBits 10000 c a = true) ∧ ∀ d w, (Op.equalIn (d + 1) t a c).run P w = .ok b w := by
  unfold ckT at ht
  cases ha with
  | i k n =>
    cases hc with
    | i l m =>
      simp only [eq1] at h
      split at h
      · rename_i hcond
        obtain ⟨rfl, rfl⟩ := hcond
        simp only [Option.some.injEq] at h
        subst h
        split at ht
        · rename_i k' hu
          refine ⟨fun D hD => ?_, fun hb => ?_, fun d w => run_equalIn_int w d t k k' n m hu⟩
          · rw [hu] at hD; cases hD; simp [Instr.sameNow]
          · have : n = m := by simpa using hb
            subst this; simp [Instr.sameBits]
        · simp at ht
        · simp at ht
        · simp at ht
      · simp at h
    | _ => simp [eq1] at h
  | b x =>
    cases hc with
    | b y =>
      simp only [eq1] at h
      split at h
      · rename_i hcond
        subst hcond
        simp only [Option.some.injEq] at h
        subst h
        split at ht
        · simp at ht
        · rename_i hu
          refine ⟨fun D hD => ?_, fun hb => ?_, fun d w => run_equalIn_bool' w d t x y hu⟩
          · rw [hu] at hD; cases hD; simp [Instr.sameNow]
          · have : x = y := by simpa using hb
            subst this; simp [Instr.sameBits]
        · simp at ht
        · simp at ht
      · simp at h
    | _ => simp [eq1] at h
  | s x =>
    cases hc with
    | s y =>
      simp only [eq1] at h
      split at h
      · rename_i hcond
        subst hcond
        simp only [Option.some.injEq] at h
        subst h
        split at ht
        · simp at ht
        · simp at ht
        · rename_i hu
          refine ⟨fun D hD => ?_, fun hb => ?_, fun d w => ?_⟩
          · rw [hu] at hD; cases hD
            show some _ = _
            rw [bytes_beq]
          · have : x = y := by simpa using hb
            subst this
            show ((⟨x.toArray⟩ : ByteArray) == ⟨x.toArray⟩) = true
            rw [bytes_beq]; simp
          · have := run_equalIn_string w d t ⟨x.toArray⟩ ⟨y.toArray⟩ hu
            rwa [toList_mk, toList_mk] at this
        · simp at ht
      · simp at h
    | _ => simp [eq1] at h
  | _ => simp [eq1] at h
theorem gObj {r : Nat} {es : Array MapEntry} {clock : Nat} (hb : w.heap[r]? = some (.map es clock)) : (getObj r).run P w = .ok (.map es clock) w := by
  simp [getObj, Sem.run, hb]
theorem sObj {r : Nat} {es : Array MapEntry} {clock : Nat} (o : Obj) (hb : w.heap[r]? = some (.map es clock)) : (setObj r o).run P w = .ok () { w with heap := w.heap.setIfInBounds r o } := by
  simp [setObj, Sem.run, hb]
theorem ckT_agg {t : TypeId} {ck : Nat} (ht : ckT P t = some ck) : isAggT P t = some false := by
  unfold ckT at ht
  unfold isAggT
  split at ht <;> first | (rename_i hu; rw [hu]; rfl) | (simp at ht)
theorem cut1 {ps : List PV} {o : Nat} {p : PV} (h : ps[o]? = some p) : cut? ps o 1 = some [p] := by
  obtain ⟨hlt, he⟩ := List.getElem?_eq_some_iff.1 h
  unfold cut?
  rw [if_pos (by omega), List.drop_eq_getElem_cons hlt, he]
  rfl
theorem run_eqFields {d : Nat} : ∀ (fs : List Field) (l : List (Nat × Nat)), eqsT P fs = some l → ∀ {xs ys : Array Value} {ps qs : List PV}, CRel G xs.toList ps → CRel G ys.toList qs → ∀ {b : Bool}, eqsP l ps qs = some b → ∀ w, (Op.eqFields (d + 1) xs ys fs).run P w = .ok b w
  | [], l, hl, xs, ys, ps, qs, hx, hy, b, hb, w => by
    simp only [eqsT, mapO, Option.some.injEq] at hl
    subst hl
    simp only [eqsP, Option.some.injEq] at hb
    subst hb
    simp [Op.eqFields]
  | f :: fs, l, hl, xs, ys, ps, qs, hx, hy, b, hb, w => by
    simp only [eqsT, mapO] at hl
    split at hl
    · rename_i z l' hz hl'
      simp only [Option.some.injEq] at hl
      subst hl
      simp only [Option.bind_eq_bind, Option.bind_eq_some_iff] at hz
      obtain ⟨ck, hck, n, hn, hz⟩ := hz
      split at hz
      · rename_i hcond
        obtain ⟨rfl, hnm⟩ := hcond
        simp only [Option.some.injEq] at hz
        subst hz
        simp only [eqsP] at hb
        split at hb
        · rename_i p q hp hq
          obtain ⟨u, hu, hur⟩ := part_run (ckT_agg hck) hn hx (cut1 hp) (r := p) rfl w
          obtain ⟨v, hv, hvr⟩ := part_run (ckT_agg hck) hn hy (cut1 hq) (r := q) rfl w
          cases he : eq1 ck p q with
          | none => rw [he] at hb; simp at hb
          | some r =>
            rw [he] at hb
            obtain ⟨_, _, hrun⟩ := eq1_run hck hur hvr he
            have hr := hrun d w
            cases r with
            | true =>
              have ih := run_eqFields (d := d) fs l' hl' hx hy (by simpa using hb) w
              simp [Op.eqFields, hnm, hu, hv, hr, ih]
            | false =>
              simp only [Option.some.injEq] at hb
              subst hb
              simp [Op.eqFields, hnm, hu, hv, hr]
        · simp at hb
      · simp at hz
    · simp at hl
theorem op_eqs (hs : Sim G st w base) {neg : Bool} {t : TypeId} {x y : Operand} {fs : Array Field} (hu : P.underlying t = some (.struct fs)) {l : List (Nat × Nat)} (hl : eqsT P fs.toList = some l) (h1 : P.stoodInHeld t = false) (h2 : P.eqGuardType P.depth t = false)
    {a c : Value} {ps qs : List PV} (ha : VRel G a (.agg ps)) (hc : VRel G c (.agg qs)) {b : Bool} (hb : eqsP l ps qs = some b) :
    OpOK P base N G st w (do pure (.value (← do eqGuard (if neg then .neq else .eql) t x y a c; binOp (if neg then .neq else .eql) t a c))) (.b (b != neg)) st := by
  obtain ⟨xs, rfl, hx⟩ := ha.agg_inv
  obtain ⟨ys, rfl, hy⟩ := hc.agg_inv
  have hf : P.fieldsOf t = fs := by simp [Program.fieldsOf, hu]
  have hrun : (Op.equalIn 10000 t (.agg xs) (.agg ys)).run P w = .ok b w := by
    rw [run_equalIn_struct w 9999 t xs ys (by rw [hf]; exact hu) h1, hf]
    exact run_eqFields (d := 9998) fs.toList l hl hx hy hb w
  have e1 := run_eql_struct (P := P) w t xs ys
  have e2 := run_neq_struct (P := P) w t xs ys
  rw [hrun] at e1 e2
  simp only [Result.andThen] at e1 e2
  have g1 := run_eqGuard_agg (P := P) w .eql t x y xs ys h2
  have g2 := run_eqGuard_agg (P := P) w .neq t x y xs ys h2
  cases neg
  · exact OpOK.same hs (v := .bool b) (by simp [g1, e1]) (by cases b <;> exact .b _)
  · exact OpOK.same hs (v := .bool (!b)) (by simp [g2, e2]) (by cases b <;> exact .b _)
theorem zeroV_run {t : TypeId} {p : PV} (h : zeroV P t = some p) : ∃ v, VRel G v p ∧ ∀ w, (zeroValue t).run P w = .ok v w := by
  simp only [zeroV, Option.bind_eq_bind, Option.bind_eq_some_iff] at h
  obtain ⟨i, hi, v, hv, hp⟩ := h
  exact ⟨v, constP_rel hp, fun w => by simp [zeroValue, typeInfo, hi, hv]⟩
theorem checkKey_ok {t : TypeId} {ck : Nat} (ht : ckT P t = some ck) (e : Bool) (n : Nat) (v : Value) (w : World) : (Instr.checkKey e (n + 1) t v).run P w = .ok () w := by
  unfold ckT at ht
  split at ht
  · rename_i k hu; simp [Instr.checkKey, run_underlying hu]
  · rename_i hu; simp [Instr.checkKey, run_underlying hu]
  · rename_i hu; simp [Instr.checkKey, run_underlying hu]
  · simp at ht
theorem findNow_get {D : TypeDesc} {ck : Nat} {key : Value} {pk : PV} (hD : ∀ (e : Value) (p : PV) (b : Bool), VRel G e p → eq1 ck pk p = some b → Instr.sameNow D key e = some b) : ∀ (l : List MapEntry) (es : List (PV × PV)) (i : Nat), ERel G l es → ∀ r, mapget ck pk es = some r →
    (r = none ∧ Instr.findNow D key l i = some none) ∨ ∃ pv j v, r = some pv ∧ Instr.findNow D key l i = some (some (j, v)) ∧ VRel G v pv
  | [], [], i, h, r, hr => by
    simp only [mapget, Option.some.injEq] at hr
    exact .inl ⟨hr.symm, rfl⟩
  | [], _ :: _, i, h, r, hr => by have := h.1; simp at this
  | _ :: _, [], i, h, r, hr => by have := h.1; simp at this
  | e :: l, p :: es, i, h, r, hr => by
    have h0 := h.2 0 e p rfl rfl
    have ht : ERel G l es := ⟨by have := h.1; simpa using this, fun j a b ha hb => h.2 (j + 1) a b (by simpa using ha) (by simpa using hb)⟩
    simp only [mapget] at hr
    split at hr
    · rename_i he
      simp only [Option.some.injEq] at hr
      right
      exact ⟨p.2, i, e.val, hr.symm, by simp [Instr.findNow, hD _ _ _ h0.1 he], h0.2⟩
    · rename_i he
      rcases findNow_get hD l es (i + 1) ht r hr with ⟨a, b⟩ | ⟨pv, j, v, a, b, c⟩
      · left; exact ⟨a, by simp [Instr.findNow, hD _ _ _ h0.1 he, b]⟩
      · right; exact ⟨pv, j, v, a, by simp [Instr.findNow, hD _ _ _ h0.1 he, b], c⟩
    · simp at hr
theorem findNow_put {D : TypeDesc} {ck : Nat} {key : Value} {pk pv : PV} (hD : ∀ (e : Value) (p : PV) (b : Bool), VRel G e p → eq1 ck pk p = some b → Instr.sameNow D key e = some b) : ∀ (l : List MapEntry) (es : List (PV × PV)) (i : Nat), ERel G l es → ∀ es', mapput ck pk pv es = some es' →
    (Instr.findNow D key l i = some none ∧ es' = es ++ [(pk, pv)]) ∨ ∃ j e p, Instr.findNow D key l i = some (some (i + j, e.val)) ∧ l[j]? = some e ∧ es[j]? = some p ∧ eq1 ck pk p.1 = some true ∧ es' = es.set j (pk, pv)
  | [], [], i, h, r, hr => by
    simp only [mapput, Option.some.injEq] at hr
    exact .inl ⟨rfl, hr.symm⟩
  | [], _ :: _, i, h, r, hr => by have := h.1; simp at this
  | _ :: _, [], i, h, r, hr => by have := h.1; simp at this
  | e :: l, p :: es, i, h, r, hr => by
    have h0 := h.2 0 e p rfl rfl
    have ht : ERel G l es := ⟨by have := h.1; simpa using this, fun j a b ha hb => h.2 (j + 1) a b (by simpa using ha) (by simpa using hb)⟩
    simp only [mapput] at hr
    split at hr
    · rename_i he
      simp only [Option.some.injEq] at hr
      right
      exact ⟨0, e, p, by simp [Instr.findNow, hD _ _ _ h0.1 he], rfl, rfl, he, by rw [← hr]; rfl⟩
    · rename_i he
      simp only [Option.map_eq_some_iff] at hr
      obtain ⟨r', hr', rfl⟩ := hr
      rcases findNow_put hD l es (i + 1) ht r' hr' with ⟨a, b⟩ | ⟨j, e0, p0, a, b, c, d, f⟩
      · left; exact ⟨by simp [Instr.findNow, hD _ _ _ h0.1 he, a], by rw [b]; rfl⟩
      · right; exact ⟨j + 1, e0, p0, by simp [Instr.findNow, hD _ _ _ h0.1 he, a]; omega, by simpa using b, by simpa using c, d, by rw [f]; rfl⟩
    · simp at hr
theorem mapT_some {t k e : TypeId} (h : mapT P t = some (k, e)) : P.underlying t = some (.map k e) := by
  unfold mapT at h
  split at h
  · rename_i hu; simp only [Option.some.injEq, Prod.mk.injEq] at h; obtain ⟨rfl, rfl⟩ := h; exact hu
  · simp at h
theorem ckT_some {t : TypeId} {ck : Nat} (h : ckT P t = some ck) : ∃ D, P.underlying t = some D := by
  unfold ckT at h
  split at h
  · rename_i hu; exact ⟨_, hu⟩
  · rename_i hu; exact ⟨_, hu⟩
  · rename_i hu; exact ⟨_, hu⟩
  · simp at h
theorem op_mkmap (hs : Sim G st w base) {t : TypeId} (key : Nat) (hN : N key) (hk : G.B key = none) : OpOK P base N G st w (do pure (.value (← Instr.makeMap t none))) (.mp key) (st.put key (some (.map []))) := by
  obtain ⟨G', hB, hst⟩ := Step.allocM hs key hN hk (.map []) (.map #[] 0) (by simp) (fun G' => ⟨#[], 0, rfl, rfl, fun i e p hh => by simp at hh⟩)
  exact ⟨_, _, G', by simp [Instr.makeMap], .inl ⟨_, rfl, .mp key _ _ hB⟩, hst⟩
theorem op_lookup (hs : Sim G st w base) {t kt et : TypeId} (hu : mapT P t = some (kt, et)) {ck : Nat} (hck : ckT P kt = some ck) {ok : Bool} {zero : PV} (hz : zeroV P et = some zero) {m k : Value} {pm pk : PV} (hm : VRel G m pm) (hk : VRel G k pk) {r : PV}
    (hr : (pm = .nmp ∧ r = (if ok then .tup [zero, .b false] else zero)) ∨ ∃ j es g, pm = .mp j ∧ st.get j = some (.map es) ∧ mapget ck pk es = some g ∧ r = (if ok then .tup [g.getD zero, .b g.isSome] else g.getD zero)) :
    OpOK P base N G st w (do pure (.value (← Instr.lookup t m k ok))) r st := by
  obtain ⟨z, hzr, hzrun⟩ := zeroV_run (G := G) hz
  obtain ⟨D, hD⟩ := ckT_some hck
  have htup : ∀ {v : Value} {p : PV} {b : Bool}, VRel G v p → VRel G (.tuple #[v, .bool b]) (.tup [p, .b b]) := fun h => VRel.tup_c (CRel.cons h (CRel.cons (.b _) .nil))
  rcases hr with ⟨rfl, rfl⟩ | ⟨j, es, g, rfl, hg, hmg, rfl⟩
  · cases hm
    have hc : (Instr.checkKey true 10000 kt k).run P w = .ok () w := checkKey_ok hck true 9999 k w
    refine OpOK.same hs (v := if ok then .tuple #[z, .bool false] else z) ?_ ?_
    · simp [Instr.lookup, run_underlying (mapT_some hu), hc, Instr.findKey, run_underlying hD, Instr.findNow, hzrun]
    · cases ok
      · exact hzr
      · exact htup hzr
  · cases hm with
    | mp _ blk size hB =>
      obtain ⟨ents, clock, h1, h2⟩ := hs.mapAt j es blk size hg hB
      have hob := gObj (P := P) h1
      have hc : (Instr.checkKey ents.isEmpty 10000 kt k).run P w = .ok () w := checkKey_ok hck ents.isEmpty 9999 k w
      rcases findNow_get (G := G) (D := D) (ck := ck) (key := k) (pk := pk) (fun e p b he h => (eq1_run hck hk he h).1 D hD) ents.toList es 0 h2 g hmg with ⟨rfl, hf⟩ | ⟨pv, i, v, rfl, hf, hv⟩
      · refine OpOK.same hs (v := if ok then .tuple #[z, .bool false] else z) ?_ ?_
        · simp [Instr.lookup, run_underlying (mapT_some hu), hob, hc, Instr.findKey, run_underlying hD, hf, hzrun]
        · cases ok
          · exact hzr
          · exact htup hzr
      · refine OpOK.same hs (v := if ok then .tuple #[v, .bool true] else v) ?_ ?_
        · simp [Instr.lookup, run_underlying (mapT_some hu), hob, hc, Instr.findKey, run_underlying hD, hf]
        · cases ok
          · exact hv
          · exact htup hv
theorem op_mapup (hs : Sim G st w base) {t kt et : TypeId} (hu : mapT P t = some (kt, et)) {ck : Nat} (hck : ckT P kt = some ck) {k v : Value} {pk pv : PV} {m : Value} {j : Nat} (hm : VRel G m (.mp j)) (hk : VRel G k pk) (hv : VRel G v pv) {es es' : List (PV × PV)} (hg : st.get j = some (.map es)) (hp : mapput ck pk pv es = some es') :
    OpOK P base N G st w (do Instr.mapUpdate t m k v; pure .skip) (.tup []) (st.put j (some (.map es'))) := by
  obtain ⟨D, hD⟩ := ckT_some hck
  cases hm with
  | mp _ blk size hB =>
    obtain ⟨ents, clock, h1, h2⟩ := hs.mapAt j es blk size hg hB
    have hob := gObj (P := P) h1
    have hc : (Instr.checkKey false 10000 kt k).run P w = .ok () w := checkKey_ok hck false 9999 k w
    have hlt : blk < w.heap.size := (Array.getElem?_eq_some_iff.1 h1).1
    have hset := fun o => sObj (P := P) o h1
    have stp : ∀ (ents' : Array MapEntry) (clock' : Nat), ERel G ents'.toList es' → Step base N G st w G (st.put j (some (.map es'))) { w with heap := w.heap.setIfInBounds blk (.map ents' clock') } := by
      intro ents' clock' he
      refine Step.mapw hs j (.map es) (.map es') blk size (by simp) (by simp) hg hB (.map ents' clock') (by simp [hlt]) ⟨ents', clock', rfl, he⟩ (by simp) (fun i hi => ?_) rfl rfl rfl
      simp [Array.getElem?_setIfInBounds_ne (Ne.symm hi)]
    rcases findNow_put (G := G) (D := D) (ck := ck) (key := k) (pk := pk) (pv := pv) (fun e p b he h => (eq1_run hck hk he h).1 D hD) ents.toList es 0 h2 es' hp with ⟨hf, rfl⟩ | ⟨i, e, p, hf, hl, hes, he, rfl⟩
    · refine ⟨.skip, _, G, ?_, .inr ⟨rfl, rfl⟩, stp (ents.push { key := k, val := v, born := clock }) (clock + 1) ?_⟩
      · simp [Instr.mapUpdate, run_underlying (mapT_some hu), hob, hc, Instr.findKey, run_underlying hD, hf, hset]
      · refine ⟨by have := h2.1; simp at this; simp [this], fun q a b ha hb => ?_⟩
        have hlen := h2.1
        by_cases hq : q < ents.toList.length
        · rw [Array.toList_push, List.getElem?_append_left hq] at ha
          rw [List.getElem?_append_left (by omega)] at hb
          exact h2.2 q a b ha hb
        · rw [Array.toList_push, List.getElem?_append_right (by omega)] at ha
          rw [List.getElem?_append_right (by omega)] at hb
          have h0 : q - ents.toList.length = 0 := by
            have := (List.getElem?_eq_some_iff.1 ha).1; simp at this ⊢; omega
          rw [h0] at ha
          rw [← hlen, h0] at hb
          simp at ha hb
          subst ha; subst hb
          exact ⟨hk, hv⟩
    · obtain ⟨hrk, _⟩ := h2.2 i e p hl hes
      have hsb := (eq1_run hck hk hrk he).2.1 rfl
      have hei : ents[i]? = some e := by simpa using hl
      rw [Nat.zero_add] at hf
      refine ⟨.skip, _, G, ?_, .inr ⟨rfl, rfl⟩, stp (ents.modify i fun e => { e with key := k, val := v }) clock ?_⟩
      · simp [Instr.mapUpdate, run_underlying (mapT_some hu), hob, hc, Instr.findKey, run_underlying hD, hf, hei, Instr.keyThatStays, hsb, hset]
      · have hil : i < ents.size := (Array.getElem?_eq_some_iff.1 hei).1
        refine ⟨by have := h2.1; simp at this; simp [this], fun q a b ha hb => ?_⟩
        rw [Array.toList_modify, List.getElem?_modify] at ha
        by_cases hq : i = q
        · subst hq
          have hil2 : i < es.length := by have := h2.1; simp at this; omega
          rw [List.getElem?_set_self hil2] at hb
          rw [hl] at ha
          simp at ha
          subst ha
          cases hb
          exact ⟨hk, hv⟩
        · rw [List.getElem?_set_ne hq] at hb
          simp only [if_neg hq, id_map'] at ha
          exact h2.2 q a b (by simpa using ha) hb
theorem op_srange (hs : Sim G st w base) {t : TypeId} (hu : P.underlying t = some .string) {l : List UInt8} (key : Nat) (hN : N key) (hk : G.B key = none) : OpOK P base N G st w (do pure (.value (← Instr.range t (.string ⟨l.toArray⟩)))) (.ptr key 0) (st.put key (some (.iter l 0))) := by
  obtain ⟨G', hB, hst⟩ := Step.allocM hs key hN hk (.iter l 0) (.stringIter ⟨l.toArray⟩ 0) (by simp) (fun G' => rfl)
  exact ⟨_, _, G', by simp [Instr.range, run_underlying hu], .inl ⟨_, rfl, .ptr key 0 _ _ hB⟩, hst⟩
theorem op_snext (hs : Sim G st w base) {ty : TypeId} {v : Value} {k : Nat} (hv : VRel G v (.ptr k 0)) {l : List UInt8} {p : Nat} (hg : st.get k = some (.iter l p)) {r : PV} {st' : St}
    (hr : (p < l.length ∧ r = .tup [.b true, .i .i64 p, .i .i32 (Utf8.decode ⟨l.toArray⟩ p).1] ∧ st' = st.put k (some (.iter l (p + (Utf8.decode ⟨l.toArray⟩ p).2)))) ∨ (¬ p < l.length ∧ r = .tup [.b false] ∧ st' = st)) :
    OpOK P base N G st w (do pure (.value (← Instr.next v true ty))) r st' := by
  cases hv with
  | ptr _ _ blk size hB =>
    obtain ⟨obj, h1, h2⟩ := hs.mps k _ blk size hg hB
    have h2 : obj = .stringIter ⟨l.toArray⟩ p := h2
    subst h2
    have hsz : (⟨l.toArray⟩ : ByteArray).size = l.length := by simp [ByteArray.size]
    have hlt : blk < w.heap.size := (Array.getElem?_eq_some_iff.1 h1).1
    have hob : (getObj blk).run P w = .ok (.stringIter ⟨l.toArray⟩ p) w := by simp [getObj, Sem.run, h1]
    have hset : ∀ o, (setObj blk o).run P w = .ok () { w with heap := w.heap.setIfInBounds blk o } := by intro o; simp [setObj, Sem.run, h1]
    rcases hr with ⟨hp, rfl, rfl⟩ | ⟨hp, rfl, rfl⟩
    · refine ⟨.value (.tuple #[.bool true, .int .i64 p, .int .i32 (Utf8.decode ⟨l.toArray⟩ p).1]), { w with heap := w.heap.setIfInBounds blk (.stringIter ⟨l.toArray⟩ (p + (Utf8.decode ⟨l.toArray⟩ p).2)) }, G, ?_, .inl ⟨_, rfl, VRel.tup_c (CRel.cons (.b _) (CRel.cons (.i _ _) (CRel.cons (.i _ _) CRel.nil)))⟩, ?_⟩
      · simp [Instr.next, hob, hsz, hp, hset, goInt]
      · refine Step.mapw hs k (.iter l p) (.iter l _) blk size (by simp) (by simp) hg hB _ (by simp [hlt]) rfl (by simp) (fun i hi => ?_) rfl rfl rfl
        simp [Array.getElem?_setIfInBounds_ne (Ne.symm hi)]
    · exact OpOK.same hs (v := .tuple #[.bool false]) (by simp [Instr.next, hob, hsz, hp]) (VRel.tup_c (CRel.cons (.b _) CRel.nil))
theorem op_mlen (hs : Sim G st w base) {ty t kt et : TypeId} (hu : P.underlying t = some (.map kt et)) {m : Value} {pm r : PV} (hm : VRel G m pm) (hr : (pm = .nmp ∧ r = .i .i64 0) ∨ ∃ j es, pm = .mp j ∧ st.get j = some (.map es) ∧ r = .i .i64 es.length) :
    OpOK P base N G st w (do pure (.value (← Builtin.len_ #[t] ty #[m]))) r st := by
  rcases hr with ⟨rfl, rfl⟩ | ⟨j, es, rfl, hg, rfl⟩
  · cases hm
    exact OpOK.same hs (v := .int .i64 0) (by simp [Builtin.len_, run_underlying hu, goInt]) (.i _ _)
  · cases hm with
    | mp _ blk size hB =>
      obtain ⟨ents, clock, h1, h2⟩ := hs.mapAt j es blk size hg hB
      have hob := gObj (P := P) h1
      have hlen : ents.size = es.length := by have := h2.1; simpa using this
      exact OpOK.same hs (v := .int .i64 es.length) (by simp [Builtin.len_, run_underlying hu, hob, goInt, hlen]) (.i _ _)
end
end Go.Pe
