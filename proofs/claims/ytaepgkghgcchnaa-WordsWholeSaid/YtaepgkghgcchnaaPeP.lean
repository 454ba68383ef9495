/-
  Each operation of plain data does what the model's does, first part. No condition; nothing of the program.
-/
import Derived.Test.YtaepgkghgcchnaaPeO
import Derived.Laws.IdiomStrings
set_option linter.unusedVariables false
set_option linter.unusedSimpArgs false
namespace Go.Pe
open Go Go.Am Go.RowKit

/-- an operation goes through, and leaves what plain data tells -/
def OpOK (P : Program) (base : Nat) (N : Nat → Prop) (G : Ghost) (st : St) (w : World) (sem : Sem Next) (r : PV) (st' : St) : Prop :=
  ∃ n w' G', sem.run P w = .ok n w' ∧ ((∃ v, n = .value v ∧ VRel G' v r) ∨ (n = .skip ∧ r = .tup [])) ∧ Step base N G st w G' st' w'
section
variable {P : Program} {V : List Nat} {base : Nat} {N : Nat → Prop} {G : Ghost} {st : St} {w : World}
theorem OpOK.same (hs : Sim G st w base) {sem : Sem Next} {v : Value} {r : PV} (h : sem.run P w = .ok (.value v) w) (hv : VRel G v r) : OpOK P base N G st w sem r st :=
  ⟨_, w, G, h, .inl ⟨v, rfl, hv⟩, Step.refl hs⟩

theorem constP_rel {v : Value} {p : PV} (h : constP v = some p) : VRel G v p := by
  cases v with
  | bool x => simp [constP] at h; subst h; exact .b x
  | int k n => simp [constP] at h; subst h; exact .i k n
  | string s => simp [constP] at h; subst h; exact .s s.data.toList
  | pointer a => cases a <;> simp [constP] at h; subst h; exact .nptr
  | slice a n c =>
    cases a with
    | some a => simp [constP] at h
    | none =>
      cases n with
      | succ n => simp [constP] at h
      | zero =>
        cases c with
        | succ c => simp [constP] at h
        | zero => simp [constP] at h; subst h; exact .nsl
  | map r => cases r <;> simp [constP] at h; subst h; exact .nmp
  | nilFunc => simp [constP] at h; subst h; exact .nfn
  | agg cs =>
    simp only [constP, Option.map_eq_some_iff] at h
    obtain ⟨l, hl, rfl⟩ := h
    refine VRel.agg_c ?_
    generalize cs.toList = vs at hl
    induction vs generalizing l with
    | nil => simp [mapO] at hl; subst hl; exact .nil
    | cons v vs ih =>
      simp only [mapO] at hl
      split at hl
      · rename_i x y hx hy
        simp only [Option.some.injEq] at hl
        subst hl
        refine CRel.cons ?_ (ih y hy)
        split at hx <;> simp at hx <;> subst hx <;> first | exact .b _ | exact .i _ _ | exact .s _ | exact .nptr | exact .nsl | exact .nmp | exact .nfn
      · simp at hl
  | _ => simp [constP] at h

theorem isAggT_run {t : TypeId} {b : Bool} (h : isAggT P t = some b) (w : World) : (isAgg t).run P w = .ok b w := by
  unfold isAggT at h
  obtain ⟨d, hd, hb⟩ := Option.map_eq_some_iff.1 h
  unfold isAgg
  rw [Sem.run_bind, run_underlying hd w]
  cases d <;> simp_all
theorem sizeT_run {t : TypeId} {n : Nat} (h : sizeT P t = some n) (w : World) : (sizeOf t).run P w = .ok n w := by
  obtain ⟨i, hi, hn⟩ := Option.map_eq_some_iff.1 h
  simp [sizeOf, typeInfo, hi, hn]
theorem zeroT_run {t : TypeId} {z : List PV} (h : zeroT P t = some z) : ∃ (v : Value) (i : TypeInfo), P.info? t = some i ∧ i.zero = some v ∧ z.length = i.size ∧ CRel G v.cells.toList z ∧ v.cells.size = i.size ∧ (∀ u ∈ v.cells.toList, u.oneCell' = true) ∧ ∀ w, (zeroValue t).run P w = .ok v w := by
  simp only [zeroT, Option.bind_eq_bind, Option.bind_eq_some_iff] at h
  obtain ⟨i, hi, v, hv, p, hp, h⟩ := h
  split at h
  · rename_i hl
    simp only [Option.some.injEq] at h
    subst h
    have hc := (constP_rel (G := G) hp).cells (by simpa using hl.2)
    refine ⟨v, i, hi, hv, hl.1, hc.1, ?_, hc.2, fun w => by simp [zeroValue, typeInfo, hi, hv]⟩
    have := hc.1.1
    simp at this; omega
  · simp at h

/-- a variable is loaded -/
theorem loadVar_ok {t : TypeId} {agg : Bool} {n : Nat} (ha : isAggT P t = some agg) (hn : sizeT P t = some n) {b o : Nat} {vs : List Value} (hr : w.rangeAt b o vs) (hl : vs.length = n) {cs : List PV} (hc : CRel G vs cs) {r : PV} (ho : ofCells agg cs = some r) :
    ∃ v, (loadVar t ⟨b, o, none⟩).run P w = .ok v w ∧ VRel G v r := by
  unfold ofCells at ho
  cases agg with
  | true =>
    simp only [if_true, Option.some.injEq] at ho
    subst ho
    have hl2 : (loadCells ⟨b, o, none⟩ n).run P w = .ok vs.toArray w := by
      subst hl
      exact run_loadCells_list (P := P) w ⟨b, o, none⟩ vs (fun j v hv => by rw [Addr.add_mid]; exact hr j v hv)
    exact ⟨.agg vs.toArray, by simp [loadVar, isAggT_run ha, sizeT_run hn, hl2], VRel.agg_c (by simpa using hc)⟩
  | false =>
    simp only [Bool.false_eq_true, if_false] at ho
    match cs, ho with
    | [p], ho =>
      simp only [Option.some.injEq] at ho
      subst ho
      have hv1 : vs.length = 1 := hc.1
      match vs, hv1 with
      | [v], _ =>
        have h0 := hr 0 v rfl
        rw [Nat.add_zero] at h0
        exact ⟨v, by simp [loadVar, isAggT_run ha, h0], hc.2 0 v p rfl rfl⟩

variable {ρc : Operand → Value} {ρ : Arg → PV}
theorem op_alloc (hs : Sim G st w base) {e : TypeId} {z : List PV} (hz : zeroT P e = some z) (key : Nat) (hN : N key) (hk : G.B key = none) :
    OpOK P base N G st w (do pure (.value (← Instr.alloc e true (.tuple #[])))) (.ptr key 0) (st.put key (some (.cells z false))) := by
  obtain ⟨v, i, hi, hv, hl, hc, hsz, _, hrun⟩ := zeroT_run (G := G) hz
  obtain ⟨G', hB, hst⟩ := Step.alloc hs key hN hk z v.cells e (0, 0) (.inl rfl) (by omega) (by rw [List.take_of_length_le (by simp; omega)]; exact hc)
  exact ⟨_, _, G', by simp [Instr.alloc, hrun, newVar, newRow], .inl ⟨_, rfl, .ptr key 0 _ _ hB⟩, hst⟩
theorem op_box (hs : Sim G st w base) {e : TypeId} {v : Value} {p : PV} (hv : VRel G v p) (h1 : p.cells.all PV.one = true) (key : Nat) (hN : N key) (hk : G.B key = none) :
    OpOK P base N G st w (do pure (.value (← Instr.box e v))) (.ptr key 0) (st.put key (some (.cells p.cells false))) := by
  obtain ⟨hc, _⟩ := hv.cells h1
  obtain ⟨G', hB, hst⟩ := Step.alloc hs key hN hk p.cells v.cells e (0, 0) (.inl rfl) (by have := hc.1; simp at this; omega) (by rw [List.take_of_length_le (by have := hc.1; omega)]; exact hc)
  exact ⟨_, _, G', by simp [Instr.box, newVar, newRow], .inl ⟨_, rfl, .ptr key 0 _ _ hB⟩, hst⟩
theorem op_load (hs : Sim G st w base) {t : TypeId} {agg : Bool} {n : Nat} (ha : isAggT P t = some agg) (hn : sizeT P t = some n) {v : Value} {p : PV} (hv : VRel G v p) {cs : List PV} (hl : loadP st n p = some cs) {r : PV} (ho : ofCells agg cs = some r) :
    OpOK P base N G st w (do pure (.value (← Instr.loadAt t v))) r st := by
  obtain ⟨b, o, vs, rfl, hr, hc, hln⟩ := hs.range hv hl
  obtain ⟨u, hu, hru⟩ := loadVar_ok ha hn hr (by rw [hc.1]; exact hln) hc ho
  exact OpOK.same hs (by simp [Instr.loadAt, Instr.sureAddr, hu]) hru
theorem op_store (hs : Sim G st w base) {t : TypeId} {n : Nat} (hn : sizeT P t = some n) {a v : Value} {pa pv : PV} (ha : VRel G a pa) (hv : VRel G v pv) {st' : St} (h : storeP st n pa pv = some st') :
    OpOK P base N G st w (do Instr.storeAt t a v; pure .skip) (.tup []) st' := by
  cases ha with
  | ptr k off blk size hB =>
    simp only [storeP] at h
    split at h
    · rename_i cs hg
      split at h
      · rename_i hcond
        obtain ⟨h1, h2, h3⟩ := hcond
        simp only [Option.some.injEq] at h
        subst h
        obtain ⟨hc, hone⟩ := hv.cells h3
        have hvl : v.cells.size = n := by have := hc.1; simp at this; omega
        obtain ⟨cur, ty, m, g1, g2, g3, g4, g5⟩ := hs.cells k cs false blk size hg hB
        obtain ⟨⟨cur', f1, f2⟩, f3, f4, f5, f6, f7⟩ := setCells_facts blk v.cells.toList off w cur ty m g1 (by simp; omega)
        have hsz' : cur'.size = size := by
          have := congrArg List.length f2
          simp at this; omega
        have hrun : (Instr.storeAt t (.pointer (some ⟨blk, off, none⟩)) v).run P w = .ok () (w.setCells blk off v.cells.toList) := by
          obtain ⟨i, hi, hn'⟩ := Option.map_eq_some_iff.1 hn
          have hcell : ∀ j, j < v.cells.toList.length → (w.cell? ⟨blk, off + 0 + j, none⟩).isSome = true := by
            intro j hj
            simp at hj
            have : off + 0 + j < cur.size := by omega
            simp [World.cell?, g1, show off + j < cur.size by omega]
          have hfz : ∀ j, j < v.cells.toList.length → w.frozen? ⟨blk, off + 0 + j, none⟩ = false := by
            intro j hj
            simp at hj
            simp only [World.frozen?, g1]
            rcases g2 with rfl | g2
            · simp
            · simp; omega
          have := run_storeCells_cells (P := P) blk off v.cells.toList 0 w hcell hfz hone
          simp only [Nat.add_zero] at this
          simp [Instr.storeAt, Instr.sureAddr, storeVar, sizeOf, typeInfo, hi, hn', hvl, this]
        have hput : st.put k (some (.cells (cs.take off ++ pv.cells ++ cs.drop (off + n)) false)) = st.put k (some (.cells (cs.take off ++ pv.cells ++ cs.drop (off + n)) false)) := rfl
        have hlen : (cs.take off ++ pv.cells ++ cs.drop (off + n)).length = cs.length := by simp; omega
        have hrel : CRel G (cur'.toList.take (cs.take off ++ pv.cells ++ cs.drop (off + n)).length) (cs.take off ++ pv.cells ++ cs.drop (off + n)) := by
          rw [hlen, f2]
          have e1 : ((cur.toList.take off ++ v.cells.toList ++ cur.toList.drop (off + v.cells.toList.length)).take cs.length) = (cur.toList.take cs.length).take off ++ v.cells.toList ++ (cur.toList.take cs.length).drop (off + n) := by
            have hvl2 : v.cells.toList.length = n := by simpa using hvl
            rw [hvl2, List.take_append, List.take_append, List.take_take, List.drop_take]
            congr 1
            · congr 1
              · rw [List.take_take]; congr 1; omega
              · rw [List.take_of_length_le]; simp; omega
            · congr 1; simp; omega
          rw [e1]
          exact ((g5.take off).append hc).append (g5.drop (off + n))
        obtain ⟨G', hB', hst⟩ := Step.write hs k k (N := N) (.inl rfl) cs blk size hg hB (.inl rfl) (cs.take off ++ pv.cells ++ cs.drop (off + n)) cur' ty m f1 (by rcases g2 with rfl | g2; exact .inl rfl; exact .inr (by omega)) hsz' (by omega) hrel f3 f4 f5 f6 f7
        rw [St.put_put] at hst
        exact ⟨_, _, G', by simp [hrun], .inr ⟨rfl, rfl⟩, hst⟩
      · simp at h
    · simp at h
  | _ => simp [storeP] at h

/-! ### What needs no memory -/
theorem run_int_bin {op : BinOp} {k l : IntKind} {a c : Int} {r : PV} (h : binP op (.i k a) (.i l c) = some r) (t : TypeId) (w : World) : ∃ v, (binOp op t (.int k a) (.int l c)).run P w = .ok v w ∧ VRel G v r := by
  by_cases hsh : op = .shl ∨ op = .shr
  · rcases hsh with rfl | rfl
    · simp only [binP] at h
      split at h
      · simp at h
      · simp only [Option.some.injEq] at h; subst h; exact ⟨_, by simp [binOp, Op.shift, *], .i _ _⟩
    · simp only [binP] at h
      split at h
      · simp at h
      · simp only [Option.some.injEq] at h; subst h; exact ⟨_, by simp [binOp, Op.shift, *], .i _ _⟩
  · by_cases hk : k = l
    · subst hk
      cases op
      case shl => simp at hsh
      case shr => simp at hsh
      case add => simp [binP] at h; subst h; exact ⟨_, by simp [binOp, Op.intArith], .i _ _⟩
      case sub => simp [binP] at h; subst h; exact ⟨_, by simp [binOp, Op.intArith], .i _ _⟩
      case mul => simp [binP] at h; subst h; exact ⟨_, by simp [binOp, Op.intArith], .i _ _⟩
      case quo => simp [binP] at h; obtain ⟨h0, rfl⟩ := h; exact ⟨_, by simp [binOp, Op.intDiv, h0], .i _ _⟩
      case rem => simp [binP] at h; obtain ⟨h0, rfl⟩ := h; exact ⟨_, by simp [binOp, Op.intDiv, h0], .i _ _⟩
      case and => simp [binP, ibits] at h; subst h; exact ⟨_, by simp [binOp, Op.intBits], .i _ _⟩
      case or => simp [binP, ibits] at h; subst h; exact ⟨_, by simp [binOp, Op.intBits], .i _ _⟩
      case xor => simp [binP, ibits] at h; subst h; exact ⟨_, by simp [binOp, Op.intBits], .i _ _⟩
      case andNot => simp [binP, ibits] at h; subst h; exact ⟨_, by simp [binOp, Op.intBits], .i _ _⟩
      all_goals (simp [binP] at h; subst h; exact ⟨_, by simp [binOp, Op.intCmp], .b _⟩)
    · cases op <;> first | (simp at hsh; done) | (simp [binP, hk] at h)
theorem toList_mk (l : List UInt8) : ByteArray.toList ⟨l.toArray⟩ = l := by
  rw [ByteArray.toList_eq]
theorem run_str_bin {op : BinOp} {a c : List UInt8} {r : PV} (h : binP op (.s a) (.s c) = some r) (t : TypeId) (w : World) : ∃ v, (binOp op t (.string ⟨a.toArray⟩) (.string ⟨c.toArray⟩)).run P w = .ok v w ∧ VRel G v r := by
  cases op <;> simp only [binP] at h
  all_goals (first | (simp at h; done) | skip)
  case add =>
    split at h <;> simp at h
    subst h
    rename_i hl
    have hsz : ∀ l : List UInt8, (ByteArray.mk l.toArray).size = l.length := by intro l; simp [ByteArray.size]
    refine ⟨.string (⟨a.toArray⟩ ++ ⟨c.toArray⟩), ?_, ?_⟩
    · simp only [binOp, Op.stringOp, hsz]
      rw [if_neg (by simp [IntKind.max, IntKind.signed, IntKind.bits]; omega)]; rfl
    · have e : (⟨a.toArray⟩ ++ ⟨c.toArray⟩ : ByteArray) = ⟨(a ++ c).toArray⟩ := by
        apply ByteArray.ext; simp
      rw [e]; exact .s _
  all_goals (simp at h; subst h; exact ⟨_, by simp [binOp, Op.stringOp], .b _⟩)

theorem op_bin (hs : Sim G st w base) {op : BinOp} {t : TypeId} {x y : Operand} {a c : Value} {pa pc r : PV} (ha : VRel G a pa) (hc : VRel G c pc) (h : binP op pa pc = some r) :
    OpOK P base N G st w (do pure (.value (← do eqGuard op t x y a c; binOp op t a c))) r st := by
  cases ha with
  | i k n =>
    cases hc with
    | i l m =>
      obtain ⟨v, hv, hr⟩ := run_int_bin (P := P) (G := G) h t w
      exact OpOK.same hs (by simp [eqGuard_at_int, hv]) hr
    | _ => simp [binP] at h
  | s l =>
    cases hc with
    | s m =>
      obtain ⟨v, hv, hr⟩ := run_str_bin (P := P) (G := G) h t w
      have hg : eqGuard op t x y (.string ⟨l.toArray⟩) (.string ⟨m.toArray⟩) = pure () := by cases op <;> rfl
      exact OpOK.same hs (by simp [hg, hv]) hr
    | _ => simp [binP] at h
  | _ => simp [binP] at h
theorem op_eqb (hs : Sim G st w base) {neg : Bool} {t : TypeId} {x y : Operand} {a c : Value} {pa pc r : PV} (hu : P.underlying t = some .bool) (ha : VRel G a pa) (hc : VRel G c pc) (h : eqbP neg pa pc = some r) :
    OpOK P base N G st w (do pure (.value (← do eqGuard (if neg then .neq else .eql) t x y a c; binOp (if neg then .neq else .eql) t a c))) r st := by
  cases ha with
  | b m =>
    cases hc with
    | b n =>
      simp only [eqbP, Option.some.injEq] at h
      subst h
      have e1 := run_eql_bool (P := P) w t m n hu
      have e2 := run_neq_bool (P := P) w t m n hu
      cases neg
      · exact OpOK.same hs (v := .bool (m == n)) (by simp [eqGuard_at_bool, e1]) (by cases m <;> cases n <;> exact .b _)
      · exact OpOK.same hs (v := .bool (!(m == n))) (by simp [eqGuard_at_bool, e2]) (by cases m <;> cases n <;> exact .b _)
    | _ => simp [eqbP] at h
  | _ => simp [eqbP] at h
theorem op_un (hs : Sim G st w base) {op : UnOp} {a : Value} {pa r : PV} (ha : VRel G a pa) (h : unP op pa = some r) : OpOK P base N G st w (do pure (.value (← Op.unary op a))) r st := by
  cases ha with
  | i k n =>
    cases op <;> simp [unP, ibits] at h
    · subst h; exact OpOK.same hs (by simp [Op.unary, Op.intArith]) (.i _ _)
    · subst h; exact OpOK.same hs (by simp [Op.unary, Op.intBits]) (.i _ _)
  | b x =>
    cases op <;> simp [unP] at h
    subst h; exact OpOK.same hs (by simp [Op.unary]) (.b _)
  | _ => simp [unP] at h
theorem op_conv_int (hs : Sim G st w base) {src dst : TypeId} {k j : IntKind} (h2 : P.underlying dst = some (.int k)) {d : TypeDesc} (h1 : P.underlying src = some d) {n : Int} : OpOK P base N G st w (do pure (.value (← convert src dst (.int j n)))) (.i k (k.wrap n)) st :=
  OpOK.same hs (by simp [convert, run_underlying h1, run_underlying h2, Conv.intToInt]) (.i _ _)
theorem op_conv_same (hs : Sim G st w base) {src dst : TypeId} (h2 : P.underlying dst = some .string) (h1 : P.underlying src = some .string) {l : List UInt8} : OpOK P base N G st w (do pure (.value (← convert src dst (.string ⟨l.toArray⟩)))) (.s l) st :=
  OpOK.same hs (by simp [convert, run_underlying h1, run_underlying h2]) (.s _)

/-- what a slice reads as -/
theorem cellsOf_rel (hs : Sim G st w base) {sz : Nat} {v : Value} {p : PV} (hv : VRel G v p) {n : Nat} {cs : List PV} (h : cellsOf st sz p = some (n, cs)) :
    ∃ a cap vs, v = .slice a n cap ∧ n ≤ cap ∧ cap ≤ maxLen ∧ CRel G vs cs ∧ vs.length = n * sz ∧ (a = none → n = 0) ∧ (0 < n * sz → ∃ b o, a = some ⟨b, o, none⟩ ∧ w.rangeAt b o vs) := by
  cases hv with
  | nsl => simp [cellsOf] at h; obtain ⟨rfl, rfl⟩ := h; exact ⟨none, 0, [], rfl, Nat.le_refl _, by decide, .nil, by simp, fun _ => rfl, fun h => by simp at h⟩
  | fnull a cap hm =>
    simp [cellsOf] at h; obtain ⟨rfl, rfl⟩ := h
    exact ⟨a, cap, [], rfl, by omega, hm, .nil, by simp, fun _ => rfl, fun h => by simp at h⟩
  | fsl b o n' cap ps f hc hm hF hh =>
    simp only [cellsOf] at h
    split at h
    · rename_i hl
      simp only [Option.some.injEq, Prod.mk.injEq] at h
      obtain ⟨rfl, rfl⟩ := h
      refine ⟨_, cap, (List.range ps.length).map f, rfl, hc, hm, ⟨by simp, ?_⟩, by simpa using hl, fun e => by simp at e, fun _ => ⟨b, o, rfl, ?_⟩⟩
      · intro i v p hv hp
        simp only [List.getElem?_map, Option.map_eq_some_iff] at hv
        obtain ⟨j, hj, rfl⟩ := hv
        have e : j = i := by have := (List.getElem?_eq_some_iff.1 hj).2; simpa using this.symm
        subst e
        exact (hh j p hp).toV
      · intro i v hv
        simp only [List.getElem?_map, Option.map_eq_some_iff] at hv
        obtain ⟨j, hj, rfl⟩ := hv
        have e : j = i := by have := (List.getElem?_eq_some_iff.1 hj).2; simpa using this.symm
        have hi : i < ps.length := by have := (List.getElem?_eq_some_iff.1 hj).1; simpa using this
        subst e
        exact hs.frz _ _ _ (hF j hi)
    · simp at h
  | rsl k z off n' blk size cap hB hc hm hz hz0 =>
    simp only [cellsOf] at h
    split at h
    · simp at h
    · rename_i hzz
      have hzz : z = sz := by simpa using hzz
      subst hzz
      split at h
      · rename_i cs0 fz hg
        simp only [Option.map_eq_some_iff, Prod.mk.injEq] at h
        obtain ⟨l, hl, rfl, rfl⟩ := h
        unfold cut? at hl
        split at hl
        · rename_i hle
          simp only [Option.some.injEq] at hl
          subst hl
          obtain ⟨cur, h1, h2, h3, h4⟩ := hs.get_cell hg hB
          refine ⟨_, cap, ((cur.take cs0.length).drop off).take (n' * z), rfl, hc, hm, (h3.drop off).take _, by simp; omega, fun e => by simp at e, fun _ => ⟨blk, off, rfl, ?_⟩⟩
          intro j v hv
          rw [List.getElem?_take] at hv
          split at hv
          · rw [List.getElem?_drop, List.getElem?_take] at hv
            split at hv
            · rw [(h4 (off + j) (by omega)).1]
              simp [List.getD, hv]
            · simp at hv
          · simp at hv
        · simp at hl
      · simp at h
  | _ => simp [cellsOf] at h
theorem bytesOf_rel : ∀ {cs : List PV} {l : List UInt8} {vs : List Value}, bytesOf? cs = some l → CRel G vs cs → vs = bytesC l
  | [], l, vs, h, hc => by
    simp [bytesOf?] at h; subst h
    have := hc.1; simp at this; subst this; rfl
  | .i .u8 n :: r, l, vs, h, hc => by
    simp only [bytesOf?] at h
    split at h
    · rename_i hn
      simp only [Option.map_eq_some_iff] at h
      obtain ⟨m, hm, rfl⟩ := h
      match vs, hc with
      | v :: vs, hc =>
        obtain ⟨h1, h2⟩ := hc.uncons
        have := bytesOf_rel hm h2
        subst this
        cases h1
        simp only [bytesC, List.map_cons]
        congr 2
        rw [UInt8.toNat_ofNat']; omega
      | [], hc => have := hc.1; simp at this
    · simp at h
theorem op_b2s (hs : Sim G st w base) {src dst e : TypeId} (h1 : P.underlying src = some (.slice e)) (he : P.underlying e = some (.int .u8)) (h2 : P.underlying dst = some .string) {v : Value} {p : PV} (hv : VRel G v p) {n : Nat} {cs : List PV} (hc : cellsOf st 1 p = some (n, cs)) {l : List UInt8} (hl : bytesOf? cs = some l) :
    OpOK P base N G st w (do pure (.value (← convert src dst v))) (.s l) st := by
  obtain ⟨a, cap, vs, rfl, g1, g2, g3, g4, g5, g6⟩ := cellsOf_rel hs hv hc
  have hvs := bytesOf_rel hl g3
  subst hvs
  have hn : l.length = n := by simpa using g4
  subst hn
  refine OpOK.same hs ?_ (.s l)
  cases a with
  | none =>
    have h0 := g5 rfl
    have : l = [] := List.eq_nil_of_length_eq_zero h0
    subst this
    simp [convert, run_underlying h1, run_underlying h2, run_underlying he, Conv.bytesToString]; rfl
  | some ad =>
    have := run_convert_bytes_back (P := P) w src dst e ad cap l h1 he h2 (by
      intro j hj
      obtain ⟨b, o, rfl2, hr⟩ := g6 (by omega)
      simp only [Option.some.injEq] at rfl2
      subst rfl2
      rw [Addr.add_mid]
      exact hr j _ (by simp [bytesC, hj]))
    simp [this]
theorem op_mark (hs : Sim G st w base) {src e : TypeId} (h1 : P.underlying src = some (.slice e)) (he : P.underlying e = some (.int .u8)) {v : Value} {k z off n : Nat} (hv : VRel G v (.rsl k z off n)) {cs : List PV} {fz : Bool} (hg : st.get k = some (.cells cs fz)) :
    OpOK P base N G st w (do pure (.value (← convert src src v))) (.rsl k z off n) st := by
  cases hv with
  | rsl _ _ _ _ blk size cap hB hc hm hz hz0 =>
    obtain ⟨cur, ty, m, g1, g2, g3, g4, g5⟩ := hs.cells k cs fz blk size hg hB
    have hlt : blk < w.heap.size := (Array.getElem?_eq_some_iff.1 g1).1
    have hb : w.heap[blk] = .cells cur ty m := by simpa [Array.getElem?_eq_getElem hlt] using g1
    have hsh : w.shape? blk = some (ty, cur.size) := by simp [World.shape?, g1]
    have hfr : (w.freeze ⟨blk, cur.size, none⟩ 1).heap[blk]? = some (.cells cur ty (if m.1 == m.2 then (cur.size, cur.size + 1) else (min m.1 cur.size, max m.2 (cur.size + 1)))) := by
      show (if (1 : Nat) = 0 then w else _).heap[blk]? = _
      rw [if_neg (by decide)]
      show (w.heap.modify blk _)[blk]? = _
      rw [Array.getElem?_eq_getElem (by simpa using hlt), Array.getElem_modify_self, hb]
    have hot : ∀ j, j ≠ blk → (w.freeze ⟨blk, cur.size, none⟩ 1).heap[j]? = w.heap[j]? := by
      intro j hj
      show (if (1 : Nat) = 0 then w else _).heap[j]? = _
      rw [if_neg (by decide)]
      show (w.heap.modify blk _)[j]? = _
      by_cases hjl : j < w.heap.size
      · rw [Array.getElem?_eq_getElem (by simpa using hjl), Array.getElem_modify_of_ne (by omega), Array.getElem?_eq_getElem hjl]
      · rw [Array.getElem?_eq_none (by simpa using hjl), Array.getElem?_eq_none (by omega)]
    have hsz : (w.freeze ⟨blk, cur.size, none⟩ 1).heap.size = w.heap.size := by
      show (if (1 : Nat) = 0 then w else _).heap.size = _
      rw [if_neg (by decide)]; simp
    have hrun : (convert src src (.slice (some ⟨blk, off, none⟩) n cap)).run P w = .ok (.slice (some ⟨blk, off, none⟩) n cap) (w.freeze ⟨blk, cur.size, none⟩ 1) := by
      simp [convert, run_underlying h1, run_underlying he, markStringish, hsh]
    have hcell : ∀ b o, (w.freeze ⟨blk, cur.size, none⟩ 1).cell? ⟨b, o, none⟩ = w.cell? ⟨b, o, none⟩ := by
      intro b o
      by_cases e : b = blk
      · subst e; simp only [World.cell?, hfr, g1]
      · exact World.cell?_of_block (hot b e)
    refine ⟨_, _, G, by simp [hrun]; rfl, .inl ⟨_, rfl, .rsl k z off n blk size cap hB hc hm hz hz0⟩, ?_⟩
    refine ⟨.refl G, fun _ _ h => .inl h, ?_, rfl, rfl, rfl, by omega, ?_, fun k x a b => .inr ⟨k, x, a, b, rfl⟩, fun _ _ _ h => .inl h, fun _ h => .inl h⟩
    · refine ⟨by rw [hsz]; exact hs.bas, fun b o u hu => by rw [hcell]; exact hs.frz b o u hu, ?_, hs.frzd, hs.free, hs.inj, fun k x a b => by rw [hsz]; exact hs.low k x a b, fun k' es b s hg' hB' => by
        obtain ⟨obj, q1, q2⟩ := hs.mps k' es b s hg' hB'
        by_cases e : b = blk
        · subst e
          rw [g1] at q1
          simp only [Option.some.injEq] at q1
          subst q1
          refine ⟨_, hfr, ?_⟩
          cases es with
          | cells _ _ => trivial
          | map es => obtain ⟨_, _, e, _⟩ := q2; simp at e
          | iter l p => simp [HObj] at q2
        · exact ⟨obj, by rw [hot b e]; exact q1, q2⟩⟩
      intro k' cs' z' b s hg' hB'
      obtain ⟨c0, t0, m0, q1, q2, q3, q4, q5⟩ := hs.cells k' cs' z' b s hg' hB'
      by_cases e : b = blk
      · subst e
        rw [g1] at q1
        simp only [Option.some.injEq, Obj.cells.injEq] at q1
        obtain ⟨rfl, rfl, rfl⟩ := q1
        refine ⟨cur, ty, _, hfr, ?_, q3, q4, q5⟩
        right
        split
        · exact Nat.le_refl _
        · rcases g2 with rfl | g2
          · simp at *
          · simp; omega
      · exact ⟨c0, t0, m0, by rw [hot b e]; exact q1, q2, q3, q4, q5⟩
    · intro j hj hno
      exact hot j (fun e => hno k (blk, size) (by rw [hg]; rfl) hB e.symm)
end
end Go.Pe
