/-
  Each operation of plain data does what the model's does, second part. No condition; nothing of the program.
-/
import Derived.Test.YtaepgkghgcchnaaPeP
import Derived.Laws.Entries
import Derived.Lib.SliceRun
set_option linter.unusedVariables false
set_option linter.unusedSimpArgs false
namespace Go.Pe
open Go Go.Am Go.RowKit
section
variable {P : Program} {V : List Nat} {base : Nat} {N : Nat → Prop} {G : Ghost} {st : St} {w : World}

theorem nil0 {a : Value} {pa : PV} {x : Bool} (ha : VRel G a pa) (h : isNil? pa = some (0, x)) : ∃ ao n c, a = .slice ao n c ∧ x = ao.isNone := by
  cases ha <;> simp [isNil?] at h <;> simp_all
theorem nil1 {a : Value} {pa : PV} {x : Bool} (ha : VRel G a pa) (h : isNil? pa = some (1, x)) : ∃ ao, a = .pointer ao ∧ x = ao.isNone := by
  cases ha <;> simp [isNil?] at h <;> simp_all
theorem nil2 {a : Value} {pa : PV} {x : Bool} (ha : VRel G a pa) (h : isNil? pa = some (2, x)) : (a = .nilFunc ∧ x = true) ∨ ∃ f c d, a = .func f c d ∧ x = false := by
  cases ha <;> simp [isNil?] at h <;> simp_all
theorem nil3 {a : Value} {pa : PV} {x : Bool} (ha : VRel G a pa) (h : isNil? pa = some (3, x)) : ∃ r, a = .map r ∧ x = r.isNone := by
  cases ha <;> simp [isNil?] at h <;> simp_all
theorem run_nil_eq (d : Nat) {t : TypeId} {D : TypeDesc} (hu : P.underlying t = some D) {kd : Nat} (hk : kdT D = some kd) {a c : Value} {pa pc : PV} (ha : VRel G a pa) (hc : VRel G c pc) {x y : Bool} (h1 : isNil? pa = some (kd, x)) (h2 : isNil? pc = some (kd, y)) (hxy : x = true ∨ y = true) (w : World) :
    (Op.equalIn (d + 1) t a c).run P w = .ok (x && y) w ∧ (∀ op z u, eqGuard op t z u a c = pure ()) ∧ binOp .eql t a c = (do pure (.bool (← Op.equal t a c))) ∧ binOp .neq t a c = (do pure (.bool (!(← Op.equal t a c)))) := by
  cases D <;> simp [kdT] at hk <;> subst hk
  case pointer e =>
    obtain ⟨ao, rfl, rfl⟩ := nil1 ha h1
    obtain ⟨bo, rfl, rfl⟩ := nil1 hc h2
    refine ⟨?_, fun op z u => by cases op <;> rfl, rfl, rfl⟩
    cases ao <;> cases bo <;> simp at hxy <;> simp [Op.equalIn, run_underlying hu]
  case slice e =>
    obtain ⟨ao, n, m, rfl, rfl⟩ := nil0 ha h1
    obtain ⟨bo, n', m', rfl, rfl⟩ := nil0 hc h2
    refine ⟨?_, fun op z u => by cases op <;> rfl, rfl, rfl⟩
    cases ao <;> cases bo <;> simp at hxy <;> simp [Op.equalIn, run_underlying hu]
  case map e f =>
    obtain ⟨ao, rfl, rfl⟩ := nil3 ha h1
    obtain ⟨bo, rfl, rfl⟩ := nil3 hc h2
    refine ⟨?_, fun op z u => by cases op <;> rfl, rfl, rfl⟩
    cases ao <;> cases bo <;> simp at hxy <;> simp [Op.equalIn, run_underlying hu]
  case func e f g =>
    rcases nil2 ha h1 with ⟨rfl, rfl⟩ | ⟨f1, c1, d1, rfl, rfl⟩ <;> rcases nil2 hc h2 with ⟨rfl, rfl⟩ | ⟨f2, c2, d2, rfl, rfl⟩
    case inr.inr => simp at hxy
    all_goals (exact ⟨by simp [Op.equalIn, run_underlying hu], fun op z u => by cases op <;> rfl, rfl, rfl⟩)
theorem op_eqn (hs : Sim G st w base) {neg : Bool} {t : TypeId} {x y : Operand} {a c : Value} {pa pc r : PV} {D : TypeDesc} (hu : P.underlying t = some D) {kd : Nat} (hk : kdT D = some kd) (ha : VRel G a pa) (hc : VRel G c pc) (h : eqnP kd neg pa pc = some r) :
    OpOK P base N G st w (do pure (.value (← do eqGuard (if neg then .neq else .eql) t x y a c; binOp (if neg then .neq else .eql) t a c))) r st := by
  unfold eqnP at h
  split at h
  · rename_i k1 b1 k2 b2 h1 h2
    split at h
    · rename_i hcond
      obtain ⟨rfl, rfl, hxy⟩ := hcond
      simp only [Option.some.injEq] at h
      subst h
      obtain ⟨he, hg, hb1, hb2⟩ := run_nil_eq (P := P) 9999 hu hk ha hc h1 h2 hxy w
      have he' : (Op.equal t a c).run P w = .ok (b1 && b2) w := he
      cases neg
      · exact OpOK.same hs (v := .bool ((b1 && b2) != false)) (by simp [hg, hb1, he']) (.b _)
      · exact OpOK.same hs (v := .bool ((b1 && b2) != true)) (by simp [hg, hb2, he']) (.b _)
    · simp at h
  · simp at h
theorem op_mkfn (hs : Sim G st w base) {f : FuncId} {cs : Array Value} {ps : List PV} (h : CRel G cs.toList ps) : OpOK P base N G st w (do pure (.value (← Instr.makeFunc (.func f) #[] cs))) (.fn f ps) st :=
  OpOK.same hs (by simp [Instr.makeFunc]) (.fn f cs ps (by simpa using h.1) fun i v p hv hp => h.2 i v p (by simpa using hv) hp)
theorem op_mkbfn (hs : Sim G st w base) {f : FuncId} {cs : Array Value} {ps : List PV} (h : CRel G cs.toList ps) : OpOK P base N G st w (do pure (.value (← Instr.makeFunc (.func f) cs #[]))) (.bfn f ps) st :=
  OpOK.same hs (by simp [Instr.makeFunc]) (.bfn f cs ps (by simpa using h.1) fun i v p hv hp => h.2 i v p (by simpa using hv) hp)
theorem op_fieldAddr (hs : Sim G st w base) {s : TypeId} {fs : Array Field} (hu : P.underlying s = some (.struct fs)) {j : Nat} {fd : Field} (hf : fs[j]? = some fd) {n : Nat} (hn : sizeT P fd.type = some n) (h0 : n ≠ 0) {v : Value} {p r : PV} (hv : VRel G v p)
    (hr : (match p with | .ptr k o => some (PV.ptr k (o + fd.offset)) | .fptr cs => some (.fptr (cs.drop fd.offset)) | _ => none) = some r) :
    OpOK P base N G st w (do pure (.value (← Instr.fieldAt s v j))) r st := by
  cases hv with
  | ptr k o blk size hB =>
    simp only [Option.some.injEq] at hr; subst hr
    exact OpOK.same hs (v := .pointer (some ⟨blk, o + fd.offset, none⟩)) (by simp [Instr.fieldAt, run_underlying hu, hf, Instr.sureAddr, fieldPlace, sizeT_run hn, h0, Addr.add_mid]) (.ptr _ _ _ _ hB)
  | fptr b o ps f hF hh =>
    simp only [Option.some.injEq] at hr; subst hr
    refine OpOK.same hs (v := .pointer (some ⟨b, o + fd.offset, none⟩)) (by simp [Instr.fieldAt, run_underlying hu, hf, Instr.sureAddr, fieldPlace, sizeT_run hn, h0, Addr.add_mid]) (.fptr b _ _ (fun i => f (fd.offset + i)) ?_ ?_)
    · intro i hi; rw [Nat.add_assoc]; simp at hi; exact hF _ (by omega)
    · intro i q hq; rw [List.getElem?_drop] at hq; exact hh _ q hq
  | _ => simp at hr
theorem part_run {t : TypeId} {agg : Bool} {n : Nat} (ha : isAggT P t = some agg) (hn : sizeT P t = some n) {vs : Array Value} {cs : List PV} (hc : CRel G vs.toList cs) {off : Nat} {l : List PV} (hl : cut? cs off n = some l) {r : PV} (ho : ofCells agg l = some r) (w : World) :
    ∃ v, (part t vs off).run P w = .ok v w ∧ VRel G v r := by
  unfold cut? at hl
  split at hl
  · rename_i hle
    simp only [Option.some.injEq] at hl
    have hlv := hc.1
    cases agg with
    | true =>
      simp only [ofCells, if_true, Option.some.injEq] at ho
      subst ho
      refine ⟨.agg (vs.extract off (off + n)), by simp [part, isAggT_run ha, sizeT_run hn], VRel.agg_c ?_⟩
      have e : (vs.extract off (off + n)).toList = (vs.toList.drop off).take n := by
        rw [Array.toList_extract, List.extract_eq_take_drop]; congr 1; omega
      rw [e, ← hl]
      exact (hc.drop off).take n
    | false =>
      simp only [ofCells, Bool.false_eq_true, if_false] at ho
      match l, hl, ho with
      | [p], hl, ho =>
        simp only [Option.some.injEq] at ho
        subst ho
        have hl1 := congrArg List.length hl
        simp at hl1
        have hoff : off < vs.size := by simp at hlv; omega
        have hp : cs[off]? = some p := by
          have := congrArg (fun l => l[0]?) hl
          simp only [List.getElem?_take, List.getElem?_drop, Nat.add_zero] at this
          rw [if_pos (by omega)] at this
          simpa using this
        refine ⟨vs[off], by simp [part, isAggT_run ha, hoff], hc.2 off vs[off] p (by simp [hoff]) hp⟩
  · simp at hl
theorem op_field (hs : Sim G st w base) {s : TypeId} {fs : Array Field} (hu : P.underlying s = some (.struct fs)) {j : Nat} {fd : Field} (hf : fs[j]? = some fd) {agg : Bool} {n : Nat} (ha : isAggT P fd.type = some agg) (hn : sizeT P fd.type = some n)
    {v : Value} {cs : List PV} (hv : VRel G v (.agg cs)) {l : List PV} (hl : cut? cs fd.offset n = some l) {r : PV} (ho : ofCells agg l = some r) : OpOK P base N G st w (do pure (.value (← Instr.field s v j))) r st := by
  obtain ⟨vs, rfl, hc⟩ := hv.agg_inv
  obtain ⟨u, hu2, hr⟩ := part_run ha hn hc hl ho w
  exact OpOK.same hs (by simp [Instr.field, run_underlying hu, hf, asAgg, hu2]) hr
theorem op_index (hs : Sim G st w base) {t e : TypeId} {len : Nat} (hu : P.underlying t = some (.array len e)) {agg : Bool} {n : Nat} (ha : isAggT P e = some agg) (hn : sizeT P e = some n)
    {v : Value} {cs : List PV} (hv : VRel G v (.agg cs)) {k : IntKind} {j : Int} (h0 : 0 ≤ j) (h1 : j < len) {l : List PV} (hl : cut? cs (j.toNat * n) n = some l) {r : PV} (ho : ofCells agg l = some r) : OpOK P base N G st w (do pure (.value (← Instr.index t v (.int k j)))) r st := by
  obtain ⟨vs, rfl, hc⟩ := hv.agg_inv
  obtain ⟨u, hu2, hr⟩ := part_run ha hn hc hl ho w
  exact OpOK.same hs (by simp [Instr.index, asIntOf, run_underlying hu, h0, h1, sizeT_run hn, hu2]) hr
theorem op_sindex (hs : Sim G st w base) {t : TypeId} (hu : P.underlying t = some .string) {l : List UInt8} {k : IntKind} {j : Int} (h0 : 0 ≤ j) {c : UInt8} (hc : l[j.toNat]? = some c) :
    OpOK P base N G st w (do pure (.value (← Instr.index t (.string ⟨l.toArray⟩) (.int k j)))) (.i .u8 c.toNat) st := by
  have hlt : j.toNat < l.length := (List.getElem?_eq_some_iff.1 hc).1
  have hg : (⟨l.toArray⟩ : ByteArray)[j.toNat]? = some c := by
    have hsz : j.toNat < (⟨l.toArray⟩ : ByteArray).size := by simpa [ByteArray.size] using hlt
    rw [getElem?_pos (⟨l.toArray⟩ : ByteArray) j.toNat hsz]
    have := (List.getElem?_eq_some_iff.1 hc).2
    rw [← this]; rfl
  exact OpOK.same hs (by simp [Instr.index, asIntOf, run_underlying hu, h0, hg]) (.i _ _)
theorem op_extract (hs : Sim G st w base) {v : Value} {vs : List PV} (hv : VRel G v (.tup vs)) {i : Nat} {r : PV} (hr : vs[i]? = some r) : OpOK P base N G st w (do pure (.value (← Instr.extract v i))) r st := by
  obtain ⟨cs, rfl, hc⟩ := hv.tup_inv
  have hi : i < vs.length := (List.getElem?_eq_some_iff.1 hr).1
  have hi2 : i < cs.size := by have := hc.1; simp at this; omega
  exact OpOK.same hs (v := cs[i]) (by simp [Instr.extract, hi2]) (hc.2 i cs[i] r (by simp [hi2]) hr)
theorem op_indexAddr_arr (hs : Sim G st w base) {t e : TypeId} {len : Nat} (hu : P.underlying t = some (.array len e)) {sz : Nat} (hn : sizeT P e = some sz) {v : Value} {p r : PV} (hv : VRel G v p) {k : IntKind} {j : Int} (h0 : 0 ≤ j) (h1 : j < len)
    (hr : (match p with | .ptr k o => some (PV.ptr k (o + j.toNat * sz)) | .fptr cs => some (.fptr (cs.drop (j.toNat * sz))) | _ => none) = some r) : OpOK P base N G st w (do pure (.value (← Instr.indexAt t v (.int k j)))) r st := by
  cases hv with
  | ptr k o blk size hB =>
    simp only [Option.some.injEq] at hr; subst hr
    exact OpOK.same hs (v := .pointer (some ⟨blk, o + j.toNat * sz, none⟩)) (by simp [Instr.indexAt, asIntOf, run_underlying hu, Instr.sureAddr, h0, h1, sizeT_run hn, Addr.add_mid]) (.ptr _ _ _ _ hB)
  | fptr b o ps f hF hh =>
    simp only [Option.some.injEq] at hr; subst hr
    refine OpOK.same hs (v := .pointer (some ⟨b, o + j.toNat * sz, none⟩)) (by simp [Instr.indexAt, asIntOf, run_underlying hu, Instr.sureAddr, h0, h1, sizeT_run hn, Addr.add_mid]) (.fptr b _ _ (fun i => f (j.toNat * sz + i)) ?_ ?_)
    · intro i hi; rw [Nat.add_assoc]; simp at hi; exact hF _ (by omega)
    · intro i q hq; rw [List.getElem?_drop] at hq; exact hh _ q hq
  | _ => simp at hr
theorem op_indexAddr_sl (hs : Sim G st w base) {t e : TypeId} (hu : P.underlying t = some (.slice e)) {sz : Nat} (hn : sizeT P e = some sz) {v : Value} {p r : PV} (hv : VRel G v p) {k : IntKind} {j : Int}
    (hr : (match p with
      | .rsl k z off n => if z = sz ∧ 0 ≤ j ∧ j < n then some (PV.ptr k (off + j.toNat * sz)) else none
      | .fsl n cs => if cs.length = n * sz ∧ 0 < sz ∧ 0 ≤ j ∧ j < n then some (.fptr (cs.drop (j.toNat * sz))) else none
      | _ => none) = some r) : OpOK P base N G st w (do pure (.value (← Instr.indexAt t v (.int k j)))) r st := by
  cases hv with
  | rsl k z off n blk size cap hB hc hm hz hz0 =>
    simp only [] at hr
    split at hr
    · rename_i hcond
      obtain ⟨rfl, h0, h1⟩ := hcond
      simp only [Option.some.injEq] at hr; subst hr
      exact OpOK.same hs (v := .pointer (some ⟨blk, off + j.toNat * z, none⟩)) (by simp [Instr.indexAt, asIntOf, run_underlying hu, h0, h1, sizeT_run hn, Addr.add_mid]) (.ptr _ _ _ _ hB)
    · simp at hr
  | fsl b o n cap ps f hc hm hF hh =>
    simp only [] at hr
    split at hr
    · rename_i hcond
      obtain ⟨hl, hz, h0, h1⟩ := hcond
      simp only [Option.some.injEq] at hr; subst hr
      refine OpOK.same hs (v := .pointer (some ⟨b, o + j.toNat * sz, none⟩)) (by simp [Instr.indexAt, asIntOf, run_underlying hu, h0, h1, sizeT_run hn, Addr.add_mid]) (.fptr b _ _ (fun i => f (j.toNat * sz + i)) ?_ ?_)
      · intro i hi; rw [Nat.add_assoc]; simp at hi; exact hF _ (by omega)
      · intro i q hq; rw [List.getElem?_drop] at hq; exact hh _ q hq
    · simp at hr
  | fnull a cap hm =>
    simp only [] at hr
    split at hr
    · rename_i hcond; omega
    · simp at hr
  | _ => simp at hr
theorem op_len (hs : Sim G st w base) {ty : TypeId} {t e : TypeId} (hu : P.underlying t = some (.slice e)) {v : Value} {p r : PV} (hv : VRel G v p) (hr : lenP p = some r) :
    OpOK P base N G st w (do pure (.value (← Builtin.len_ #[t] ty #[v]))) r st := by
  cases hv <;> simp [lenP] at hr <;> subst hr <;> exact OpOK.same hs (by simp [Builtin.len_, run_underlying hu, goInt]) (.i _ _)
theorem op_slen (hs : Sim G st w base) {ty : TypeId} {t : TypeId} (hu : P.underlying t = some .string) {l : List UInt8} :
    OpOK P base N G st w (do pure (.value (← Builtin.len_ #[t] ty #[.string ⟨l.toArray⟩]))) (.i .i64 l.length) st := by
  have hsz : (⟨l.toArray⟩ : ByteArray).size = l.length := by simp [ByteArray.size]
  exact OpOK.same hs (by simp [Builtin.len_, run_underlying hu, hsz, goInt]) (.i _ _)
theorem op_alen (hs : Sim G st w base) {ty : TypeId} {t e : TypeId} {n : Nat} (hu : P.underlying t = some (.array n e)) {v : Value} :
    OpOK P base N G st w (do pure (.value (← Builtin.len_ #[t] ty #[v]))) (.i .i64 n) st :=
  OpOK.same hs (by simp [Builtin.len_, run_underlying hu, goInt]) (.i _ _)
theorem op_nilck (hs : Sim G st w base) {v : Value} {p r : PV} (hv : VRel G v p) (hr : (match p with | .ptr k o => some (PV.ptr k o) | .fptr cs => some (.fptr cs) | _ => none) = some r) {ρc : Operand → Value} {x : Operand} (hx : ρc x = v) {o : Oper} (ho : o.op = .nilCheck x) :
    OpOK P base N G st w (execOp ρc o) r st := by
  cases hv with
  | ptr k o' blk size hB =>
    simp only [Option.some.injEq] at hr; subst hr
    exact OpOK.same hs (by simp [execOp, ho, hx]) (.ptr _ _ _ _ hB)
  | fptr b o' ps f hF hh =>
    simp only [Option.some.injEq] at hr; subst hr
    exact OpOK.same hs (by simp [execOp, ho, hx]) (.fptr b o' ps f hF hh)
  | _ => simp at hr
end
end Go.Pe
