/-
  Regions in the text's order, among objects. No condition; nothing of the program.
-/
import Derived.Test.YtaepgkghgcchnaaPeCa
set_option linter.unusedVariables false
set_option linter.unusedSimpArgs false
namespace Go.Pe
open Go Go.Am Go.RowKit

/-- slots, in and out of a region -/
def LocRel (V : List Nat) (G : Ghost) (a : Act) (c : Loc) : Prop :=
  (∀ t, V.contains t = true → VRel G (a.tmps.getD t undef) (c.env.get t)) ∧ (∀ t, V.contains t = false → VRel G (a.tmps.getD t undef) (Env.get c.loc t))
theorem LocRel.mono {V : List Nat} {G G' : Ghost} (hl : G.le G') {a : Act} {c : Loc} (h : LocRel V G a c) : LocRel V G' a c := ⟨fun t ht => (h.1 t ht).mono hl, fun t ht => (h.2 t ht).mono hl⟩
theorem Env.get_putk (e : Env) (t : Nat) (v : PV) : Env.get (Env.put e t v) t = v := by
  unfold Env.get Env.put
  rw [Trie.getk_putk]; rfl
theorem Env.get_put_rel {G : Ghost} {e : Env} {t : Nat} {x : Value} {v : PV} (h : VRel G x v) : VRel G x (Env.get (Env.put e t v) t) := by
  rw [Env.get_putk]; exact h
theorem Env.get_put_ne {e : Env} {t t' : Nat} {v : PV} (h : t ≠ t') : Env.get (Env.put e t v) t' = Env.get e t' := by
  unfold Env.get Env.put
  rw [Trie.getk_putk_ne _ _ h]
theorem Env.get_put (e : Env) (t u : Nat) (v : PV) : Env.get (Env.put e t v) u = if t = u then v else Env.get e u := by
  by_cases h : t = u
  · subst h; rw [if_pos rfl, Env.get_putk]
  · rw [if_neg h, Env.get_put_ne h]
theorem LocRel.eval {V : List Nat} {G : Ghost} {a : Act} {c : Loc} (h : LocRel V G a c) {x : Operand} {y : Arg} (hy : cArg V x = some y) : VRel G (a.eval x) (c.rd y) := by
  cases x with
  | tmp t =>
    simp only [cArg, Option.some.injEq] at hy
    subst hy
    cases ht : V.contains t with
    | true => simp only [if_pos]; exact h.1 t ht
    | false => simp only [Bool.false_eq_true, if_false]; exact h.2 t ht
  | const v =>
    simp only [cArg, Option.map_eq_some_iff] at hy
    obtain ⟨p, hp, rfl⟩ := hy
    exact constP_rel hp
  | global g => simp [cArg] at hy
  | func f =>
    simp only [cArg, Option.some.injEq] at hy
    subst hy
    exact .fn f #[] [] rfl (fun i v p h => by simp at h)
theorem Act.put_defers' (a : Act) (d : Option Tmp) (v : Value) : (a.put d v).defers = a.defers := by cases d <;> rfl
theorem Act.put_size (a : Act) (d : Option Tmp) (v : Value) : (a.put d v).tmps.size = a.tmps.size := by cases d <;> simp [Act.put]
theorem LocRel.put {V : List Nat} {n : Nat} {G : Ghost} {a : Act} {c : Loc} (h : LocRel V G a c) (hn : n ≤ a.tmps.size) {d : Option Tmp} {md : MDst} (hd : cDst V n d = some md) {v : Value} {r : PV} (hv : VRel G v r) : LocRel V G (a.put d v) (c.wr md r) := by
  cases d with
  | none => simp [cDst] at hd; subst hd; exact h
  | some t =>
    simp only [cDst] at hd
    split at hd
    · rename_i htn
      simp only [Option.some.injEq] at hd
      have hsame : ∀ t', (a.put (some t) v).tmps.getD t' undef = if t = t' then v else a.tmps.getD t' undef := by
        intro t'
        simp only [Act.put, Array.getD_eq_getD_getElem?, Array.getElem?_setIfInBounds]
        by_cases e : t = t'
        · subst e; simp [show t < a.tmps.size from Nat.lt_of_lt_of_le htn hn]
        · simp [e]
      cases hV : V.contains t with
      | true =>
        rw [hV, if_pos rfl] at hd
        subst hd
        refine ⟨fun t' ht' => ?_, fun t' ht' => ?_⟩
        · rw [hsame]
          by_cases e : t = t'
          · subst e; rw [if_pos rfl]; exact Env.get_put_rel hv
          · rw [if_neg e]; show VRel G _ (Env.get (Env.put c.env t r) t'); rw [Env.get_put_ne e]; exact h.1 t' ht'
        · rw [hsame, if_neg (by rintro rfl; rw [hV] at ht'; simp at ht')]; exact h.2 t' ht'
      | false =>
        rw [hV] at hd
        simp only [Bool.false_eq_true, if_false] at hd
        subst hd
        refine ⟨fun t' ht' => ?_, fun t' ht' => ?_⟩
        · rw [hsame, if_neg (by rintro rfl; rw [hV] at ht'; simp at ht')]; exact h.1 t' ht'
        · rw [hsame]
          by_cases e : t = t'
          · subst e; rw [if_pos rfl]; exact Env.get_put_rel hv
          · rw [if_neg e]; show VRel G _ (Env.get (Env.put c.loc t r) t'); rw [Env.get_put_ne e]; exact h.2 t' ht'
    · simp at hd
theorem undef_rel (G : Ghost) : VRel G undef (.tup []) := .tup #[] [] rfl (fun i v p h => by simp at h)
/-- a guard -/
theorem guard_ok {V : List Nat} {n : Nat} {ops : Array Oper} {o : Oper} {g : Option (Arg × Bool)} (hg : cGuard V n ops o.guard = some g) {G : Ghost} {a : Act} {c : Loc} (h : LocRel V G a c) (hn : n ≤ a.tmps.size) {b : Bool} (hb : guardP c g = some b) : Region.wanted o (yielded ops a.tmps) = b := by
  cases hog : o.guard with
  | none =>
    rw [hog] at hg
    simp only [cGuard, Option.some.injEq] at hg
    subst hg
    simp only [guardP, Option.some.injEq] at hb
    subst hb
    simp [Region.wanted, hog]
  | some jw =>
    obtain ⟨j, want⟩ := jw
    rw [hog] at hg
    simp only [cGuard] at hg
    split at hg
    · rename_i t ht
      split at hg
      · rename_i htn
        simp only [Option.some.injEq] at hg
        subst hg
        have hv : VRel G (a.tmps.getD t undef) (c.rd (if V.contains t then .t t else .l t)) := h.eval (x := .tmp t) rfl
        have hy : yielded ops a.tmps j = match a.tmps.getD t undef with | .bool b => some b | _ => none := by
          have hlt : t < a.tmps.size := Nat.lt_of_lt_of_le htn hn
          unfold yielded
          rw [ht]
          simp only [Option.bind_some, Array.getElem?_eq_getElem hlt, Array.getD_eq_getD_getElem?, Option.getD_some]
          cases a.tmps[t] <;> rfl
        simp only [Region.wanted, hog, hy]
        simp only [guardP] at hb
        split at hb
        · rename_i y hy2
          simp only [Option.some.injEq] at hb
          subst hb
          rw [hy2] at hv
          generalize a.tmps.getD t undef = q at hv
          cases hv
          cases y <;> cases want <;> rfl
        · rename_i hy2
          simp only [Option.some.injEq] at hb
          subst hb
          rw [hy2] at hv
          generalize a.tmps.getD t undef = q at hv
          cases hv
          rfl
        · simp at hb
      · simp at hg
    · simp at hg
/-- no key from 'key' to 'lim', or from the store's count on, is given -/
def KInv (key lim : Nat) (G : Ghost) (st : St) : Prop := ∀ k, (key ≤ k ∧ k < lim) ∨ st.cnt ≤ k → G.B k = none
theorem cOper_some {P : Program} {V : List Nat} {n : Nat} {modes : FuncId → Option Bool} {ops : Array Oper} {o : Oper} {mo : MOper} (h : cOper P V n modes ops o = some mo) :
    cDst V n o.dst = some mo.dst ∧ cGuard V n ops o.guard = some mo.guard ∧ (mo.op = .bad ∨ (cOp P V modes o.op = some mo.op ∧ (mo.op.plain = true ∨ isCallOp o.op = true))) := by
  simp only [cOper, Option.bind_eq_bind, Option.bind_eq_some_iff, Option.some.injEq] at h
  obtain ⟨d, hd, g, hg, rfl⟩ := h
  refine ⟨hd, hg, ?_⟩
  simp only []
  split
  · rename_i m hm
    split
    · rename_i hc
      right
      exact ⟨hm, by simpa using hc⟩
    · exact .inl rfl
  · exact .inl rfl
theorem ops_sound {P : Program} {Gl : Gmap} {V : List Nat} {n : Nat} {modes : FuncId → Option Bool} {cfg : Cfg} (hcfg : CfgOK P Gl cfg) {callE : CallE} (hE : CallOK P Gl callE) {ops : Array Oper} {base : Nat} {Q : Exit → Act → World → Prop} :
    ∀ (l : List Oper) (ml : List MOper) (i : Nat), ops.toList.drop i = l → mapO (cOper P V n modes ops) l = some ml → ∀ (G : Ghost) (a : Act) (w : World) (c c' : Loc) (key lim : Nat), LocRel V G a c → n ≤ a.tmps.size → Sim G c.st w base → Full Gl G c.st → KInv key lim G c.st → key + 8 * l.length ≤ lim → lim ≤ c.st.cnt →
      evOps cfg callE ml key c = some c' → (∀ a' w' G', LocRel V G' a' c' → n ≤ a'.tmps.size → a'.defers = a.defers → c.st.cnt ≤ c'.st.cnt → Step base (fun k => (key ≤ k ∧ k < lim) ∨ (c.st.cnt ≤ k ∧ k < c'.st.cnt)) G c.st w G' c'.st w' → Q .normal a' w') →
      wpOps P ops Q (List.range' i l.length) a w
  | [], ml, i, hl, hm, G, a, w, c, c', key, lim, hL, hn, hs, hfu, hk, hlim, hcnt, he, hQ => by
    simp [mapO] at hm; subst hm
    simp only [evOps, Option.some.injEq] at he
    subst he
    simp only [List.length_nil, List.range'_zero, wpOps]
    exact hQ a w G hL hn rfl (Nat.le_refl _) (Step.refl hs)
  | o :: l, ml, i, hl, hm, G, a, w, c, c', key, lim, hL, hn, hs, hfu, hk, hlim, hcnt, he, hQ => by
    simp only [mapO] at hm
    split at hm
    · rename_i mo ml' hmo hml
      simp only [Option.some.injEq] at hm
      subst hm
      have hio : ops[i]? = some o := by
        have : ops.toList[i]? = some o := by
          have := congrArg (fun l => l[0]?) hl
          simpa using this
        simpa using this
      have hdrop : ops.toList.drop (i + 1) = l := by
        have := congrArg (List.drop 1) hl
        simpa using this
      obtain ⟨hd, hg, hop⟩ := cOper_some hmo
      simp only [List.length_cons] at hlim
      have hkey : G.B key = none := hk key (.inl ⟨Nat.le_refl _, by omega⟩)
      simp only [List.length_cons, List.range'_succ, wpOps, hio]
      simp only [evOps] at he
      split at he
      · rename_i hgd
        rw [guard_ok hg hL hn hgd, if_pos rfl]
        split at he
        · rename_i v st hev
          rcases hop with hbad | ⟨hcop, hpc⟩
          · rw [hbad] at hev; simp [evOp] at hev
          · obtain ⟨hcn, hw⟩ := evOp_w hcfg hE hcop hpc hs hfu.1 (fun _ => hfu) (fun x y hy => hL.eval hy) hkey (fun k hk' => hk k (.inr hk')) hev
            left
            refine hw _ _ ?_
            intro u w1 G1 hu hst
            refine ops_sound (base := base) hcfg hE l ml' (i + 1) hdrop hml G1 (a.put o.dst u) w1 _ c' (key + 8) lim (LocRel.put (c := { c with st := st }) (hL.mono hst.le) hn hd hu) (by rw [Act.put_size]; exact hn) ?_ ?_ ?_ (by omega) ?_ he ?_
            · cases hmd : mo.dst <;> exact hst.sim
            · cases hmd : mo.dst <;> exact hst.full hfu
            · intro k hk'
              have hcst : (Loc.wr { c with st := st } mo.dst v).st = st := by cases mo.dst <;> rfl
              rw [hcst] at hk'
              cases hx : G1.B k with
              | none => rfl
              | some x =>
                rcases hst.new k x hx with h1 | h1 | h1
                · rw [hk k (by rcases hk' with h | h; exact .inl ⟨by omega, h.2⟩; exact .inr (by omega))] at h1; simp at h1
                · subst h1; rcases hk' with h | h <;> omega
                · rcases hk' with h | h <;> omega
            · have hcst : (Loc.wr { c with st := st } mo.dst v).st = st := by cases mo.dst <;> rfl
              rw [hcst]; omega
            · intro a' w' G' hL' hn' hdf hcc hst'
              have hcst : (Loc.wr { c with st := st } mo.dst v).st = st := by cases mo.dst <;> rfl
              rw [hcst] at hst' hcc
              refine hQ a' w' G' hL' hn' (by rw [hdf, Act.put_defers']) (by omega) ?_
              refine hst.trans hst' ?_ ?_
              · intro k hk'
                rcases hk' with h | h
                · left; omega
                · right; omega
              · intro k hk'
                rcases hk' with h | h
                · left; omega
                · right; omega
        · simp at he
      · rename_i hgd
        rw [guard_ok hg hL hn hgd, if_neg (by simp)]
        have hcst : ∀ v, (Loc.wr c mo.dst v).st = c.st := by intro v; cases mo.dst <;> rfl
        refine ops_sound (base := base) hcfg hE l ml' (i + 1) hdrop hml G (a.put o.dst undef) w _ c' (key + 8) lim (hL.put hn hd (undef_rel G)) (by rw [Act.put_size]; exact hn) (by rw [hcst]; exact hs) (by rw [hcst]; exact hfu) ?_ (by omega) (by rw [hcst]; exact hcnt) he ?_
        · rw [hcst]
          intro k hk'
          exact hk k (by rcases hk' with h | h; exact .inl ⟨by omega, h.2⟩; exact .inr h)
        · intro a' w' G' hL' hn' hdf hcc hst'
          rw [hcst] at hst' hcc
          refine hQ a' w' G' hL' hn' (by rw [hdf, Act.put_defers']) hcc (hst'.weaken ?_)
          intro k hk'
          rcases hk' with h | h
          · left; omega
          · exact .inr h
      · simp at he
    · simp at hm
end Go.Pe
