/-
  Regions in an open order: what the plain run in the text's order tells. No condition; nothing of the program.
-/
import Derived.Test.YtaepgkghgcchnaaPeCb
set_option linter.unusedVariables false
set_option linter.unusedSimpArgs false
namespace Go.Pe
open Go Go.Am Go.RowKit

theorem evOp_congr {cfg : Cfg} {callE : CallE} {ρ ρ' : Arg → PV} {st : St} {key : Nat} (m : MOp) (h : ∀ x ∈ mArgs m, ρ x = ρ' x) : evOp cfg callE ρ st key m = evOp cfg callE ρ' st key m := by
  have hp : ∀ l : List (Nat × Nat × Arg), (∀ x ∈ l.map (fun p => p.2.2), ρ x = ρ' x) → (l.map fun p => (p.1, p.2.1, ρ p.2.2)) = l.map fun p => (p.1, p.2.1, ρ' p.2.2) := by
    intro l hl
    refine List.map_congr_left fun p hp => ?_
    rw [hl p.2.2 (List.mem_map.2 ⟨p, hp, rfl⟩)]
  have hl : ∀ l : List Arg, (∀ x ∈ l, ρ x = ρ' x) → l.map ρ = l.map ρ' := fun l hl => List.map_congr_left hl
  have ho : ∀ o : Option Arg, (∀ x ∈ argsO o, ρ x = ρ' x) → o.map ρ = o.map ρ' := by
    intro o ho
    cases o with
    | none => rfl
    | some a => simp [ho a (by simp [argsO])]
  cases m
  case build z ps => simp only [evOp]; rw [hp ps h]
  case bslice n s z ps => simp only [evOp]; rw [hp ps h]
  case mkfn f l => simp only [evOp]; rw [hl l h]
  case mkbfn f l => simp only [evOp]; rw [hl l h]
  case call f own l => simp only [evOp]; rw [hl l h]
  case calle f l => simp only [evOp]; rw [hl l h]
  case callq f l => simp only [evOp]; rw [hl l h]
  case callv f l => simp only [evOp]; rw [h f (by simp [mArgs]), hl l (fun x hx => h x (by simp [mArgs, hx]))]
  case min x l => simp only [evOp]; rw [h x (by simp [mArgs]), hl l (fun y hy => h y (by simp [mArgs, hy]))]
  case max x l => simp only [evOp]; rw [h x (by simp [mArgs]), hl l (fun y hy => h y (by simp [mArgs, hy]))]
  case slice arr sz x lo hi =>
    have h1 := h x (by simp [mArgs])
    have h2 := ho lo (fun y hy => h y (by simp [mArgs, hy]))
    have h3 := ho hi (fun y hy => h y (by simp [mArgs, hy]))
    cases arr <;> simp only [evOp, h1, h2, h3]
  case substr x lo hi =>
    have h1 := h x (by simp [mArgs])
    have h2 := ho lo (fun y hy => h y (by simp [mArgs, hy]))
    have h3 := ho hi (fun y hy => h y (by simp [mArgs, hy]))
    simp only [evOp, h1, h2, h3]
  case indexAddr arr sz x i =>
    have h1 := h x (by simp [mArgs])
    have h2 := h i (by simp [mArgs])
    cases arr <;> simp only [evOp, h1, h2]
  all_goals first
    | rfl
    | (simp only [mArgs, List.mem_cons, List.not_mem_nil, or_false, forall_eq_or_imp, forall_eq] at h; simp only [evOp, h])
theorem recvRes_store {st : St} {key : Nat} {v p : PV} {st' : St} (h : recvRes st key v = some (p, st')) : st' = st ∨ ∃ o, st' = st.put key (some o) := by
  unfold recvRes at h
  repeat' split at h
  all_goals first
    | (simp at h; done)
    | (simp only [Option.some.injEq, Prod.mk.injEq] at h; obtain ⟨_, rfl⟩ := h; first | exact .inl rfl | exact .inr ⟨_, rfl⟩)
theorem quiet_store {cfg : Cfg} {callE : CallE} {ρ : Arg → PV} {st : St} {key : Nat} {m : MOp} (hq : quietB m = true) {r : PV} {st' : St} (he : evOp cfg callE ρ st key m = some (r, st')) : st' = st ∨ ∃ o, st' = st.put key (some o) := by
  cases m
  case store => simp [quietB] at hq
  case append => simp [quietB] at hq
  case appstr => simp [quietB] at hq
  case copy => simp [quietB] at hq
  case mark => simp [quietB] at hq
  case mapup => simp [quietB] at hq
  case snext => simp [quietB] at hq
  case call => simp [quietB] at hq
  case calle => simp [quietB] at hq
  case callv => simp [quietB] at hq
  case slice arr sz x lo hi =>
    cases arr <;> simp only [evOp] at he
    · obtain ⟨_, _, h⟩ := Option.map_eq_some_iff.1 he; cases h; exact .inl rfl
    · repeat' split at he
      all_goals first | (simp at he; done) | (cases he; exact .inl rfl)
  case indexAddr arr sz x i =>
    cases arr <;> simp only [evOp] at he
    all_goals (repeat' split at he)
    all_goals first | (simp at he; done) | (cases he; exact .inl rfl)
  case callq f args =>
    simp only [evOp] at he
    repeat' split at he
    all_goals first | (simp at he; done) | exact recvRes_store he
  all_goals
    simp only [evOp] at he
    repeat' split at he
    all_goals first
      | (simp at he; done)
      | (cases he; first | exact .inl rfl | exact .inr ⟨_, rfl⟩)
      | (obtain ⟨_, _, h⟩ := Option.map_eq_some_iff.1 he; cases h; first | exact .inl rfl | exact .inr ⟨_, rfl⟩)
/-- one operation of the text's run -/
def StepAt (cfg : Cfg) (callE : CallE) (key : Nat) (mo : MOper) (c : Loc) (r : PV) (c' : Loc) : Prop :=
  (guardP c mo.guard = some true ∧ ∃ st, evOp cfg callE c.rd c.st key mo.op = some (r, st) ∧ c' = Loc.wr { c with st := st } mo.dst r) ∨
  (guardP c mo.guard = some false ∧ r = .tup [] ∧ c' = c.wr mo.dst (.tup []))
theorem evOps_seq {cfg : Cfg} {callE : CallE} : ∀ (ml : List MOper) (key : Nat) (c c' : Loc), evOps cfg callE ml key c = some c' →
    ∃ (cs : Nat → Loc) (rs : Nat → PV), cs 0 = c ∧ cs ml.length = c' ∧ ∀ i mo, ml[i]? = some mo → StepAt cfg callE (key + 8 * i) mo (cs i) (rs i) (cs (i + 1))
  | [], key, c, c', h => by
    simp only [evOps, Option.some.injEq] at h
    exact ⟨fun _ => c, fun _ => .und, rfl, h, fun i mo hi => by simp at hi⟩
  | o :: ml, key, c, c', h => by
    simp only [evOps] at h
    have key' : ∀ i, key + 8 + 8 * i = key + 8 * (i + 1) := by intro i; omega
    split at h
    · rename_i hg
      split at h
      · rename_i v st hev
        obtain ⟨cs, rs, h0, hN, hs⟩ := evOps_seq ml _ _ _ h
        refine ⟨fun i => match i with | 0 => c | i + 1 => cs i, fun i => match i with | 0 => v | i + 1 => rs i, rfl, hN, ?_⟩
        intro i mo hi
        cases i with
        | zero =>
          simp only [List.getElem?_cons_zero, Option.some.injEq] at hi
          subst hi
          exact .inl ⟨hg, st, hev, h0⟩
        | succ i =>
          have := hs i mo (by simpa using hi)
          rw [key'] at this
          exact this
      · simp at h
    · rename_i hg
      obtain ⟨cs, rs, h0, hN, hs⟩ := evOps_seq ml _ _ _ h
      refine ⟨fun i => match i with | 0 => c | i + 1 => cs i, fun i => match i with | 0 => .tup [] | i + 1 => rs i, rfl, hN, ?_⟩
      intro i mo hi
      cases i with
      | zero =>
        simp only [List.getElem?_cons_zero, Option.some.injEq] at hi
        subst hi
        exact .inr ⟨hg, rfl, h0⟩
      | succ i =>
        have := hs i mo (by simpa using hi)
        rw [key'] at this
        exact this
    · simp at h
/-- the slot of a temporary -/
noncomputable def lk (V : List Nat) (c : Loc) (t : Nat) : PV := if V.contains t then c.env.get t else Env.get c.loc t
theorem wr_st (c : Loc) (d : MDst) (v : PV) : (c.wr d v).st = c.st := by cases d <;> rfl
theorem Env.put_get_or (e : Env) (t : Nat) (v : PV) : Env.get (Env.put e t v) t = v ∨ Env.get (Env.put e t v) t = .und := .inl (Env.get_putk e t v)
theorem lk_wr_ne {V : List Nat} {n : Nat} {c : Loc} {d : Option Tmp} {md : MDst} (hd : cDst V n d = some md) {r : PV} {t : Nat} (h : d ≠ some t) : lk V (c.wr md r) t = lk V c t := by
  cases d with
  | none => simp [cDst] at hd; subst hd; rfl
  | some u =>
    have hne : u ≠ t := fun e => h (by rw [e])
    simp only [cDst] at hd
    split at hd
    · simp only [Option.some.injEq] at hd
      subst hd
      unfold lk
      cases hU : V.contains u <;> cases hT : V.contains t <;> simp only [if_true, Bool.false_eq_true, if_false, Loc.wr] <;> first | rfl | exact Env.get_put_ne hne
    · simp at hd
theorem lk_wr_same {V : List Nat} {n : Nat} {c : Loc} {t : Nat} {md : MDst} (hd : cDst V n (some t) = some md) {r : PV} : lk V (c.wr md r) t = r ∨ lk V (c.wr md r) t = .und := by
  simp only [cDst] at hd
  split at hd
  · simp only [Option.some.injEq] at hd
    subst hd
    unfold lk
    cases hV : V.contains t with
    | true => simp only [if_true, Loc.wr]; exact Env.put_get_or _ _ _
    | false => simp only [Bool.false_eq_true, if_false, Loc.wr]; exact Env.put_get_or _ _ _
  · simp at hd
theorem lk_rd {V : List Nat} {c : Loc} {t : Nat} : c.rd (if V.contains t then .t t else .l t) = lk V c t := by
  unfold lk; split <;> rfl
end Go.Pe
