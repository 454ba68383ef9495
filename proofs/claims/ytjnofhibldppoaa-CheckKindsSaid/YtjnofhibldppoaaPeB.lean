/-
  Runs by the kernel within runs over plain data. No condition; nothing of the program.
-/
import Derived.Test.YtjnofhibldppoaaPe9
set_option linter.unusedVariables false
set_option linter.unusedSimpArgs false
namespace Go.Pe
open Go

theorem WC_runB {α : Type} {cfg : Cfg} {k n : Nat} {m : MCode} {x : Now} (f : Now → α) (a : α) (h : (fCode m cfg (fFn cfg k) n x).map (fun p => (p.1, f p.2)) = some (.nrm, a)) : WC cfg (evFn cfg k) n m x (fun e x' => e = .nrm ∧ f x' = a) := by
  rw [fFn_eq, fCode_eq] at h
  simp only [Option.map_eq_some_iff, Prod.mk.injEq] at h
  obtain ⟨⟨e, x'⟩, h1, h2, h3⟩ := h
  exact ⟨e, x', h1, h2, h3⟩
def isRet : MExit → Bool
  | .ret => true
  | _ => false
theorem WC_runR {α : Type} {cfg : Cfg} {k n : Nat} {m : MCode} {x : Now} {Q : MExit → Now → Prop} (f : Now → α) (a : α) (h : (fCode m cfg (fFn cfg k) n x).map (fun p => (isRet p.1, f p.2)) = some (true, a)) (q : ∀ x', f x' = a → Q .ret x') : WC cfg (evFn cfg k) n m x Q := by
  rw [fFn_eq, fCode_eq] at h
  simp only [Option.map_eq_some_iff, Prod.mk.injEq] at h
  obtain ⟨⟨e, x'⟩, h1, h2, h3⟩ := h
  cases e <;> simp [isRet] at h2
  exact ⟨.ret, x', h1, q x' h3⟩
theorem evOps_take (cfg : Cfg) (callE : CallE) : ∀ (j : Nat) (l : List MOper) (key : Nat) (c c' : Loc), evOps cfg callE (l.take j) key c = some c' → evOps cfg callE l key c = evOps cfg callE (l.drop j) (key + 8 * (l.take j).length) c'
  | 0, l, key, c, c', h => by
    simp only [List.take_zero, evOps, Option.some.injEq] at h
    subst h
    simp
  | j + 1, [], key, c, c', h => by
    simp only [List.take_nil, evOps, Option.some.injEq] at h
    subst h
    simp
  | j + 1, o :: l, key, c, c', h => by
    have e : key + 8 * ((o :: l).take (j + 1)).length = key + 8 + 8 * (l.take j).length := by
      rw [List.take_succ_cons, List.length_cons]; omega
    rw [e, List.drop_succ_cons]
    rw [List.take_succ_cons] at h
    rw [evOps] at h ⊢
    cases hg : guardP c o.guard with
    | none => simp only [hg] at h; cases h
    | some b =>
      simp only [hg] at h
      cases b with
      | false => exact evOps_take cfg callE j l (key + 8) _ c' h
      | true =>
        cases ho : evOp cfg callE c.rd c.st key o.op with
        | none => simp only [ho] at h; cases h
        | some p =>
          obtain ⟨v, st'⟩ := p
          simp only [ho] at h
          exact evOps_take cfg callE j l (key + 8) _ c' h
noncomputable def runPre {α : Type} (cfg : Cfg) (k n : Nat) (a : MCode) (l : List MOper) (j : Nat) (x : Now) (f : Loc → α) : Option α :=
  match fCode a cfg (fFn cfg k) n x with
  | some (.nrm, x') => (fOps cfg (fFn cfg k) (l.take j) x'.st.cnt x'.env .leaf { sto := x'.st.sto, cnt := x'.st.cnt + 8 * l.length }).map f
  | _ => none
theorem WC_runPre {α : Type} {cfg : Cfg} {k n : Nat} {a b : MCode} {l : List MOper} {x : Now} {Q : MExit → Now → Prop} (j : Nat) (f : Loc → α) (v : α) (h : runPre cfg k n a l j x f = some v)
    (q : ∀ (c : Loc) (key : Nat), f c = v → WO cfg (evFn cfg k) (l.drop j) key c fun c => WC cfg (evFn cfg k) n b ⟨c.env, c.st⟩ Q) : WC cfg (evFn cfg k) n (.seq a (.seq (.region l) b)) x Q := by
  unfold runPre at h
  rw [fFn_eq] at h
  split at h
  · rename_i x' hx
    rw [fCode_eq] at hx
    rw [fOps_eq] at h
    simp only [Option.map_eq_some_iff] at h
    obtain ⟨c, h1, h2⟩ := h
    rw [Z0]
    refine ⟨.nrm, x', hx, ?_⟩
    show WC cfg (evFn cfg k) n (.seq (.region l) b) x' Q
    rw [Z0]
    obtain ⟨env, sto, cnt⟩ := x'
    rw [Z1]
    obtain ⟨c2, h3, h4⟩ := q c (cnt + 8 * (l.take j).length) h2
    exact ⟨c2, by rw [evOps_take cfg (evFn cfg k) j l cnt _ c h1]; exact h3, h4⟩
  · cases h
theorem assocB (cfg : Cfg) (callE : CallE) (n : Nat) (a b c : MCode) (x : Now) (Q : MExit → Now → Prop) : WC cfg callE n (.seq a (.seq b c)) x Q ↔ WC cfg callE n (.seq (.seq a b) c) x Q := by
  rw [Z0, Z0, Z0]
  constructor
  · intro h
    refine h.mono ?_
    intro e x' hq
    cases e with
    | nrm => exact (Z0 ..).1 hq
    | ex id => exact hq
    | ret => exact hq
  · intro h
    refine h.mono ?_
    intro e x' hq
    cases e with
    | nrm => exact (Z0 ..).2 hq
    | ex id => exact hq
    | ret => exact hq
end Go.Pe
