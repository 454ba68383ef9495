/-
  What plain data stands for in the program's memory, and how a step keeps it. No condition; nothing of the program.
-/
import Derived.Test.YtaepgkghgcchnaaPeE
import Derived.Deep.MidRow
import Derived.Deep.AppendSrc
set_option linter.unusedVariables false
set_option linter.unusedSimpArgs false
namespace Go.Pe
open Go Go.Am Go.RowKit

theorem Trie.sget_put_ne {α : Type} : ∀ (f : Nat) (t : Trie α) (k k' : Nat) (x : Option α), k ≠ k' → Trie.sget f (Trie.sput f t k x) k' = Trie.sget f t k'
  | 0, _, _, _, _, _ => rfl
  | f + 1, .leaf, k, k', x, h => by
    have hl : ∀ j, Trie.sget f (Trie.leaf : Trie α) j = none := by intro j; cases f <;> rfl
    unfold Trie.sput
    by_cases h0 : k = 0
    · rw [if_pos h0]; simp only [Trie.sget]; rw [if_neg (by omega)]; split <;> exact hl _
    · rw [if_neg h0]
      by_cases h1 : k % 2 = 1
      · rw [if_pos h1]; simp only [Trie.sget]
        by_cases h2 : k' = 0
        · rw [if_pos h2]
        · rw [if_neg h2]; split
          · rw [Trie.sget_put_ne f .leaf (k / 2) (k' / 2) x (by omega)]; exact hl _
          · exact hl _
      · rw [if_neg h1]; simp only [Trie.sget]
        by_cases h2 : k' = 0
        · rw [if_pos h2]
        · rw [if_neg h2]; split
          · exact hl _
          · rw [Trie.sget_put_ne f .leaf (k / 2 - 1) (k' / 2 - 1) x (by omega)]; exact hl _
  | f + 1, .node v l r, k, k', x, h => by
    unfold Trie.sput
    by_cases h0 : k = 0
    · have hk : ¬ k' = 0 := by omega
      rw [if_pos h0]; simp only [Trie.sget, if_neg hk]
    · rw [if_neg h0]
      by_cases h1 : k % 2 = 1
      · rw [if_pos h1]; simp only [Trie.sget]
        by_cases h2 : k' = 0
        · rw [if_pos h2, if_pos h2]
        · rw [if_neg h2, if_neg h2]; split
          · exact Trie.sget_put_ne f l (k / 2) (k' / 2) x (by omega)
          · rfl
      · rw [if_neg h1]; simp only [Trie.sget]
        by_cases h2 : k' = 0
        · rw [if_pos h2, if_pos h2]
        · rw [if_neg h2, if_neg h2]; split
          · rfl
          · exact Trie.sget_put_ne f r (k / 2 - 1) (k' / 2 - 1) x (by omega)
theorem Trie.sget_put_some {α : Type} : ∀ (f : Nat) (t : Trie α) (k : Nat) (x : Option α) (y : α), Trie.sget f (Trie.sput f t k x) k = some y → x = some y
  | 0, _, _, _, _, h => by simp [Trie.sget] at h
  | f + 1, .leaf, k, x, y, h => by
    unfold Trie.sput at h
    by_cases h0 : k = 0
    · rw [if_pos h0] at h; simp only [Trie.sget] at h; rwa [if_pos h0] at h
    · rw [if_neg h0] at h
      by_cases h1 : k % 2 = 1
      · rw [if_pos h1] at h; simp only [Trie.sget] at h; rw [if_neg h0, if_pos h1] at h; exact Trie.sget_put_some f _ _ _ _ h
      · rw [if_neg h1] at h; simp only [Trie.sget] at h; rw [if_neg h0, if_neg h1] at h; exact Trie.sget_put_some f _ _ _ _ h
  | f + 1, .node v l r, k, x, y, h => by
    unfold Trie.sput at h
    by_cases h0 : k = 0
    · rw [if_pos h0] at h; simp only [Trie.sget] at h; rwa [if_pos h0] at h
    · rw [if_neg h0] at h
      by_cases h1 : k % 2 = 1
      · rw [if_pos h1] at h; simp only [Trie.sget] at h; rw [if_neg h0, if_pos h1] at h; exact Trie.sget_put_some f _ _ _ _ h
      · rw [if_neg h1] at h; simp only [Trie.sget] at h; rw [if_neg h0, if_neg h1] at h; exact Trie.sget_put_some f _ _ _ _ h
theorem Trie.sget_put_same {α : Type} : ∀ (f : Nat) (t : Trie α) (k : Nat) (x : Option α), k + 1 < 2 ^ f → Trie.sget f (Trie.sput f t k x) k = x
  | 0, _, k, _, h => by simp at h
  | f + 1, .leaf, k, x, h => by
    rw [Nat.pow_succ] at h
    unfold Trie.sput
    by_cases h0 : k = 0
    · rw [if_pos h0]; simp only [Trie.sget]; rw [if_pos h0]
    · rw [if_neg h0]
      by_cases h1 : k % 2 = 1
      · rw [if_pos h1]; simp only [Trie.sget]; rw [if_neg h0, if_pos h1]; exact Trie.sget_put_same f _ _ _ (by omega)
      · rw [if_neg h1]; simp only [Trie.sget]; rw [if_neg h0, if_neg h1]; exact Trie.sget_put_same f _ _ _ (by omega)
  | f + 1, .node v l r, k, x, h => by
    rw [Nat.pow_succ] at h
    unfold Trie.sput
    by_cases h0 : k = 0
    · rw [if_pos h0]; simp only [Trie.sget]; rw [if_pos h0]
    · rw [if_neg h0]
      by_cases h1 : k % 2 = 1
      · rw [if_pos h1]; simp only [Trie.sget]; rw [if_neg h0, if_pos h1]; exact Trie.sget_put_same f _ _ _ (by omega)
      · rw [if_neg h1]; simp only [Trie.sget]; rw [if_neg h0, if_neg h1]; exact Trie.sget_put_same f _ _ _ (by omega)
theorem Trie.sput_put {α : Type} : ∀ (f : Nat) (t : Trie α) (k : Nat) (x y : Option α), Trie.sput f (Trie.sput f t k x) k y = Trie.sput f t k y
  | 0, _, _, _, _ => rfl
  | f + 1, .leaf, k, x, y => by
    simp only [Trie.sput]
    by_cases h0 : k = 0
    · rw [if_pos h0, if_pos h0]; simp only [Trie.sput, if_pos h0]
    · rw [if_neg h0, if_neg h0]
      by_cases h1 : k % 2 = 1
      · rw [if_pos h1, if_pos h1]; simp only [Trie.sput, if_neg h0, if_pos h1, Trie.sput_put f]
      · rw [if_neg h1, if_neg h1]; simp only [Trie.sput, if_neg h0, if_neg h1, Trie.sput_put f]
  | f + 1, .node v l r, k, x, y => by
    simp only [Trie.sput]
    by_cases h0 : k = 0
    · rw [if_pos h0, if_pos h0]; simp only [Trie.sput, if_pos h0]
    · rw [if_neg h0, if_neg h0]
      by_cases h1 : k % 2 = 1
      · rw [if_pos h1, if_pos h1]; simp only [Trie.sput, if_neg h0, if_pos h1, Trie.sput_put f]
      · rw [if_neg h1, if_neg h1]; simp only [Trie.sput, if_neg h0, if_neg h1, Trie.sput_put f]
theorem Trie.get_put_ne {α : Type} : ∀ (f : Nat) (t : Trie α) (k k' : Nat) (x : Option α), k ≠ k' → Trie.get f (Trie.put f t k x) k' = Trie.get f t k' := by
  simp only [Trie.get_eq, Trie.put_eq]; exact Trie.sget_put_ne
theorem Trie.get_put_some {α : Type} : ∀ (f : Nat) (t : Trie α) (k : Nat) (x : Option α) (y : α), Trie.get f (Trie.put f t k x) k = some y → x = some y := by
  simp only [Trie.get_eq, Trie.put_eq]; exact Trie.sget_put_some
theorem Trie.get_put_same {α : Type} : ∀ (f : Nat) (t : Trie α) (k : Nat) (x : Option α), k + 1 < 2 ^ f → Trie.get f (Trie.put f t k x) k = x := by
  simp only [Trie.get_eq, Trie.put_eq]; exact Trie.sget_put_same
theorem Trie.put_put {α : Type} : ∀ (f : Nat) (t : Trie α) (k : Nat) (x y : Option α), Trie.put f (Trie.put f t k x) k y = Trie.put f t k y := by
  simp only [Trie.get_eq, Trie.put_eq]; exact Trie.sput_put
theorem Trie.sget_fuel {α : Type} : ∀ (f f' : Nat) (t : Trie α) (k : Nat), k < f → k < f' → Trie.sget f t k = Trie.sget f' t k
  | 0, _, _, _, h, _ => by omega
  | _ + 1, 0, _, _, _, h => by omega
  | _ + 1, _ + 1, .leaf, _, _, _ => rfl
  | f + 1, f' + 1, .node v l r, k, h, h' => by
    simp only [Trie.sget]
    split
    · rfl
    · split
      · exact Trie.sget_fuel f f' l _ (by omega) (by omega)
      · exact Trie.sget_fuel f f' r _ (by omega) (by omega)
theorem Trie.sput_fuel {α : Type} : ∀ (f f' : Nat) (t : Trie α) (k : Nat) (x : Option α), k < f → k < f' → Trie.sput f t k x = Trie.sput f' t k x
  | 0, _, _, _, _, h, _ => by omega
  | _ + 1, 0, _, _, _, _, h => by omega
  | f + 1, f' + 1, .leaf, k, x, h, h' => by
    simp only [Trie.sput]
    split
    · rfl
    · split
      · rw [Trie.sput_fuel f f' .leaf _ x (by omega) (by omega)]
      · rw [Trie.sput_fuel f f' .leaf _ x (by omega) (by omega)]
  | f + 1, f' + 1, .node v l r, k, x, h, h' => by
    simp only [Trie.sput]
    split
    · rfl
    · split
      · rw [Trie.sput_fuel f f' l _ x (by omega) (by omega)]
      · rw [Trie.sput_fuel f f' r _ x (by omega) (by omega)]
theorem Trie.get_fuel {α : Type} {f f' : Nat} {t : Trie α} {k : Nat} (h : k < f) (h' : k < f') : Trie.get f t k = Trie.get f' t k := by
  rw [Trie.get_eq, Trie.get_eq]; exact Trie.sget_fuel _ _ _ _ h h'
theorem Trie.put_fuel {α : Type} {f f' : Nat} {t : Trie α} {k : Nat} {x : Option α} (h : k < f) (h' : k < f') : Trie.put f t k x = Trie.put f' t k x := by
  rw [Trie.put_eq, Trie.put_eq]; exact Trie.sput_fuel _ _ _ _ _ h h'
theorem lt_pow (k : Nat) : k + 1 < 2 ^ (k + 1) := by
  induction k with
  | zero => decide
  | succ k ih => rw [Nat.pow_succ]; omega
theorem lt_pow1 (k : Nat) : k + 1 < 2 ^ (Nat.add (k + 1) 1) := by
  have h := lt_pow k
  show k + 1 < 2 ^ (k + 1 + 1)
  rw [Nat.pow_succ]; omega
theorem Trie.getk_putk {α : Type} (t : Trie α) (k : Nat) (x : Option α) : Trie.get (Nat.add k 1) (Trie.put (Nat.add k 1) t k x) k = x := by
  rw [Trie.get_fuel (f := Nat.add k 1) (f' := Nat.add (k + 1) 1) (show k < k + 1 by omega) (show k < k + 1 + 1 by omega), Trie.put_fuel (f := Nat.add k 1) (f' := Nat.add (k + 1) 1) (show k < k + 1 by omega) (show k < k + 1 + 1 by omega)]
  exact Trie.get_put_same _ _ _ _ (lt_pow1 k)
theorem Trie.getk_putk_ne {α : Type} (t : Trie α) {k k' : Nat} (x : Option α) (h : k ≠ k') : Trie.get (Nat.add k' 1) (Trie.put (Nat.add k 1) t k x) k' = Trie.get (Nat.add k' 1) t k' := by
  rw [Trie.get_fuel (f := Nat.add k' 1) (f' := k + k' + 1) (show k' < k' + 1 by omega) (by omega), Trie.put_fuel (f := Nat.add k 1) (f' := k + k' + 1) (show k < k + 1 by omega) (by omega), Trie.get_put_ne _ _ _ _ _ h]
  exact Trie.get_fuel (by omega) (show k' < k' + 1 by omega)
theorem St.put_put (st : St) (k : Nat) (x y : Option PObj) : (st.put k x).put k y = st.put k y := by simp [St.put, Trie.put_put]
theorem St.get_putk (st : St) (k : Nat) (o : Option PObj) : (st.put k o).get k = o := Trie.getk_putk _ _ _
theorem St.get_put_ne {st : St} {k k' : Nat} {o : Option PObj} (h : k ≠ k') : (st.put k o).get k' = st.get k' := Trie.getk_putk_ne _ _ h
theorem St.get_put {st : St} {k k' : Nat} {o : Option PObj} {x : PObj} (h : (st.put k o).get k' = some x) : (k = k' ∧ o = some x) ∨ (k ≠ k' ∧ st.get k' = some x) := by
  by_cases e : k = k'
  · subst e; rw [St.get_putk] at h; exact .inl ⟨rfl, h⟩
  · rw [St.get_put_ne e] at h; exact .inr ⟨e, h⟩

/-- what plain data stands for: frozen cells, objects' blocks -/
structure Ghost where
  F : Nat → Nat → Option Value
  B : Nat → Option (Nat × Nat)
/-- frozen data: nothing in it has a name -/
inductive FRel (F : Nat → Nat → Option Value) : Value → PV → Prop
  | und (v : Value) : FRel F v .und
  | i (k : IntKind) (n : Int) : FRel F (.int k n) (.i k n)
  | b (x : Bool) : FRel F (.bool x) (.b x)
  | s (l : List UInt8) : FRel F (.string ⟨l.toArray⟩) (.s l)
  | agg (cs : Array Value) (ps : List PV) (hl : cs.size = ps.length) (h : ∀ (i : Nat) (v : Value) (p : PV), cs[i]? = some v → ps[i]? = some p → FRel F v p) : FRel F (.agg cs) (.agg ps)
  | tup (cs : Array Value) (ps : List PV) (hl : cs.size = ps.length) (h : ∀ (i : Nat) (v : Value) (p : PV), cs[i]? = some v → ps[i]? = some p → FRel F v p) : FRel F (.tuple cs) (.tup ps)
  | nsl : FRel F (.slice none 0 0) .nsl
  | fnull (a : Option Addr) (cap : Nat) (hm : cap ≤ maxLen) : FRel F (.slice a 0 cap) (.fsl 0 [])
  | fsl (b o n cap : Nat) (ps : List PV) (f : Nat → Value) (hc : n ≤ cap) (hm : cap ≤ maxLen) (hF : ∀ i, i < ps.length → F b (o + i) = some (f i)) (h : ∀ (i : Nat) (p : PV), ps[i]? = some p → FRel F (f i) p) :
      FRel F (.slice (some ⟨b, o, none⟩) n cap) (.fsl n ps)
  | nptr : FRel F (.pointer none) .nptr
  | nfn : FRel F .nilFunc .nfn
  | nmp : FRel F (.map none) .nmp
theorem FRel.mono {F F' : Nat → Nat → Option Value} (hl : ∀ b o u, F b o = some u → F' b o = some u) {v : Value} {p : PV} (h : FRel F v p) : FRel F' v p := by
  induction h with
  | und v => exact .und v
  | i k n => exact .i k n
  | b x => exact .b x
  | s l => exact .s l
  | agg cs ps hl' h ih => exact .agg cs ps hl' ih
  | tup cs ps hl' h ih => exact .tup cs ps hl' ih
  | nsl => exact .nsl
  | fnull a cap hm => exact .fnull a cap hm
  | fsl b o n cap ps f hc hm hF h ih => exact .fsl b o n cap ps f hc hm (fun i hi => hl _ _ _ (hF i hi)) ih
  | nptr => exact .nptr
  | nfn => exact .nfn
  | nmp => exact .nmp
inductive VRel (G : Ghost) : Value → PV → Prop
  | und (v : Value) : VRel G v .und
  | i (k : IntKind) (n : Int) : VRel G (.int k n) (.i k n)
  | b (x : Bool) : VRel G (.bool x) (.b x)
  | s (l : List UInt8) : VRel G (.string ⟨l.toArray⟩) (.s l)
  | agg (cs : Array Value) (ps : List PV) (hl : cs.size = ps.length) (h : ∀ (i : Nat) (v : Value) (p : PV), cs[i]? = some v → ps[i]? = some p → VRel G v p) : VRel G (.agg cs) (.agg ps)
  | tup (cs : Array Value) (ps : List PV) (hl : cs.size = ps.length) (h : ∀ (i : Nat) (v : Value) (p : PV), cs[i]? = some v → ps[i]? = some p → VRel G v p) : VRel G (.tuple cs) (.tup ps)
  | nsl : VRel G (.slice none 0 0) .nsl
  | fnull (a : Option Addr) (cap : Nat) (hm : cap ≤ maxLen) : VRel G (.slice a 0 cap) (.fsl 0 [])
  | fsl (b o n cap : Nat) (ps : List PV) (f : Nat → Value) (hc : n ≤ cap) (hm : cap ≤ maxLen) (hF : ∀ i, i < ps.length → G.F b (o + i) = some (f i)) (h : ∀ (i : Nat) (p : PV), ps[i]? = some p → FRel G.F (f i) p) :
      VRel G (.slice (some ⟨b, o, none⟩) n cap) (.fsl n ps)
  | rsl (k sz off n blk size cap : Nat) (hB : G.B k = some (blk, size)) (hc : n ≤ cap) (hm : cap ≤ maxLen) (hz : off + cap * sz ≤ size) (hs : 0 < sz) : VRel G (.slice (some ⟨blk, off, none⟩) n cap) (.rsl k sz off n)
  | nptr : VRel G (.pointer none) .nptr
  | ptr (k off blk size : Nat) (hB : G.B k = some (blk, size)) : VRel G (.pointer (some ⟨blk, off, none⟩)) (.ptr k off)
  | fptr (b o : Nat) (ps : List PV) (f : Nat → Value) (hF : ∀ i, i < ps.length → G.F b (o + i) = some (f i)) (h : ∀ (i : Nat) (p : PV), ps[i]? = some p → FRel G.F (f i) p) : VRel G (.pointer (some ⟨b, o, none⟩)) (.fptr ps)
  | nfn : VRel G .nilFunc .nfn
  | fn (f : FuncId) (cs : Array Value) (ps : List PV) (hl : cs.size = ps.length) (h : ∀ (i : Nat) (v : Value) (p : PV), cs[i]? = some v → ps[i]? = some p → VRel G v p) : VRel G (.func (.func f) #[] cs) (.fn f ps)
  | bfn (f : FuncId) (cs : Array Value) (ps : List PV) (hl : cs.size = ps.length) (h : ∀ (i : Nat) (v : Value) (p : PV), cs[i]? = some v → ps[i]? = some p → VRel G v p) : VRel G (.func (.func f) cs #[]) (.bfn f ps)
  | nmp : VRel G (.map none) .nmp
  | mp (k blk size : Nat) (hB : G.B k = some (blk, size)) : VRel G (.map (some blk)) (.mp k)

structure Ghost.le (G G' : Ghost) : Prop where
  F : ∀ b o u, G.F b o = some u → G'.F b o = some u
  B : ∀ k x, G.B k = some x → G'.B k = some x
theorem Ghost.le.refl (G : Ghost) : G.le G := ⟨fun _ _ _ h => h, fun _ _ h => h⟩
theorem Ghost.le.trans {G G' G'' : Ghost} (h : G.le G') (k : G'.le G'') : G.le G'' := ⟨fun b o u x => k.F b o u (h.F b o u x), fun i x y => k.B i x (h.B i x y)⟩
theorem VRel.mono {G G' : Ghost} (hl : G.le G') {v : Value} {p : PV} (h : VRel G v p) : VRel G' v p := by
  induction h with
  | und v => exact .und v
  | i k n => exact .i k n
  | b x => exact .b x
  | s l => exact .s l
  | agg cs ps hl' h ih => exact .agg cs ps hl' ih
  | tup cs ps hl' h ih => exact .tup cs ps hl' ih
  | nsl => exact .nsl
  | fnull a cap hm => exact .fnull a cap hm
  | fsl b o n cap ps f hc hm hF h => exact .fsl b o n cap ps f hc hm (fun i hi => hl.F _ _ _ (hF i hi)) (fun i p hp => (h i p hp).mono hl.F)
  | rsl k sz off n blk size cap hB hc hm hz hs => exact .rsl k sz off n blk size cap (hl.B _ _ hB) hc hm hz hs
  | nptr => exact .nptr
  | ptr k off blk size hB => exact .ptr k off blk size (hl.B _ _ hB)
  | fptr b o ps f hF h => exact .fptr b o ps f (fun i hi => hl.F _ _ _ (hF i hi)) (fun i p hp => (h i p hp).mono hl.F)
  | nfn => exact .nfn
  | fn f cs ps hl' h ih => exact .fn f cs ps hl' ih
  | bfn f cs ps hl' h ih => exact .bfn f cs ps hl' ih
  | nmp => exact .nmp
  | mp k blk size hB => exact .mp k blk size (hl.B _ _ hB)

theorem FRel.toV {G : Ghost} {v : Value} {p : PV} (h : FRel G.F v p) : VRel G v p := by
  induction h with
  | und v => exact .und v
  | i k n => exact .i k n
  | b x => exact .b x
  | s l => exact .s l
  | agg cs ps hl' h ih => exact .agg cs ps hl' ih
  | tup cs ps hl' h ih => exact .tup cs ps hl' ih
  | nsl => exact .nsl
  | fnull a cap hm => exact .fnull a cap hm
  | fsl b o n cap ps f hc hm hF h ih => exact .fsl b o n cap ps f hc hm hF h
  | nptr => exact .nptr
  | nfn => exact .nfn
  | nmp => exact .nmp
/-- cells one by one -/
def CRel (G : Ghost) (vs : List Value) (ps : List PV) : Prop := vs.length = ps.length ∧ ∀ (i : Nat) (v : Value) (p : PV), vs[i]? = some v → ps[i]? = some p → VRel G v p
theorem CRel.mono {G G' : Ghost} (hl : G.le G') {vs : List Value} {ps : List PV} (h : CRel G vs ps) : CRel G' vs ps := ⟨h.1, fun i v p a b => (h.2 i v p a b).mono hl⟩
theorem CRel.nil {G : Ghost} : CRel G [] [] := ⟨rfl, fun i v p h => by simp at h⟩
theorem CRel.append {G : Ghost} {vs us : List Value} {ps qs : List PV} (h : CRel G vs ps) (k : CRel G us qs) : CRel G (vs ++ us) (ps ++ qs) := by
  refine ⟨by simp [h.1, k.1], fun i v p hv hp => ?_⟩
  by_cases hi : i < vs.length
  · rw [List.getElem?_append_left hi] at hv
    rw [List.getElem?_append_left (by rw [← h.1]; exact hi)] at hp
    exact h.2 i v p hv hp
  · rw [List.getElem?_append_right (by omega)] at hv
    rw [List.getElem?_append_right (by rw [← h.1]; omega), ← h.1] at hp
    exact k.2 _ v p hv hp
theorem CRel.cons {G : Ghost} {v : Value} {p : PV} {vs : List Value} {ps : List PV} (h : VRel G v p) (k : CRel G vs ps) : CRel G (v :: vs) (p :: ps) := by
  refine ⟨by simp [k.1], fun i u q hu hq => ?_⟩
  cases i with
  | zero => simp at hu hq; subst hu; subst hq; exact h
  | succ i => simp at hu hq; exact k.2 i u q hu hq
theorem CRel.uncons {G : Ghost} {v : Value} {p : PV} {vs : List Value} {ps : List PV} (h : CRel G (v :: vs) (p :: ps)) : VRel G v p ∧ CRel G vs ps :=
  ⟨h.2 0 v p rfl rfl, by have := h.1; simpa using this, fun i u q hu hq => h.2 (i + 1) u q (by simpa using hu) (by simpa using hq)⟩
theorem CRel.take {G : Ghost} {vs : List Value} {ps : List PV} (h : CRel G vs ps) (n : Nat) : CRel G (vs.take n) (ps.take n) := by
  refine ⟨by simp [h.1], fun i v p hv hp => ?_⟩
  rw [List.getElem?_take] at hv hp
  split at hv
  · rename_i hi
    rw [if_pos hi] at hp; exact h.2 i v p hv hp
  · simp at hv
theorem CRel.drop {G : Ghost} {vs : List Value} {ps : List PV} (h : CRel G vs ps) (n : Nat) : CRel G (vs.drop n) (ps.drop n) := by
  refine ⟨by simp [h.1], fun i v p hv hp => ?_⟩
  rw [List.getElem?_drop] at hv hp
  exact h.2 _ v p hv hp
theorem VRel.agg_c {G : Ghost} {cs : Array Value} {ps : List PV} (h : CRel G cs.toList ps) : VRel G (.agg cs) (.agg ps) :=
  .agg cs ps (by simpa using h.1) fun i v p hv hp => h.2 i v p (by simpa using hv) hp
theorem VRel.agg_inv {G : Ghost} {v : Value} {ps : List PV} (h : VRel G v (.agg ps)) : ∃ cs, v = .agg cs ∧ CRel G cs.toList ps := by
  cases h with
  | agg cs _ hl h => exact ⟨cs, rfl, by simpa using hl, fun i v p hv hp => h i v p (by simpa using hv) hp⟩
theorem VRel.tup_c {G : Ghost} {cs : Array Value} {ps : List PV} (h : CRel G cs.toList ps) : VRel G (.tuple cs) (.tup ps) :=
  .tup cs ps (by simpa using h.1) fun i v p hv hp => h.2 i v p (by simpa using hv) hp
theorem VRel.tup_inv {G : Ghost} {v : Value} {ps : List PV} (h : VRel G v (.tup ps)) : ∃ cs, v = .tuple cs ∧ CRel G cs.toList ps := by
  cases h with
  | tup cs _ hl h => exact ⟨cs, rfl, by simpa using hl, fun i v p hv hp => h i v p (by simpa using hv) hp⟩
theorem VRel.one {G : Ghost} {v : Value} {p : PV} (h : VRel G v p) (h1 : p.one = true) : v.oneCell' = true := by
  cases h <;> simp [PV.one] at h1 <;> rfl
/-- the cells of a value -/
theorem VRel.cells {G : Ghost} {v : Value} {p : PV} (h : VRel G v p) (h1 : p.cells.all PV.one = true) : CRel G v.cells.toList p.cells ∧ ∀ u ∈ v.cells.toList, u.oneCell' = true := by
  cases h with
  | agg cs ps hl h =>
    have hc : CRel G cs.toList ps := ⟨by simpa using hl, fun i v p hv hp => h i v p (by simpa using hv) hp⟩
    refine ⟨hc, fun u hu => ?_⟩
    obtain ⟨i, hi, rfl⟩ := List.getElem_of_mem hu
    have hi2 : i < cs.toList.length := hi
    have hi' : i < ps.length := by rw [← hc.1]; exact hi2
    have := hc.2 i cs.toList[i] ps[i] (List.getElem?_eq_getElem hi2) (List.getElem?_eq_getElem hi')
    exact this.one (by simpa [PV.cells] using (List.all_eq_true.1 h1) ps[i] (List.getElem_mem _))
  | und v => simp [PV.cells, PV.one] at h1
  | tup => simp [PV.cells, PV.one] at h1
  | fptr => simp [PV.cells, PV.one] at h1
  | i k n => exact ⟨CRel.cons (.i k n) .nil, by simp [Value.cells, Value.oneCell']⟩
  | b x => exact ⟨CRel.cons (.b x) .nil, by simp [Value.cells, Value.oneCell']⟩
  | s l => exact ⟨CRel.cons (.s l) .nil, by simp [Value.cells, Value.oneCell']⟩
  | nsl => exact ⟨CRel.cons .nsl .nil, by simp [Value.cells, Value.oneCell']⟩
  | fnull a cap hm => exact ⟨CRel.cons (.fnull a cap hm) .nil, by simp [Value.cells, Value.oneCell']⟩
  | fsl b o n cap ps f hc hm hF h => exact ⟨CRel.cons (.fsl b o n cap ps f hc hm hF h) .nil, by simp [Value.cells, Value.oneCell']⟩
  | rsl k sz off n blk size cap hB hc hm hz hs => exact ⟨CRel.cons (.rsl k sz off n blk size cap hB hc hm hz hs) .nil, by simp [Value.cells, Value.oneCell']⟩
  | nptr => exact ⟨CRel.cons .nptr .nil, by simp [Value.cells, Value.oneCell']⟩
  | ptr k off blk size hB => exact ⟨CRel.cons (.ptr k off blk size hB) .nil, by simp [Value.cells, Value.oneCell']⟩
  | nfn => exact ⟨CRel.cons .nfn .nil, by simp [Value.cells, Value.oneCell']⟩
  | fn f cs ps hl h => exact ⟨CRel.cons (.fn f cs ps hl h) .nil, by simp [Value.cells, Value.oneCell']⟩
  | bfn f cs ps hl h => exact ⟨CRel.cons (.bfn f cs ps hl h) .nil, by simp [Value.cells, Value.oneCell']⟩
  | nmp => exact ⟨CRel.cons .nmp .nil, by simp [Value.cells, Value.oneCell']⟩
  | mp k blk size hB => exact ⟨CRel.cons (.mp k blk size hB) .nil, by simp [Value.cells, Value.oneCell']⟩

/-- a block's mark that bars no cell -/
def Free (m : Nat × Nat) (size : Nat) : Prop := m = (0, 0) ∨ size ≤ m.1
/-- a map's entries one by one -/
def ERel (G : Ghost) (l : List MapEntry) (es : List (PV × PV)) : Prop := l.length = es.length ∧ ∀ (i : Nat) (e : MapEntry) (p : PV × PV), l[i]? = some e → es[i]? = some p → VRel G e.key p.1 ∧ VRel G e.val p.2
theorem ERel.mono {G G' : Ghost} (hl : G.le G') {l : List MapEntry} {es : List (PV × PV)} (h : ERel G l es) : ERel G' l es := ⟨h.1, fun i e p a b => ⟨(h.2 i e p a b).1.mono hl, (h.2 i e p a b).2.mono hl⟩⟩
/-- what an object's block holds -/
def HObj (G : Ghost) (o : PObj) (obj : Obj) : Prop := match o with
  | .cells _ _ => True
  | .map es => ∃ (ents : Array MapEntry) (clock : Nat), obj = .map ents clock ∧ ERel G ents.toList es
  | .iter l p => obj = .stringIter ⟨l.toArray⟩ p
theorem HObj.mono {G G' : Ghost} (hl : G.le G') {o : PObj} {obj : Obj} (h : HObj G o obj) : HObj G' o obj := by
  cases o with
  | cells _ _ => trivial
  | map es => obtain ⟨a, b, c, d⟩ := h; exact ⟨a, b, c, d.mono hl⟩
  | iter l p => exact h
/-- how the store stands in the memory -/
structure Sim (G : Ghost) (st : St) (w : World) (base : Nat) : Prop where
  bas : base ≤ w.heap.size
  frz : ∀ b o u, G.F b o = some u → w.cell? ⟨b, o, none⟩ = some u
  cells : ∀ k cs z blk size, st.get k = some (.cells cs z) → G.B k = some (blk, size) → ∃ (cur : Array Value) (ty : TypeId) (m : Nat × Nat), w.heap[blk]? = some (.cells cur ty m) ∧ Free m cur.size ∧ cur.size = size ∧ cs.length ≤ size ∧ CRel G (cur.toList.take cs.length) cs
  frzd : ∀ k cs blk size, st.get k = some (.cells cs true) → G.B k = some (blk, size) → ∀ i, i < cs.length → ∃ u, G.F blk i = some u
  free : ∀ k cs blk size, st.get k = some (.cells cs false) → G.B k = some (blk, size) → ∀ o, G.F blk o = none
  inj : ∀ k k' x x', (st.get k).isSome → (st.get k').isSome → G.B k = some x → G.B k' = some x' → x.1 = x'.1 → k = k'
  low : ∀ k x, (st.get k).isSome → G.B k = some x → base ≤ x.1 ∧ x.1 < w.heap.size
  mps : ∀ k o blk size, st.get k = some o → G.B k = some (blk, size) → ∃ obj, w.heap[blk]? = some obj ∧ HObj G o obj
theorem Sim.mapAt {G : Ghost} {st : St} {w : World} {base : Nat} (h : Sim G st w base) (k : Nat) (es : List (PV × PV)) (blk size : Nat) (hg : st.get k = some (.map es)) (hB : G.B k = some (blk, size)) : ∃ (ents : Array MapEntry) (clock : Nat), w.heap[blk]? = some (.map ents clock) ∧ ERel G ents.toList es := by
  obtain ⟨obj, h1, a, b, rfl, d⟩ := h.mps k _ blk size hg hB
  exact ⟨a, b, h1, d⟩
/-- one step: what there was stays, but for objects -/
structure Step (base : Nat) (N : Nat → Prop) (G : Ghost) (st : St) (w : World) (G' : Ghost) (st' : St) (w' : World) : Prop where
  le : G.le G'
  new : ∀ k x, G'.B k = some x → G.B k = some x ∨ N k
  sim : Sim G' st' w' base
  os : w'.os = w.os
  tape : w'.tape = w.tape
  output : w'.output = w.output
  size : w.heap.size ≤ w'.heap.size
  kept : ∀ j, j < w.heap.size → (∀ k x, (st.get k).isSome → G.B k = some x → x.1 ≠ j) → w'.heap[j]? = w.heap[j]?
  own : ∀ k x, (st'.get k).isSome → G'.B k = some x → w.heap.size ≤ x.1 ∨ ∃ k0 x0, (st.get k0).isSome ∧ G.B k0 = some x0 ∧ x0.1 = x.1
  fnew : ∀ b o u, G'.F b o = some u → G.F b o = some u ∨ w.heap.size ≤ b ∨ ∃ k0 x0, (st.get k0).isSome ∧ G.B k0 = some x0 ∧ x0.1 = b
  ful : ∀ k, (st'.get k).isSome → (st.get k).isSome ∨ (G'.B k).isSome
/-- cells of the program's own variables, that stand as they are -/
abbrev Gmap := Nat → Nat → Option Value
/-- each object has a block; the program's own variables are among what is frozen -/
def Full (Gl : Gmap) (G : Ghost) (st : St) : Prop := (∀ b o u, Gl b o = some u → G.F b o = some u) ∧ ∀ k, (st.get k).isSome → (G.B k).isSome
theorem Step.full {base : Nat} {N : Nat → Prop} {G G' : Ghost} {st st' : St} {w w' : World} {Gl : Gmap} (h : Step base N G st w G' st' w') (hf : Full Gl G st) : Full Gl G' st' := by
  refine ⟨fun b o u hu => h.le.F b o u (hf.1 b o u hu), ?_⟩
  intro k hk
  rcases h.ful k hk with h1 | h1
  · obtain ⟨x, hx⟩ := Option.isSome_iff_exists.1 (hf.2 k h1)
    rw [h.le.B k x hx]; rfl
  · exact h1
theorem Step.refl {base : Nat} {N : Nat → Prop} {G : Ghost} {st : St} {w : World} (h : Sim G st w base) : Step base N G st w G st w :=
  ⟨.refl G, fun _ _ h => .inl h, h, rfl, rfl, rfl, Nat.le_refl _, fun _ _ _ => rfl, fun k x a b => .inr ⟨k, x, a, b, rfl⟩, fun _ _ _ h => .inl h, fun _ h => .inl h⟩
theorem Step.trans {base : Nat} {N N' M : Nat → Prop} {G G' G'' : Ghost} {st st' st'' : St} {w w' w'' : World} (h : Step base N G st w G' st' w') (k : Step base N' G' st' w' G'' st'' w'')
    (hN : ∀ i, N i → M i) (hN' : ∀ i, N' i → M i) : Step base M G st w G'' st'' w'' where
  le := h.le.trans k.le
  new := fun i x hx => by
    rcases k.new i x hx with h1 | h1
    · rcases h.new i x h1 with h2 | h2
      · exact .inl h2
      · exact .inr (hN i h2)
    · exact .inr (hN' i h1)
  sim := k.sim
  os := k.os.trans h.os
  tape := k.tape.trans h.tape
  output := k.output.trans h.output
  size := Nat.le_trans h.size k.size
  kept := fun j hj hk => by
    rw [k.kept j (Nat.lt_of_lt_of_le hj h.size) ?_]
    · exact h.kept j hj hk
    · intro i x a b e
      rcases h.own i x a b with h1 | ⟨k0, x0, c, d, e'⟩
      · omega
      · exact hk k0 x0 c d (by omega)
  own := fun i x a b => by
    rcases k.own i x a b with h1 | ⟨k0, x0, c, d, e'⟩
    · exact .inl (Nat.le_trans h.size h1)
    · rcases h.own k0 x0 c d with h1 | ⟨k1, x1, c1, d1, e1⟩
      · exact .inl (by omega)
      · exact .inr ⟨k1, x1, c1, d1, by omega⟩
  fnew := fun b o u hu => by
    rcases k.fnew b o u hu with h1 | h1 | ⟨k0, x0, c, d, e'⟩
    · exact h.fnew b o u h1
    · exact .inr (.inl (Nat.le_trans h.size h1))
    · rcases h.own k0 x0 c d with h1 | ⟨k1, x1, c1, d1, e1⟩
      · exact .inr (.inl (by omega))
      · exact .inr (.inr ⟨k1, x1, c1, d1, by omega⟩)
  ful := fun i hi => by
    rcases k.ful i hi with h1 | h1
    · rcases h.ful i h1 with h2 | h2
      · exact .inl h2
      · obtain ⟨x, hx⟩ := Option.isSome_iff_exists.1 h2
        right; rw [k.le.B i x hx]; rfl
    · exact .inr h1
/-- draws change nothing -/
theorem Sim.drewN {G : Ghost} {st : St} {w : World} {base : Nat} (h : Sim G st w base) (n : Nat) : Sim G st (w.drewN n) base :=
  ⟨h.bas, h.frz, h.cells, h.frzd, h.free, h.inj, h.low, h.mps⟩
theorem Step.drewN {base : Nat} {N : Nat → Prop} {G : Ghost} {st : St} {w : World} (h : Sim G st w base) (n : Nat) : Step base N G st w G st (w.drewN n) :=
  ⟨.refl G, fun _ _ h => .inl h, h.drewN n, rfl, rfl, rfl, Nat.le_refl _, fun _ _ _ => rfl, fun k x a b => .inr ⟨k, x, a, b, rfl⟩, fun _ _ _ h => .inl h, fun _ h => .inl h⟩
theorem Step.drew {base : Nat} {N : Nat → Prop} {G : Ghost} {st : St} {w : World} (h : Sim G st w base) : Step base N G st w G st w.drew := Step.drewN h 1

theorem Sim.get_cell {G : Ghost} {st : St} {w : World} {base : Nat} (h : Sim G st w base) {k : Nat} {cs : List PV} {z : Bool} {blk size : Nat} (hg : st.get k = some (.cells cs z)) (hB : G.B k = some (blk, size)) :
    ∃ cur : List Value, cur.length = size ∧ cs.length ≤ size ∧ CRel G (cur.take cs.length) cs ∧ (∀ i, i < size → w.cell? ⟨blk, i, none⟩ = some (cur.getD i undef) ∧ w.frozen? ⟨blk, i, none⟩ = false) := by
  obtain ⟨cur, ty, m, hh, hf, hs, hl, hc⟩ := h.cells k cs z blk size hg hB
  refine ⟨cur.toList, by simpa using hs, hl, hc, fun i hi => ⟨?_, ?_⟩⟩
  · simp [World.cell?, hh, hs, hi]
  · simp only [World.frozen?, hh]
    rcases hf with rfl | hf
    · simp
    · simp; omega
/-- what a load sees -/
theorem Sim.range {G : Ghost} {st : St} {w : World} {base : Nat} (h : Sim G st w base) {n : Nat} {v : Value} {p : PV} {cs : List PV} (hv : VRel G v p) (hl : loadP st n p = some cs) :
    ∃ b o vs, v = .pointer (some ⟨b, o, none⟩) ∧ w.rangeAt b o vs ∧ CRel G vs cs ∧ cs.length = n := by
  cases hv with
  | ptr k off blk size hB =>
    simp only [loadP] at hl
    split at hl
    · rename_i cs0 z hg
      unfold cut? at hl
      split at hl
      · rename_i hle
        simp only [Option.some.injEq] at hl
        subst hl
        obtain ⟨cur, h1, h2, h3, h4⟩ := h.get_cell hg hB
        refine ⟨blk, off, ((cur.take cs0.length).drop off).take n, rfl, ?_, (h3.drop off).take n, by simp; omega⟩
        intro j v hv
        rw [List.getElem?_take] at hv
        split at hv
        · rw [List.getElem?_drop, List.getElem?_take] at hv
          split at hv
          · rw [(h4 (off + j) (by omega)).1]
            simp [List.getD, hv]
          · simp at hv
        · simp at hv
      · simp at hl
    · simp at hl
  | fptr b o ps f hF hh =>
    simp only [loadP] at hl
    unfold cut? at hl
    split at hl
    · rename_i hle
      simp only [Option.some.injEq] at hl
      subst hl
      refine ⟨b, o, (List.range n).map f, rfl, ?_, ⟨by simp; omega, ?_⟩, by simp; omega⟩
      · intro j v hv
        simp only [List.getElem?_map, Option.map_eq_some_iff] at hv
        obtain ⟨i, hi, rfl⟩ := hv
        have hj : j < n := by have := (List.getElem?_eq_some_iff.1 hi).1; simpa using this
        have e : i = j := by have := (List.getElem?_eq_some_iff.1 hi).2; simpa using this.symm
        subst e
        exact h.frz _ _ _ (hF i (by omega))
      · intro j v p hv hp
        simp only [List.getElem?_map, Option.map_eq_some_iff] at hv
        obtain ⟨i, hi, rfl⟩ := hv
        have hj : j < n := by have := (List.getElem?_eq_some_iff.1 hi).1; simpa using this
        have e : i = j := by have := (List.getElem?_eq_some_iff.1 hi).2; simpa using this.symm
        subst e
        rw [List.getElem?_take, if_pos hj] at hp
        exact (hh i p (by simpa using hp)).toV
    · simp at hl
  | _ => simp [loadP] at hl
end Go.Pe
