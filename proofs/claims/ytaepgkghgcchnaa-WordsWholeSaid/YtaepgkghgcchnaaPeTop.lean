/-
  A function by value, from outside. No condition; nothing of the program.
-/
import Derived.Test.YtaepgkghgcchnaaPeCd
set_option linter.unusedVariables false
set_option linter.unusedSimpArgs false
namespace Go.Pe
open Go Go.Am Go.RowKit

theorem FC.nil {F : Nat → Nat → Option Value} : FC F [] [] := ⟨rfl, fun i v p h => by simp at h⟩
theorem FC.cons {F : Nat → Nat → Option Value} {v : Value} {p : PV} {vs : List Value} {ps : List PV} (h : FRel F v p) (k : FC F vs ps) : FC F (v :: vs) (p :: ps) := by
  refine ⟨by simp [k.1], fun i u q hu hq => ?_⟩
  cases i with
  | zero => simp at hu hq; subst hu; subst hq; exact h
  | succ i => simp at hu hq; exact k.2 i u q hu hq
/-- nothing is frozen -/
def noF : Nat → Nat → Option Value := fun _ _ => none
theorem law_true {P : Program} {Gl : Gmap} {f : FuncId} {g : List PV → Option PV} (hp : PureOK P Gl f g) {F : Nat → Nat → Option Value} {w : World} {vs : List Value} {args : List PV} (hF : ∀ b o u, F b o = some u → w.cell? ⟨b, o, none⟩ = some u) (hG : ∀ b o u, Gl b o = some u → F b o = some u) (ha : FC F vs args) (h : g args = some (.b true)) :
    Calls P f vs.toArray w fun e w' => e = .returned (.bool true) ∧ Below w.heap.size w w' := by
  refine (hp args _ h F w 0 vs none hF hG (Nat.zero_le _) (ARel.plain ha)).mono ?_
  rintro e w' ⟨v, F', rfl, a1, a2, a3, a4, a5, a6, a7, a8, a9⟩
  have hv : FRel F' v (.b true) := a9
  cases hv
  exact ⟨rfl, a3, a4, a5, a6, fun k hk => a7 k hk (by simp)⟩
theorem law_true0 {P : Program} {f : FuncId} {g : List PV → Option PV} (hp : PureOK P noF f g) {w : World} {vs : List Value} {args : List PV} (ha : FC noF vs args) (h : g args = some (.b true)) :
    Calls P f vs.toArray w fun e w' => e = .returned (.bool true) ∧ Below w.heap.size w w' := law_true hp (fun b o u h => by simp [noF] at h) (fun b o u h => h) ha h
/-- a cell that holds something -/
def oneF (b0 o0 : Nat) (u0 : Value) : Gmap := fun b o => if b = b0 ∧ o = o0 then some u0 else none
theorem oneF_ok {w : World} {b0 o0 : Nat} {u0 : Value} (h : w.cell? ⟨b0, o0, none⟩ = some u0) : ∀ b o u, oneF b0 o0 u0 b o = some u → w.cell? ⟨b, o, none⟩ = some u := by
  intro b o u hu
  unfold oneF at hu
  split at hu
  · rename_i hbo
    obtain ⟨rfl, rfl⟩ := hbo
    rw [h]; exact hu
  · simp at hu
/-- the whole world, frozen -/
def allF (w : World) : Gmap := fun b o => w.cell? ⟨b, o, none⟩
/-- texts and numbers -/
def flatA : List PV → Bool
  | [] => true
  | .s _ :: l => flatA l
  | .i _ _ :: l => flatA l
  | _ => false
def PV.flatR : PV → Bool
  | .b _ | .i _ _ | .s _ => true
  | _ => false
/-- texts and numbers in, a truth or a number or a text out, nothing is touched -/
theorem pure_plain {P : Program} {Gl : Gmap} {f : FuncId} {g : List PV → Option PV} (h : ∀ args r, g args = some r → flatA args = true ∧ r.flatR = true ∧ ∀ vs F w, (∀ b o u, Gl b o = some u → w.cell? ⟨b, o, none⟩ = some u) → FC F vs args → Calls P f vs.toArray w fun e w' => ∃ v, e = .returned v ∧ FRel F v r ∧ w' = w) : PureOK P Gl f g := by
  intro args r hg F w base vs gv hF hG hbase ha
  obtain ⟨h1, h2, h3⟩ := h args r hg
  have hfc : FC F vs args := by
    cases args with
    | nil => exact ha.1
    | cons p l => cases p <;> first | exact ha.1 | (simp [flatA] at h1; done)
  refine (h3 vs F w (fun b o u hu => hF b o u (hG b o u hu)) hfc).mono ?_
  rintro e w' ⟨v, rfl, hv, rfl⟩
  refine ⟨v, F, rfl, fun b o u hu => hu, hF, rfl, rfl, rfl, Nat.le_refl _, fun j _ _ => rfl, fun b o u hu => .inl hu, ?_⟩
  cases r <;> first | exact hv | (simp [PV.flatR] at h2; done)
/-- is one within the other? -/
def hasS (sub : List UInt8) : List UInt8 → Bool
  | [] => sub.isEmpty
  | b :: l => sub.isPrefixOf (b :: l) || hasS sub l
def gContains : List PV → Option PV
  | [.s a, .s b] => if a.length < 4294967281 then some (.b (hasS b a)) else none
  | _ => none
def cntS (c : UInt8) : List UInt8 → Nat → Nat
  | [], n => n
  | b :: l, n => cntS c l (if b = c then n + 1 else n)
def gCount : List PV → Option PV
  | [.s a, .s [c]] => some (.i .i64 (cntS c a 0))
  | _ => none
def posS (c : UInt8) : List UInt8 → Nat → Int
  | [], n => -1
  | b :: l, n => if b = c then n else posS c l (n + 1)
def gIndexByte : List PV → Option PV
  | [.s a, .i .u8 c] => some (.i .i64 (posS c.toNat.toUInt8 a 0))
  | _ => none
theorem cfg_okx (P : Program) (Gl : Gmap) (modes : FuncId → Option Bool) (ext : FuncId → Option (List PV → Option PV)) (h : ∀ f g, ext f = some g → PureOK P Gl f g) : CfgOK P Gl { fn := cFunc P modes, ext } := ⟨h, modes, fun f m h => h⟩
/-- a pointer, a function, a map -/
def refT (P : Program) (t : TypeId) : Bool := match P.underlying t with
  | some (.pointer _) => true
  | some (.func ..) => true
  | some (.map ..) => true
  | _ => false
/-- among objects, where one is handed in or out -/
def autoModes (P : Program) : FuncId → Option Bool := fun f => match P.funcs[f]? with
  | some fn => if (fn.params.toList ++ fn.resultTypes.toList).any (refT P) then none else some false
  | none => some false
theorem cfg_ok (P : Program) (Gl : Gmap) (modes : FuncId → Option Bool) : CfgOK P Gl { fn := cFunc P modes, ext := fun _ => none } := ⟨fun f g h => by simp at h, modes, fun f m h => h⟩
end Go.Pe
