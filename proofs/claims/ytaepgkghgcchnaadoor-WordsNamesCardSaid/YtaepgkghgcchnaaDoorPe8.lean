/-
 Open-order regions in the logic: nothing hangs on when an operation runs that reads only what no other one writes. No condition; nothing of the program.
-/
import Derived.Test.YtaepgkghgcchnaaDoorPe7
set_option linter.unusedVariables false
set_option linter.unusedSimpArgs false
namespace Go.Pe
open Go

def NjF : MOp → Bool
 | .mv _ | .pick .. | .bin .. | .eqb .. | .eqn .. | .eqs .. | .un .. | .field .. | .index .. | .extract .. | .len _ | .slen _ | .alen _ | .min .. | .max .. | .substr .. | .sindex .. | .fieldAddr .. | .build .. | .nilck _ | .indexAddr .. | .slice none .. => true
 | .conv (.int _) _ | .conv .same _ => true
 | _ => false
def NkB : MOp → Bool
 | .load .. => true
 | _ => false
def Nig (T : List Nat) (k0 : Nat) (ρ : Arg → PV) : MOp → Prop
 | .load _ _ a => ∀ k o, ρ a = .ptr k o → k < k0 ∧ k ∉ T
 | .callq _ args => ∃ l, ∀ st, Nbq st (args.map ρ) = some l
 | m => NjF m = true
def Nl0 (nd : Bool) (T : List Nat) (k0 key : Nat) (ρ : Arg → PV) (st : St) (m : MOp) : Prop :=
 Nar m = true → ((nd || NjF m || NkB m) = true → key ∉ T) ∧ (nd = true → Nig T k0 ρ m)
def NjH (nd : Bool) (key : Nat) (v : PV) (st' : St) : Prop := nd = true → PV.same Ncx v v = true ∧ PObj.same (st'.get key) (st'.get key) = true
def NjE (nd : Bool) (T : List Nat) (key : Nat) (m : MOp) (st : St) (v : PV) (st' : St) : Prop := if Nar m then NjH nd key v st' else ∀ k, k ≠ key → k ∉ T → st'.get k = st.get k
def WOC (cfg : Cfg) (callE : CallE) (T : List Nat) (k0 : Nat) : List Bool → List MOper → Nat → Loc → (Loc → Prop) → Prop
 | _, [], _, c, Q => Q c
 | [], _ :: _, _, _, _ => False
 | nd :: ns, o :: r, key, c, Q => match Naj c o.guard with
   | some true => Nl0 nd T k0 key c.rd c.st o.op ∧ WV (Nac cfg callE c.rd c.st key o.op) fun v st' => NjE nd T key o.op c.st v st' ∧ WOC cfg callE T k0 ns r (key + 8) (({ c with st := st' } : Loc).wr o.dst v) Q
   | some false => WOC cfg callE T k0 ns r (key + 8) (c.wr o.dst (.tup [])) Q
   | none => False
@[congr] theorem NiE {cfg : Cfg} {callE : CallE} {T : List Nat} {k0 : Nat} {ns : List Bool} {ml : List MOper} {key key' : Nat} {c c' : Loc} (h : key = key') (h2 : c = c') (Q : Loc → Prop) : WOC cfg callE T k0 ns ml key c Q = WOC cfg callE T k0 ns ml key' c' Q := by rw [h, h2]
def Top (st : St) : Prop := ∀ k, st.cnt ≤ k → st.get k = none
theorem Top.le {sto : Trie PObj} {c c' : Nat} (h : Top ⟨sto, c⟩) (hc : c ≤ c') : Top ⟨sto, c'⟩ := fun k hk => h k (by simp only at hk ⊢; omega)
end Go.Pe
