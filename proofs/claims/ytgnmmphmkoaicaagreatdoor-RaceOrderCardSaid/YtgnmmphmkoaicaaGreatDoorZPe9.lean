/-
 Calls by value that hand out a list beside plain data, in runs over plain data. No condition; nothing of the program.
-/
import Derived.Test.YtgnmmphmkoaicaaGreatDoorZPe7
set_option linter.unusedVariables false
set_option linter.unusedSimpArgs false
namespace Go.Pe
open Go

def NmP : MOp → Bool
 | .mv _ | .pick .. | .bin .. | .eqb .. | .eqn .. | .eqs .. | .un .. | .field .. | .index .. | .extract .. | .len _ | .slen _ | .alen _ | .min .. | .max .. | .substr .. | .sindex .. | .fieldAddr .. | .build .. | .nilck _ | .indexAddr .. => true
 | .conv (.int _) _ | .conv .same _ => true
 | _ => false
def NnZ : MOp → Bool
 | .load .. => true
 | _ => false
def Nlt (T : List Nat) (k0 : Nat) (ρ : Arg → PV) : MOp → Prop
 | .load _ _ a => ∀ k o, ρ a = .ptr k o → k < k0 ∧ k ∉ T
 | .callq _ args => ∃ l, ∀ st, NaW st (args.map ρ) = some l
 | m => NmP m = true
def Npo (nd : Bool) (T : List Nat) (k0 key : Nat) (ρ : Arg → PV) (st : St) (m : MOp) : Prop :=
 NaO m = true → ((nd || NmP m || NnZ m) = true → key ∉ T) ∧ (nd = true → Nlt T k0 ρ m)
def NmT (nd : Bool) (key : Nat) (v : PV) (st' : St) : Prop := nd = true → PV.same Ndf v v = true ∧ PObj.same (st'.get key) (st'.get key) = true
def NmO (nd : Bool) (T : List Nat) (key : Nat) (m : MOp) (st : St) (v : PV) (st' : St) : Prop := if NaO m then NmT nd key v st' else ∀ k, k ≠ key → k ∉ T → st'.get k = st.get k
def WOC (cfg : Cfg) (callE : CallE) (T : List Nat) (k0 : Nat) : List Bool → List MOper → Nat → Loc → (Loc → Prop) → Prop
 | _, [], _, c, Q => Q c
 | [], _ :: _, _, _, _ => False
 | nd :: ns, o :: r, key, c, Q => match NaG c o.guard with
   | some true => Npo nd T k0 key c.rd c.st o.op ∧ WV (Nap cfg callE c.rd c.st key o.op) fun v st' => NmO nd T key o.op c.st v st' ∧ WOC cfg callE T k0 ns r (key + 8) (({ c with st := st' } : Loc).wr o.dst v) Q
   | some false => WOC cfg callE T k0 ns r (key + 8) (c.wr o.dst (.tup [])) Q
   | none => False
@[congr] theorem NlZ {cfg : Cfg} {callE : CallE} {T : List Nat} {k0 : Nat} {ns : List Bool} {ml : List MOper} {key key' : Nat} {c c' : Loc} (h : key = key') (h2 : c = c') (Q : Loc → Prop) : WOC cfg callE T k0 ns ml key c Q = WOC cfg callE T k0 ns ml key' c' Q := by rw [h, h2]
def Top (st : St) : Prop := ∀ k, st.cnt ≤ k → st.get k = none
theorem Top.le {sto : Trie PObj} {c c' : Nat} (h : Top ⟨sto, c⟩) (hc : c ≤ c') : Top ⟨sto, c'⟩ := fun k hk => h k (by simp only at hk ⊢; omega)
end Go.Pe
namespace Go.Pe
open Go

def OutV (r : PV) (sz n : Nat) (cs : List PV) : Prop := (r = .nsl ∧ n = 0 ∧ cs = []) ∨ r = .osl sz n cs
theorem OutV.nil (sz : Nat) : OutV .nsl sz 0 [] := .inl ⟨rfl, rfl, rfl⟩
theorem OutV.osl (sz n : Nat) (cs : List PV) : OutV (.osl sz n cs) sz n cs := .inr rfl
def Npq (v : PV) (n : Nat) (cs : List PV) : PV := match v with
 | .nsl => .nsl
 | _ => .fsl n cs
theorem Own.deepO {st : St} {sz n : Nat} {v : PV} {cs : List PV} (h : Own st sz v n cs) (hf : cs.all PV.flat = true) : Go.Pe.deep st 12 v = some (Npq v n cs) := by
 have h0 := h
 rcases h with ⟨rfl, rfl, h2⟩ | ⟨k, rfl, _⟩
 ·rfl
 ·rcases h0.deep hf with ⟨h3, _⟩ | h3
  ·simp at h3
  ·rw [h3]; rfl
theorem Nab (n : Nat) (cs : List PV) : Nf9 (.fsl n cs) = some (.i .i64 n) := rfl
theorem Nad (a b c n : Nat) : Nf9 (.rsl a b c n) = some (.i .i64 n) := rfl
theorem Nac : Nf9 .nsl = some (.i .i64 ((0 : Nat) : Int)) := rfl
theorem Own.over {s0 st st' : St} {key sz n : Nat} {v : PV} {cs : List PV} (h : Own s0 sz v n cs) (f : ∀ j, j ≠ key → st'.get j = st.get j) (hs : st.sto = s0.sto) (hk : s0.cnt ≤ key) (hc : s0.cnt ≤ st'.cnt) : Own st' sz v n cs :=
 h.move hc fun j hj hj2 => by
  rw [f j Zaa]
  unfold St.get
  rw [hs]
theorem Na8 {st : St} {w v : PV} (h : Go.Pe.deep st 12 w = some v) : NaW st [w] = some [v] := by
 have h' : Go.Pe.deep st NbA w = some v := h
 unfold NaW
 simp only [mapO, h']
theorem Na3 {st : St} {w1 v1 w2 v2 : PV} (h1 : Go.Pe.deep st 12 w1 = some v1) (h2 : Go.Pe.deep st 12 w2 = some v2) : NaW st [w1, w2] = some [v1, v2] := by
 have h1' : Go.Pe.deep st NbA w1 = some v1 := h1
 have h2' : Go.Pe.deep st NbA w2 = some v2 := h2
 unfold NaW
 simp only [mapO, h1', h2']
end Go.Pe
