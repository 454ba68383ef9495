/-
  Rules for what is loaded and stored, for the logic of plain data; functions by value out of runs. No condition; nothing of the program.
-/
import Derived.Test.YtaepgkghgcchnaaPeLo
import Derived.Test.YtaepgkghgcchnaaPeTop
set_option linter.unusedVariables false
set_option linter.unusedSimpArgs false
namespace Go.Pe
open Go

noncomputable def loadC (o : Option PObj) (n off : Nat) : Option (List PV) := match o with
  | some (.cells cs _) => cut? cs off n
  | _ => none
theorem load_ptr (st : St) (n k off : Nat) : loadP st n (.ptr k off) = loadC (st.get k) n off := Eq.trans rfl rfl
theorem loadC_cells (cs : List PV) (fz : Bool) (n off : Nat) : loadC (some (.cells cs fz)) n off = cut? cs off n := Eq.trans rfl rfl
theorem load_fptr (st : St) (n : Nat) (cs : List PV) : loadP st n (.fptr cs) = cut? cs 0 n := Eq.trans rfl rfl
noncomputable def storeC (st : St) (k : Nat) (o : Option PObj) (n off : Nat) (v : PV) : Option St := match o with
  | some (.cells cs false) => if v.cells.length = n ∧ off + n ≤ cs.length ∧ v.cells.all PV.one then some (st.put k (some (.cells (cs.take off ++ v.cells ++ cs.drop (off + n)) false))) else none
  | _ => none
theorem store_ptr (st : St) (n k off : Nat) (v : PV) : storeP st n (.ptr k off) v = storeC st k (st.get k) n off v := Eq.trans rfl rfl
theorem storeC_cells (st : St) (k : Nat) (cs : List PV) (n off : Nat) (v : PV) : storeC st k (some (.cells cs false)) n off v = if v.cells.length = n ∧ off + n ≤ cs.length ∧ v.cells.all PV.one then some (st.put k (some (.cells (cs.take off ++ v.cells ++ cs.drop (off + n)) false))) else none := Eq.trans rfl rfl
theorem get_putM (st : St) (k : Nat) (o : Option PObj) : (st.put k o).get k = o := St.get_putk st k o
theorem get_putN (st : St) (k k' : Nat) (o : Option PObj) (h : k ≠ k') : (st.put k o).get k' = st.get k' := St.get_put_ne h
theorem get_cntM (s : Trie PObj) (c k : Nat) (st : St) (h : s = st.sto) : St.get ⟨s, c⟩ k = st.get k := by subst h; rfl
theorem get_cntS (st : St) (c k : Nat) : St.get ⟨st.sto, c⟩ k = st.get k := Eq.trans rfl rfl
theorem get_leaf (c k : Nat) : St.get ⟨.leaf, c⟩ k = none := Eq.trans rfl rfl
theorem cnt_putM (st : St) (k : Nat) (o : Option PObj) : (st.put k o).cnt = st.cnt := Eq.trans rfl rfl
theorem cnt_mkM (s : Trie PObj) (c : Nat) : (⟨s, c⟩ : St).cnt = c := Eq.trans rfl rfl
theorem cells_agg (cs : List PV) : (PV.agg cs).cells = cs := Eq.trans rfl rfl
theorem cells_i (k : IntKind) (n : Int) : (PV.i k n).cells = [.i k n] := Eq.trans rfl rfl
theorem cells_b (x : Bool) : (PV.b x).cells = [.b x] := Eq.trans rfl rfl
theorem cells_s (l : List UInt8) : (PV.s l).cells = [.s l] := Eq.trans rfl rfl
theorem cells_nsl : PV.nsl.cells = [.nsl] := Eq.trans rfl rfl
theorem cells_fsl (n : Nat) (l : List PV) : (PV.fsl n l).cells = [.fsl n l] := Eq.trans rfl rfl
theorem cells_rsl (a b c d : Nat) : (PV.rsl a b c d).cells = [.rsl a b c d] := Eq.trans rfl rfl
theorem cells_ptr (a b : Nat) : (PV.ptr a b).cells = [.ptr a b] := Eq.trans rfl rfl
theorem cells_mp (a : Nat) : (PV.mp a).cells = [.mp a] := Eq.trans rfl rfl
theorem one_i (k : IntKind) (n : Int) : (PV.i k n).one = true := Eq.trans rfl rfl
theorem one_b (x : Bool) : (PV.b x).one = true := Eq.trans rfl rfl
theorem one_s (l : List UInt8) : (PV.s l).one = true := Eq.trans rfl rfl
theorem one_nsl : PV.nsl.one = true := Eq.trans rfl rfl
theorem one_fsl (n : Nat) (l : List PV) : (PV.fsl n l).one = true := Eq.trans rfl rfl
theorem one_rsl (a b c d : Nat) : (PV.rsl a b c d).one = true := Eq.trans rfl rfl
theorem one_ptr (a b : Nat) : (PV.ptr a b).one = true := Eq.trans rfl rfl
theorem one_mp (a : Nat) : (PV.mp a).one = true := Eq.trans rfl rfl
theorem one_nptr : PV.nptr.one = true := Eq.trans rfl rfl
theorem one_nmp : PV.nmp.one = true := Eq.trans rfl rfl
theorem cut_ite (cs : List PV) (off n : Nat) : cut? cs off n = if off + n ≤ cs.length then some ((cs.drop off).take n) else none := Eq.trans rfl rfl
theorem fillP_nil (cs : List PV) : fillP cs [] = some cs := by unfold fillP; rfl
theorem fillP_cons (cs : List PV) (off n : Nat) (v : PV) (r : List (Nat × Nat × PV)) : fillP cs ((off, n, v) :: r) = if v.cells.length = n ∧ off + n ≤ cs.length ∧ v.cells.all PV.one then fillP (cs.take off ++ v.cells ++ cs.drop (off + n)) r else none := by rw [fillP]
/-- equal cells -/
theorem eqs_nil (xs ys : List PV) : eqsP [] xs ys = some true := by unfold eqsP; rfl
def eqC (r : Option Bool) (k : Option Bool) : Option Bool := match r with
  | some true => k
  | some false => some false
  | none => none
def eq1O (ck : Nat) (p q : Option PV) : Option Bool := match p, q with
  | some p, some q => eq1 ck p q
  | _, _ => none
theorem eqs_cons (o ck : Nat) (r : List (Nat × Nat)) (xs ys : List PV) : eqsP ((o, ck) :: r) xs ys = eqC (eq1O ck xs[o]? ys[o]?) (eqsP r xs ys) := by
  rw [eqsP]
  unfold eqC eq1O
  cases xs[o]? <;> cases ys[o]? <;> simp
  rename_i p q
  cases eq1 ck p q with
  | none => rfl
  | some b => cases b <;> rfl
theorem eqC_true (k : Option Bool) : eqC (some true) k = k := Eq.trans rfl rfl
theorem eqC_false (k : Option Bool) : eqC (some false) k = some false := Eq.trans rfl rfl
theorem eq1O_some (ck : Nat) (p q : PV) : eq1O ck (some p) (some q) = eq1 ck p q := Eq.trans rfl rfl
theorem eq1_i (k : IntKind) (a c : Int) : eq1 0 (.i k a) (.i k c) = some (a == c) := by simp [eq1]
theorem eq1_b (x y : Bool) : eq1 1 (.b x) (.b y) = some (x == y) := by simp [eq1]
theorem eq1_s (x y : List UInt8) : eq1 2 (.s x) (.s y) = some (x == y) := by simp [eq1]
theorem bne_tf : (true != false) = true := Eq.trans rfl rfl
theorem bne_ff : (false != false) = false := Eq.trans rfl rfl
theorem bne_tt : (true != true) = false := Eq.trans rfl rfl
theorem bne_ft : (false != true) = true := Eq.trans rfl rfl
/-- a function by value, out of its runs -/
theorem pure_of {P : Program} {Gl : Gmap} {cfg : Cfg} (hc : CfgOK P Gl cfg) {f : FuncId} {g : List PV → Option PV} (h : ∀ args r, g args = some r → ∃ fuel, evP cfg fuel f args = some r) : PureOK P Gl f g := by
  intro args r hr
  obtain ⟨fuel, hf⟩ := h args r hr
  exact evP_ok hc fuel _ args r hf
theorem evP_of {cfg : Cfg} {f : FuncId} (hx : cfg.ext f = none) {fuel : Nat} {args : List PV} {r : PV} (ho : openArgs args = (args, { sto := .leaf, cnt := 1 })) (h : ∃ r' st', evFn cfg fuel f args { sto := .leaf, cnt := 1 } = some (r', st') ∧ closeRes st' r' = some r) : evP cfg fuel f args = some r := by
  obtain ⟨r', st', h1, h2⟩ := h
  unfold evP runPure
  simp only [hx]
  unfold callP
  rw [ho, h1]
  exact h2
end Go.Pe
