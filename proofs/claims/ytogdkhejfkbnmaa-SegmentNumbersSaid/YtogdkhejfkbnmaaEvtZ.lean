/-
  Events: the drawn regions behind which Get ends. No condition. (Printed by gen_chain.py.)
-/
import Derived.Test.YtogdkhejfkbnmaaEvtE
import Derived.Test.YtogdkhejfkbnmaaEvtS2
set_option linter.unusedVariables false
set_option linter.unusedSimpArgs false
namespace Go.Pe
open Go Go.Am Go.RowKit

theorem same_i (k : IntKind) (n : Int) : PV.same deepS (.i k n) (.i k n) = true := by
  show PV.same (39 + 1) _ _ = true
  simp [PV.same]
theorem store_whole {st : St} {k n : Nat} {cs : List PV} {v : PV} (hk : st.get k = some (.cells cs false)) (hv : v.cells.length = n) (hn : cs.length = n) (h1 : v.cells.all PV.one = true) : storeP st n (.ptr k 0) v = some (st.put k (some (.cells v.cells false))) := by
  unfold storeP
  simp only [hk]
  rw [if_pos ⟨hv, by omega, h1⟩]
  have : List.drop n cs = [] := List.drop_of_length_le (by omega)
  simp [this]
theorem load_whole {st : St} {k n : Nat} {cs : List PV} {fz : Bool} (hk : st.get k = some (.cells cs fz)) (hn : cs.length = n) : loadP st n (.ptr k 0) = some cs := by
  unfold loadP
  simp only [hk]
  unfold cut?
  rw [if_pos (by omega)]
  subst hn
  simp

def cbops : List MOper := [⟨.l 60, .load true 5 (.t 9), none⟩, ⟨.l 61, .load false 1 (.t 4), none⟩, ⟨.no, .store 5 (.t 6) (.l 60), none⟩, ⟨.t 7, .mv (.l 61), none⟩, ⟨.t 8, .mv (.c (.i .i64 (.ofNat 0))), none⟩]
def cbmk : List Nat := [0, 0, 1, 7, 15]
noncomputable def cbl1 (E : List PV) : Env := Env.put .leaf 60 (.agg E)
noncomputable def cbl2 (E : List PV) (a : Int) : Env := Env.put (cbl1 E) 61 (.i .i64 a)
noncomputable def cbs2 (st : St) (kr : Nat) (E : List PV) : St := (⟨st.sto, st.cnt + 40⟩ : St).put kr (some (.cells E false))
noncomputable def cbtr (env : Env) (st : St) (kr : Nat) (E : List PV) (a : Int) : List (Loc × PV) := [(⟨env, .leaf, ⟨st.sto, st.cnt + 40⟩⟩, .agg E), (⟨env, cbl1 E, ⟨st.sto, st.cnt + 40⟩⟩, .i .i64 a), (⟨env, cbl2 E a, ⟨st.sto, st.cnt + 40⟩⟩, .tup []), (⟨env, cbl2 E a, cbs2 st kr E⟩, .i .i64 a), (⟨env.put 7 (.i .i64 a), cbl2 E a, cbs2 st kr E⟩, .i .i64 (.ofNat 0))]
set_option maxHeartbeats 4000000 in
theorem cb_tr {cfg : Cfg} {callE : CallE} {env : Env} {st : St} {kr ke ka : Nat} {E R : List PV} {a : Int} (hlen : E.length = 5) (hone : E.all PV.one = true) (h9 : env.get 9 = .ptr ke 0) (hE : st.get ke = some (.cells E false)) (h6 : env.get 6 = .ptr kr 0) (hR : st.get kr = some (.cells R false)) (hRl : R.length = 5) (h1 : env.get 4 = .ptr ka 0) (hA : st.get ka = some (.cells [.i .i64 a] false)) :
    evTr cfg callE cbops st.cnt ⟨env, .leaf, ⟨st.sto, st.cnt + 40⟩⟩ = some (cbtr env st kr E a, ⟨(env.put 7 (.i .i64 a)).put 8 (.i .i64 (.ofNat 0)), cbl2 E a, cbs2 st kr E⟩) := by
  have hAl : loadP ⟨st.sto, st.cnt + 40⟩ 1 (.ptr ka 0) = some [.i .i64 a] := load_whole (st := ⟨st.sto, st.cnt + 40⟩) hA rfl
  have hEl : loadP ⟨st.sto, st.cnt + 40⟩ 5 (.ptr ke 0) = some E := load_whole (st := ⟨st.sto, st.cnt + 40⟩) hE hlen
  have hS : storeP ⟨st.sto, st.cnt + 40⟩ 5 (.ptr kr 0) (.agg E) = some (cbs2 st kr E) := store_whole (v := .agg E) (st := ⟨st.sto, st.cnt + 40⟩) hR hlen hRl hone
  have gA : Env.get (cbl2 E a) 60 = .agg E := by simp [cbl2, cbl1, Env.get_put]
  have gB : Env.get (cbl2 E a) 61 = .i .i64 a := by simp [cbl2, Env.get_put]
  have q1 : Env.put .leaf 60 (.agg E) = cbl1 E := rfl
  have q2 : Env.put (cbl1 E) 61 (.i .i64 a) = cbl2 E a := rfl
  simp only [cbops, evTr, guardP, evOp, Z0p_, Z0q_, Z0r_, Z0s_, Z0t_, Z0u_, List.map_cons, List.map_nil, h6, h1, h9, hEl, hAl, hS, map_some, ofCells, Bool.false_eq_true, if_false, if_true, gA, gB, q1, q2, cbtr]
set_option maxHeartbeats 4000000 in
theorem cb_dyn {cfg : Cfg} {callE : CallE} {env : Env} {st : St} {kr ka : Nat} {E : List PV} {a : Int} (h1 : env.get 4 = .ptr ka 0) (hA : st.get ka = some (.cells [.i .i64 a] false)) (fr : ∀ j, st.cnt ≤ j → st.get j = none) (hne : ka ≠ kr) (hka : ka < st.cnt) (hkr : kr < st.cnt) :
    chainDyn cfg callE cbops cbmk (cbtr env st kr E a) ⟨(env.put 7 (.i .i64 a)).put 8 (.i .i64 (.ofNat 0)), cbl2 E a, cbs2 st kr E⟩ st.cnt = true := by
  have fA : ∀ j, st.cnt ≤ j → (⟨st.sto, st.cnt + 40⟩ : St).get j = none := fun j hj => fr j hj
  have fB : ∀ j, st.cnt ≤ j → (cbs2 st kr E).get j = none := by
    intro j hj
    unfold cbs2
    rw [St.get_put_ne (by omega)]; exact fA j hj
  have a1 : again cfg callE cbops (cbtr env st kr E a) ⟨(env.put 7 (.i .i64 a)).put 8 (.i .i64 (.ofNat 0)), cbl2 E a, cbs2 st kr E⟩ st.cnt 1 5 = true := by
    have el : loadP ((cbs2 st kr E).put (st.cnt + 8 * 1) none) 1 (.ptr ka 0) = some [.i .i64 a] := by
      refine load_whole (cs := [.i .i64 a]) (fz := false) ?_ rfl
      rw [St.get_put_ne (by omega)]
      unfold cbs2
      rw [St.get_put_ne (fun h => hne h.symm)]; exact hA
    show ((decide (5 ≤ 1) || PObj.same ((cbs2 st kr E).get (st.cnt + 8 * 1)) ((⟨st.sto, st.cnt + 40⟩ : St).get (st.cnt + 8 * 1))) && (match evOp cfg callE (Loc.rd ⟨env, cbl1 E, ⟨st.sto, st.cnt + 40⟩⟩) ((cbs2 st kr E).put (st.cnt + 8 * 1) none) (st.cnt + 8 * 1) (.load false 1 (.t 4)) with
        | some (r', st') => PV.same deepS r' (.i .i64 a) && PObj.same (st'.get (st.cnt + 8 * 1)) ((⟨st.sto, st.cnt + 40⟩ : St).get (st.cnt + 8 * 1))
        | none => false)) = true
    simp only [evOp, Z0p_, h1, el, ofCells, Bool.false_eq_true, if_false, map_some]
    rw [fB _ (by omega), fA _ (by omega), St.get_putk, same_i]
    rfl
  have c2 : ∀ m, ((stAt (cbtr env st kr E a) ⟨(env.put 7 (.i .i64 a)).put 8 (.i .i64 (.ofNat 0)), cbl2 E a, cbs2 st kr E⟩ 2).get (st.cnt + 8 * m)).isNone = true := by
    intro m
    show ((⟨st.sto, st.cnt + 40⟩ : St).get (st.cnt + 8 * m)).isNone = true
    rw [fA _ (by omega)]; rfl
  have c3 : ∀ m, ((stAt (cbtr env st kr E a) ⟨(env.put 7 (.i .i64 a)).put 8 (.i .i64 (.ofNat 0)), cbl2 E a, cbs2 st kr E⟩ 3).get (st.cnt + 8 * m)).isNone = true := by
    intro m
    show ((cbs2 st kr E).get (st.cnt + 8 * m)).isNone = true
    rw [fB _ (by omega)]; rfl
  have tt : ∀ j : Nat, j ∈ List.range 6 → j = 0 ∨ j = 1 ∨ j = 2 ∨ j = 3 ∨ j = 4 ∨ j = 5 := by
    intro j hj; simp at hj; omega
  unfold chainDyn
  rw [List.all_eq_true]
  intro j hj
  have hj' : j = 0 ∨ j = 1 ∨ j = 2 ∨ j = 3 ∨ j = 4 := by
    have : j < 5 := by simpa [cbops] using hj
    omega
  rcases hj' with rfl | rfl | rfl | rfl | rfl
  · rfl
  · rw [if_pos (by rfl), List.all_eq_true]
    intro t ht
    rcases tt t ht with rfl | rfl | rfl | rfl | rfl | rfl
    case inr.inr.inr.inr.inr => rw [a1]; simp
    all_goals rfl
  · rw [if_neg (by decide), List.all_eq_true]
    intro m hm
    have hm' : m = 0 ∨ m = 1 ∨ m = 2 ∨ m = 3 ∨ m = 4 := by
      have : m < 5 := by simpa [cbops] using hm
      omega
    rcases hm' with rfl | rfl | rfl | rfl | rfl
    · rfl
    · show (aheadB cbmk 2 1 || _) = true
      rw [c2]; rfl
    · rfl
    · exact c3 3
    · exact c3 4
  · rfl
  · rfl
theorem cb_chain {cfg : Cfg} {callE : CallE} {n : Nat} {env : Env} {st : St} {kr ke ka : Nat} {E R : List PV} {a : Int} (hlen : E.length = 5) (hone : E.all PV.one = true) (h9 : env.get 9 = .ptr ke 0) (hE : st.get ke = some (.cells E false)) (h6 : env.get 6 = .ptr kr 0) (hR : st.get kr = some (.cells R false)) (hRl : R.length = 5) (h1 : env.get 4 = .ptr ka 0) (hA : st.get ka = some (.cells [.i .i64 a] false)) (fr : ∀ j, st.cnt ≤ j → st.get j = none) (hne : ka ≠ kr) (hka : ka < st.cnt) (hkr : kr < st.cnt) {Q : MExit → Now → Prop} (hQ : Q .nrm ⟨(env.put 7 (.i .i64 a)).put 8 (.i .i64 (.ofNat 0)), cbs2 st kr E⟩) : WC cfg callE n (.chain cbops cbmk none) ⟨env, st⟩ Q := by
  refine ⟨.nrm, _, ?_, hQ⟩
  have e1 := cb_tr (cfg := cfg) (callE := callE) (st := st) (env := env) (a := a) (E := E) hlen hone h9 hE h6 hR hRl h1 hA
  have e2 := cb_dyn (cfg := cfg) (callE := callE) (E := E) h1 hA fr hne hka hkr
  simp only [evCode, evChain]
  have e1' : evTr cfg callE cbops st.cnt ⟨env, .leaf, { st with cnt := st.cnt + 8 * cbops.length }⟩ = some (cbtr env st kr E a, ⟨(env.put 7 (.i .i64 a)).put 8 (.i .i64 (.ofNat 0)), cbl2 E a, cbs2 st kr E⟩) := e1
  rw [e1']
  simp only [e2, swapDyn, Bool.and_self, if_true, map_some]

def caops : List MOper := [⟨.l 58, .build [.i .i64 (.ofNat 0), .i .u8 (.ofNat 0), .i .i64 (.ofNat 0), .i .i64 (.ofNat 0), .i .i64 (.ofNat 0)] [], none⟩, ⟨.l 59, .load false 1 (.t 10), none⟩, ⟨.no, .store 5 (.t 6) (.l 58), none⟩, ⟨.t 7, .mv (.c (.i .i64 (.ofNat 0))), none⟩, ⟨.t 8, .mv (.l 59), none⟩]
def camk : List Nat := [0, 0, 1, 5, 15]
noncomputable def cal1 (E : List PV) : Env := Env.put .leaf 58 (.agg E)
noncomputable def cal2 (E : List PV) (a : Int) : Env := Env.put (cal1 E) 59 (.i .i64 a)
noncomputable def cas2 (st : St) (kr : Nat) (E : List PV) : St := (⟨st.sto, st.cnt + 40⟩ : St).put kr (some (.cells E false))
noncomputable def catr (env : Env) (st : St) (kr : Nat) (E : List PV) (a : Int) : List (Loc × PV) := [(⟨env, .leaf, ⟨st.sto, st.cnt + 40⟩⟩, .agg E), (⟨env, cal1 E, ⟨st.sto, st.cnt + 40⟩⟩, .i .i64 a), (⟨env, cal2 E a, ⟨st.sto, st.cnt + 40⟩⟩, .tup []), (⟨env, cal2 E a, cas2 st kr E⟩, .i .i64 (.ofNat 0)), (⟨env.put 7 (.i .i64 (.ofNat 0)), cal2 E a, cas2 st kr E⟩, .i .i64 a)]
set_option maxHeartbeats 4000000 in
theorem ca_tr {cfg : Cfg} {callE : CallE} {env : Env} {st : St} {kr ka : Nat} {E R : List PV} {a : Int} (hlen : E.length = 5) (hone : E.all PV.one = true) (h9 : True) (hE : E = [.i .i64 (.ofNat 0), .i .u8 (.ofNat 0), .i .i64 (.ofNat 0), .i .i64 (.ofNat 0), .i .i64 (.ofNat 0)]) (h6 : env.get 6 = .ptr kr 0) (hR : st.get kr = some (.cells R false)) (hRl : R.length = 5) (h1 : env.get 10 = .ptr ka 0) (hA : st.get ka = some (.cells [.i .i64 a] false)) :
    evTr cfg callE caops st.cnt ⟨env, .leaf, ⟨st.sto, st.cnt + 40⟩⟩ = some (catr env st kr E a, ⟨(env.put 7 (.i .i64 (.ofNat 0))).put 8 (.i .i64 a), cal2 E a, cas2 st kr E⟩) := by
  have hAl : loadP ⟨st.sto, st.cnt + 40⟩ 1 (.ptr ka 0) = some [.i .i64 a] := load_whole (st := ⟨st.sto, st.cnt + 40⟩) hA rfl
  have hEl : fillP [.i .i64 (.ofNat 0), .i .u8 (.ofNat 0), .i .i64 (.ofNat 0), .i .i64 (.ofNat 0), .i .i64 (.ofNat 0)] [] = some E := by rw [hE]; rfl
  have hS : storeP ⟨st.sto, st.cnt + 40⟩ 5 (.ptr kr 0) (.agg E) = some (cas2 st kr E) := store_whole (v := .agg E) (st := ⟨st.sto, st.cnt + 40⟩) hR hlen hRl hone
  have gA : Env.get (cal2 E a) 58 = .agg E := by simp [cal2, cal1, Env.get_put]
  have gB : Env.get (cal2 E a) 59 = .i .i64 a := by simp [cal2, Env.get_put]
  have q1 : Env.put .leaf 58 (.agg E) = cal1 E := rfl
  have q2 : Env.put (cal1 E) 59 (.i .i64 a) = cal2 E a := rfl
  simp only [caops, evTr, guardP, evOp, Z0p_, Z0q_, Z0r_, Z0s_, Z0t_, Z0u_, List.map_cons, List.map_nil, h6, h1, hEl, hAl, hS, map_some, ofCells, Bool.false_eq_true, if_false, if_true, gA, gB, q1, q2, catr]
set_option maxHeartbeats 4000000 in
theorem ca_dyn {cfg : Cfg} {callE : CallE} {env : Env} {st : St} {kr ka : Nat} {E : List PV} {a : Int} (h1 : env.get 10 = .ptr ka 0) (hA : st.get ka = some (.cells [.i .i64 a] false)) (fr : ∀ j, st.cnt ≤ j → st.get j = none) (hne : ka ≠ kr) (hka : ka < st.cnt) (hkr : kr < st.cnt) :
    chainDyn cfg callE caops camk (catr env st kr E a) ⟨(env.put 7 (.i .i64 (.ofNat 0))).put 8 (.i .i64 a), cal2 E a, cas2 st kr E⟩ st.cnt = true := by
  have fA : ∀ j, st.cnt ≤ j → (⟨st.sto, st.cnt + 40⟩ : St).get j = none := fun j hj => fr j hj
  have fB : ∀ j, st.cnt ≤ j → (cas2 st kr E).get j = none := by
    intro j hj
    unfold cas2
    rw [St.get_put_ne (by omega)]; exact fA j hj
  have a1 : again cfg callE caops (catr env st kr E a) ⟨(env.put 7 (.i .i64 (.ofNat 0))).put 8 (.i .i64 a), cal2 E a, cas2 st kr E⟩ st.cnt 1 5 = true := by
    have el : loadP ((cas2 st kr E).put (st.cnt + 8 * 1) none) 1 (.ptr ka 0) = some [.i .i64 a] := by
      refine load_whole (cs := [.i .i64 a]) (fz := false) ?_ rfl
      rw [St.get_put_ne (by omega)]
      unfold cas2
      rw [St.get_put_ne (fun h => hne h.symm)]; exact hA
    show ((decide (5 ≤ 1) || PObj.same ((cas2 st kr E).get (st.cnt + 8 * 1)) ((⟨st.sto, st.cnt + 40⟩ : St).get (st.cnt + 8 * 1))) && (match evOp cfg callE (Loc.rd ⟨env, cal1 E, ⟨st.sto, st.cnt + 40⟩⟩) ((cas2 st kr E).put (st.cnt + 8 * 1) none) (st.cnt + 8 * 1) (.load false 1 (.t 10)) with
        | some (r', st') => PV.same deepS r' (.i .i64 a) && PObj.same (st'.get (st.cnt + 8 * 1)) ((⟨st.sto, st.cnt + 40⟩ : St).get (st.cnt + 8 * 1))
        | none => false)) = true
    simp only [evOp, Z0p_, h1, el, ofCells, Bool.false_eq_true, if_false, map_some]
    rw [fB _ (by omega), fA _ (by omega), St.get_putk, same_i]
    rfl
  have c2 : ∀ m, ((stAt (catr env st kr E a) ⟨(env.put 7 (.i .i64 (.ofNat 0))).put 8 (.i .i64 a), cal2 E a, cas2 st kr E⟩ 2).get (st.cnt + 8 * m)).isNone = true := by
    intro m
    show ((⟨st.sto, st.cnt + 40⟩ : St).get (st.cnt + 8 * m)).isNone = true
    rw [fA _ (by omega)]; rfl
  have c3 : ∀ m, ((stAt (catr env st kr E a) ⟨(env.put 7 (.i .i64 (.ofNat 0))).put 8 (.i .i64 a), cal2 E a, cas2 st kr E⟩ 3).get (st.cnt + 8 * m)).isNone = true := by
    intro m
    show ((cas2 st kr E).get (st.cnt + 8 * m)).isNone = true
    rw [fB _ (by omega)]; rfl
  have tt : ∀ j : Nat, j ∈ List.range 6 → j = 0 ∨ j = 1 ∨ j = 2 ∨ j = 3 ∨ j = 4 ∨ j = 5 := by
    intro j hj; simp at hj; omega
  unfold chainDyn
  rw [List.all_eq_true]
  intro j hj
  have hj' : j = 0 ∨ j = 1 ∨ j = 2 ∨ j = 3 ∨ j = 4 := by
    have : j < 5 := by simpa [caops] using hj
    omega
  rcases hj' with rfl | rfl | rfl | rfl | rfl
  · rfl
  · rw [if_pos (by rfl), List.all_eq_true]
    intro t ht
    rcases tt t ht with rfl | rfl | rfl | rfl | rfl | rfl
    case inr.inr.inr.inr.inr => rw [a1]; simp
    all_goals rfl
  · rw [if_neg (by decide), List.all_eq_true]
    intro m hm
    have hm' : m = 0 ∨ m = 1 ∨ m = 2 ∨ m = 3 ∨ m = 4 := by
      have : m < 5 := by simpa [caops] using hm
      omega
    rcases hm' with rfl | rfl | rfl | rfl | rfl
    · rfl
    · show (aheadB camk 2 1 || _) = true
      rw [c2]; rfl
    · rfl
    · exact c3 3
    · exact c3 4
  · rfl
  · rfl
theorem ca_chain {cfg : Cfg} {callE : CallE} {n : Nat} {env : Env} {st : St} {kr ka : Nat} {E R : List PV} {a : Int} (hlen : E.length = 5) (hone : E.all PV.one = true) (h9 : True) (hE : E = [.i .i64 (.ofNat 0), .i .u8 (.ofNat 0), .i .i64 (.ofNat 0), .i .i64 (.ofNat 0), .i .i64 (.ofNat 0)]) (h6 : env.get 6 = .ptr kr 0) (hR : st.get kr = some (.cells R false)) (hRl : R.length = 5) (h1 : env.get 10 = .ptr ka 0) (hA : st.get ka = some (.cells [.i .i64 a] false)) (fr : ∀ j, st.cnt ≤ j → st.get j = none) (hne : ka ≠ kr) (hka : ka < st.cnt) (hkr : kr < st.cnt) {Q : MExit → Now → Prop} (hQ : Q .nrm ⟨(env.put 7 (.i .i64 (.ofNat 0))).put 8 (.i .i64 a), cas2 st kr E⟩) : WC cfg callE n (.chain caops camk none) ⟨env, st⟩ Q := by
  refine ⟨.nrm, _, ?_, hQ⟩
  have e1 := ca_tr (cfg := cfg) (callE := callE) (st := st) (env := env) (a := a) (E := E) hlen hone h9 hE h6 hR hRl h1 hA
  have e2 := ca_dyn (cfg := cfg) (callE := callE) (E := E) h1 hA fr hne hka hkr
  simp only [evCode, evChain]
  have e1' : evTr cfg callE caops st.cnt ⟨env, .leaf, { st with cnt := st.cnt + 8 * caops.length }⟩ = some (catr env st kr E a, ⟨(env.put 7 (.i .i64 (.ofNat 0))).put 8 (.i .i64 a), cal2 E a, cas2 st kr E⟩) := e1
  rw [e1']
  simp only [e2, swapDyn, Bool.and_self, if_true, map_some]
end Go.Pe
