/-
 Events: the drawn regions behind which Get ends. No condition. (Printed by gen_chain.py.)
-/
import Derived.Test.YtadblicfhhllgaaEvtE
import Derived.Test.YtadblicfhhllgaaEvtS2
set_option linter.unusedVariables false
set_option linter.unusedSimpArgs false
set_option maxHeartbeats 4000000
namespace Go.Pe
open Go Go.Am Go.RowKit

theorem Nl0 (k : IntKind) (n : Int) : PV.same Ndd (.i k n) (.i k n) = true := by
 show PV.same (39 + 1) _ _ = true
 simp [PV.same]
theorem NbZ {st : St} {k n : Nat} {cs : List PV} {v : PV} (hk : st.get k = some (.cells cs false)) (hv : v.cells.length = n) (hn : cs.length = n) (h1 : v.cells.all PV.one = true) : NaZ st n (.ptr k 0) v = some (st.put k (some (.cells v.cells false))) := by
 unfold NaZ
 simp only [hk]
 rw [if_pos ⟨hv, by omega, h1⟩]
 have : List.drop n cs = [] := List.drop_of_length_le (by omega)
 simp [this]
theorem Na1 {st : St} {k n : Nat} {cs : List PV} {fz : Bool} (hk : st.get k = some (.cells cs fz)) (hn : cs.length = n) : loadP st n (.ptr k 0) = some cs := by
 unfold loadP
 simp only [hk]
 unfold cut?
 rw [if_pos (by omega)]
 subst hn
 simp

def cbops : List MOper := [⟨.l 60, .load true 5 (.t 9), none⟩, ⟨.l 61, .load false 1 (.t 4), none⟩, ⟨.no, .store 5 (.t 6) (.l 60), none⟩, ⟨.t 7, .mv (.l 61), none⟩, ⟨.t 8, .mv (.c (.i .i64 (.ofNat 0))), none⟩]
def NpB : List Nat := [0, 0, 1, 7, 15]
noncomputable def Nn1 (E : List PV) : Env := Env.put .leaf 60 (.agg E)
noncomputable def NhM (E : List PV) (a : Int) : Env := Env.put (Nn1 E) 61 (.i .i64 a)
noncomputable def Nf8 (st : St) (kr : Nat) (E : List PV) : St := (⟨st.sto, st.cnt + 40⟩ : St).put kr (some (.cells E false))
noncomputable def Nnv (env : Env) (st : St) (kr : Nat) (E : List PV) (a : Int) : List (Loc × PV) := [(⟨env, .leaf, ⟨st.sto, st.cnt + 40⟩⟩, .agg E), (⟨env, Nn1 E, ⟨st.sto, st.cnt + 40⟩⟩, .i .i64 a), (⟨env, NhM E a, ⟨st.sto, st.cnt + 40⟩⟩, .tup []), (⟨env, NhM E a, Nf8 st kr E⟩, .i .i64 a), (⟨env.put 7 (.i .i64 a), NhM E a, Nf8 st kr E⟩, .i .i64 (.ofNat 0))]
theorem NpS {cfg : Cfg} {callE : CallE} {env : Env} {st : St} {kr ke ka : Nat} {E R : List PV} {a : Int} (hlen : E.length = 5) (hone : E.all PV.one = true) (h9 : env.get 9 = .ptr ke 0) (hE : st.get ke = some (.cells E false)) (h6 : env.get 6 = .ptr kr 0) (hR : st.get kr = some (.cells R false)) (hRl : R.length = 5) (h1 : env.get 4 = .ptr ka 0) (hA : st.get ka = some (.cells [.i .i64 a] false)) :
 NcT cfg callE cbops st.cnt ⟨env, .leaf, ⟨st.sto, st.cnt + 40⟩⟩ = some (Nnv env st kr E a, ⟨(env.put 7 (.i .i64 a)).put 8 (.i .i64 (.ofNat 0)), NhM E a, Nf8 st kr E⟩) := by
 have hAl : loadP ⟨st.sto, st.cnt + 40⟩ 1 (.ptr ka 0) = some [.i .i64 a] := Na1 (st := ⟨st.sto, st.cnt + 40⟩) hA rfl
 have hEl : loadP ⟨st.sto, st.cnt + 40⟩ 5 (.ptr ke 0) = some E := Na1 (st := ⟨st.sto, st.cnt + 40⟩) hE hlen
 have hS : NaZ ⟨st.sto, st.cnt + 40⟩ 5 (.ptr kr 0) (.agg E) = some (Nf8 st kr E) := NbZ (v := .agg E) (st := ⟨st.sto, st.cnt + 40⟩) hR hlen hRl hone
 have gA : Env.get (NhM E a) 60 = .agg E := by simp [NhM, Nn1, Env.get_put]
 have gB : Env.get (NhM E a) 61 = .i .i64 a := by simp [NhM, Env.get_put]
 have q1 : Env.put .leaf 60 (.agg E) = Nn1 E := rfl
 have q2 : Env.put (Nn1 E) 61 (.i .i64 a) = NhM E a := rfl
 simp only [cbops, NcT, Naw, Nan, NnY, Nps, Nph, Npq, Npr, Npm, List.map_cons, List.map_nil, h6, h1, h9, hEl, hAl, hS, map_some, Naa, Bool.false_eq_true, if_false, if_true, gA, gB, q1, q2, Nnv]
theorem Npb {cfg : Cfg} {callE : CallE} {env : Env} {st : St} {kr ka : Nat} {E : List PV} {a : Int} (h1 : env.get 4 = .ptr ka 0) (hA : st.get ka = some (.cells [.i .i64 a] false)) (fr : ∀ j, st.cnt ≤ j → st.get j = none) (hne : ka ≠ kr) (hka : ka < st.cnt) (hkr : kr < st.cnt) :
 Nbz cfg callE cbops NpB (Nnv env st kr E a) ⟨(env.put 7 (.i .i64 a)).put 8 (.i .i64 (.ofNat 0)), NhM E a, Nf8 st kr E⟩ st.cnt = true := by
 have fA : ∀ j, st.cnt ≤ j → (⟨st.sto, st.cnt + 40⟩ : St).get j = none := fun j hj => fr j hj
 have fB : ∀ j, st.cnt ≤ j → (Nf8 st kr E).get j = none := by
  intro j hj
  unfold Nf8
  rw [St.get_put_ne (by omega)]; exact fA j hj
 have a1 : Nf1 cfg callE cbops (Nnv env st kr E a) ⟨(env.put 7 (.i .i64 a)).put 8 (.i .i64 (.ofNat 0)), NhM E a, Nf8 st kr E⟩ st.cnt 1 5 = true := by
  have el : loadP ((Nf8 st kr E).put (st.cnt + 8 * 1) none) 1 (.ptr ka 0) = some [.i .i64 a] := by
   refine Na1 (cs := [.i .i64 a]) (fz := false) ?_ rfl
   rw [St.get_put_ne (by omega)]
   unfold Nf8
   rw [St.get_put_ne (fun h => hne h.symm)]; exact hA
  show ((decide (5 ≤ 1) || PObj.same ((Nf8 st kr E).get (st.cnt + 8 * 1)) ((⟨st.sto, st.cnt + 40⟩ : St).get (st.cnt + 8 * 1))) && (match Nan cfg callE (Loc.rd ⟨env, Nn1 E, ⟨st.sto, st.cnt + 40⟩⟩) ((Nf8 st kr E).put (st.cnt + 8 * 1) none) (st.cnt + 8 * 1) (.load false 1 (.t 4)) with
   | some (r', st') => PV.same Ndd r' (.i .i64 a) && PObj.same (st'.get (st.cnt + 8 * 1)) ((⟨st.sto, st.cnt + 40⟩ : St).get (st.cnt + 8 * 1))
   | none => false)) = true
  simp only [Nan, NnY, h1, el, Naa, Bool.false_eq_true, if_false, map_some]
  rw [fB _ (by omega), fA _ (by omega), St.get_putk, Nl0]
  rfl
 have c2 : ∀ m, ((stAt (Nnv env st kr E a) ⟨(env.put 7 (.i .i64 a)).put 8 (.i .i64 (.ofNat 0)), NhM E a, Nf8 st kr E⟩ 2).get (st.cnt + 8 * m)).isNone = true := by
  intro m
  show ((⟨st.sto, st.cnt + 40⟩ : St).get (st.cnt + 8 * m)).isNone = true
  rw [fA _ (by omega)]; rfl
 have c3 : ∀ m, ((stAt (Nnv env st kr E a) ⟨(env.put 7 (.i .i64 a)).put 8 (.i .i64 (.ofNat 0)), NhM E a, Nf8 st kr E⟩ 3).get (st.cnt + 8 * m)).isNone = true := by
  intro m
  show ((Nf8 st kr E).get (st.cnt + 8 * m)).isNone = true
  rw [fB _ (by omega)]; rfl
 have tt : ∀ j : Nat, j ∈ List.range 6 → j = 0 ∨ j = 1 ∨ j = 2 ∨ j = 3 ∨ j = 4 ∨ j = 5 := by
  intro j hj; simp at hj; omega
 unfold Nbz
 rw [List.all_eq_true]
 intro j hj
 have hj' : j = 0 ∨ j = 1 ∨ j = 2 ∨ j = 3 ∨ j = 4 := by
  have : j < 5 := by simpa [cbops] using hj
  omega
 rcases hj' with rfl | rfl | rfl | rfl | rfl
 ·rfl
 ·rw [if_pos (by rfl), List.all_eq_true]
  intro t ht
  rcases tt t ht with rfl | rfl | rfl | rfl | rfl | rfl
  case inr.inr.inr.inr.inr => rw [a1]; simp
  all_goals rfl
 ·rw [if_neg (by decide), List.all_eq_true]
  intro m hm
  have hm' : m = 0 ∨ m = 1 ∨ m = 2 ∨ m = 3 ∨ m = 4 := by
   have : m < 5 := by simpa [cbops] using hm
   omega
  rcases hm' with rfl | rfl | rfl | rfl | rfl
  ·rfl
  ·show (NaG NpB 2 1 || _) = true
   rw [c2]; rfl
  ·rfl
  ·exact c3 3
  ·exact c3 4
 ·rfl
 ·rfl
theorem NkZ {cfg : Cfg} {callE : CallE} {n : Nat} {env : Env} {st : St} {kr ke ka : Nat} {E R : List PV} {a : Int} (hlen : E.length = 5) (hone : E.all PV.one = true) (h9 : env.get 9 = .ptr ke 0) (hE : st.get ke = some (.cells E false)) (h6 : env.get 6 = .ptr kr 0) (hR : st.get kr = some (.cells R false)) (hRl : R.length = 5) (h1 : env.get 4 = .ptr ka 0) (hA : st.get ka = some (.cells [.i .i64 a] false)) (fr : ∀ j, st.cnt ≤ j → st.get j = none) (hne : ka ≠ kr) (hka : ka < st.cnt) (hkr : kr < st.cnt) {Q : MExit → Now → Prop} (hQ : Q .nrm ⟨(env.put 7 (.i .i64 a)).put 8 (.i .i64 (.ofNat 0)), Nf8 st kr E⟩) : WC cfg callE n (.chain cbops NpB none) ⟨env, st⟩ Q := by
 refine ⟨.nrm, _, ?_, hQ⟩
 have e1 := NpS (cfg := cfg) (callE := callE) (st := st) (env := env) (a := a) (E := E) hlen hone h9 hE h6 hR hRl h1 hA
 have e2 := Npb (cfg := cfg) (callE := callE) (E := E) h1 hA fr hne hka hkr
 simp only [Nal, Ncw]
 have e1' : NcT cfg callE cbops st.cnt ⟨env, .leaf, { st with cnt := st.cnt + 8 * cbops.length }⟩ = some (Nnv env st kr E a, ⟨(env.put 7 (.i .i64 a)).put 8 (.i .i64 (.ofNat 0)), NhM E a, Nf8 st kr E⟩) := e1
 rw [e1']
 simp only [e2, Ncm, Bool.and_self, if_true, map_some]

def caops : List MOper := [⟨.l 58, .build [.i .i64 (.ofNat 0), .i .u8 (.ofNat 0), .i .i64 (.ofNat 0), .i .i64 (.ofNat 0), .i .i64 (.ofNat 0)] [], none⟩, ⟨.l 59, .load false 1 (.t 10), none⟩, ⟨.no, .store 5 (.t 6) (.l 58), none⟩, ⟨.t 7, .mv (.c (.i .i64 (.ofNat 0))), none⟩, ⟨.t 8, .mv (.l 59), none⟩]
def NpN : List Nat := [0, 0, 1, 5, 15]
noncomputable def NnF (E : List PV) : Env := Env.put .leaf 58 (.agg E)
noncomputable def NhL (E : List PV) (a : Int) : Env := Env.put (NnF E) 59 (.i .i64 a)
noncomputable def Nf7 (st : St) (kr : Nat) (E : List PV) : St := (⟨st.sto, st.cnt + 40⟩ : St).put kr (some (.cells E false))
noncomputable def Nnq (env : Env) (st : St) (kr : Nat) (E : List PV) (a : Int) : List (Loc × PV) := [(⟨env, .leaf, ⟨st.sto, st.cnt + 40⟩⟩, .agg E), (⟨env, NnF E, ⟨st.sto, st.cnt + 40⟩⟩, .i .i64 a), (⟨env, NhL E a, ⟨st.sto, st.cnt + 40⟩⟩, .tup []), (⟨env, NhL E a, Nf7 st kr E⟩, .i .i64 (.ofNat 0)), (⟨env.put 7 (.i .i64 (.ofNat 0)), NhL E a, Nf7 st kr E⟩, .i .i64 a)]
theorem NpE {cfg : Cfg} {callE : CallE} {env : Env} {st : St} {kr ka : Nat} {E R : List PV} {a : Int} (hlen : E.length = 5) (hone : E.all PV.one = true) (h9 : True) (hE : E = [.i .i64 (.ofNat 0), .i .u8 (.ofNat 0), .i .i64 (.ofNat 0), .i .i64 (.ofNat 0), .i .i64 (.ofNat 0)]) (h6 : env.get 6 = .ptr kr 0) (hR : st.get kr = some (.cells R false)) (hRl : R.length = 5) (h1 : env.get 10 = .ptr ka 0) (hA : st.get ka = some (.cells [.i .i64 a] false)) :
 NcT cfg callE caops st.cnt ⟨env, .leaf, ⟨st.sto, st.cnt + 40⟩⟩ = some (Nnq env st kr E a, ⟨(env.put 7 (.i .i64 (.ofNat 0))).put 8 (.i .i64 a), NhL E a, Nf7 st kr E⟩) := by
 have hAl : loadP ⟨st.sto, st.cnt + 40⟩ 1 (.ptr ka 0) = some [.i .i64 a] := Na1 (st := ⟨st.sto, st.cnt + 40⟩) hA rfl
 have hEl : Ncd [.i .i64 (.ofNat 0), .i .u8 (.ofNat 0), .i .i64 (.ofNat 0), .i .i64 (.ofNat 0), .i .i64 (.ofNat 0)] [] = some E := by rw [hE]; rfl
 have hS : NaZ ⟨st.sto, st.cnt + 40⟩ 5 (.ptr kr 0) (.agg E) = some (Nf7 st kr E) := NbZ (v := .agg E) (st := ⟨st.sto, st.cnt + 40⟩) hR hlen hRl hone
 have gA : Env.get (NhL E a) 58 = .agg E := by simp [NhL, NnF, Env.get_put]
 have gB : Env.get (NhL E a) 59 = .i .i64 a := by simp [NhL, Env.get_put]
 have q1 : Env.put .leaf 58 (.agg E) = NnF E := rfl
 have q2 : Env.put (NnF E) 59 (.i .i64 a) = NhL E a := rfl
 simp only [caops, NcT, Naw, Nan, NnY, Nps, Nph, Npq, Npr, Npm, List.map_cons, List.map_nil, h6, h1, hEl, hAl, hS, map_some, Naa, Bool.false_eq_true, if_false, if_true, gA, gB, q1, q2, Nnq]
theorem NoU {cfg : Cfg} {callE : CallE} {env : Env} {st : St} {kr ka : Nat} {E : List PV} {a : Int} (h1 : env.get 10 = .ptr ka 0) (hA : st.get ka = some (.cells [.i .i64 a] false)) (fr : ∀ j, st.cnt ≤ j → st.get j = none) (hne : ka ≠ kr) (hka : ka < st.cnt) (hkr : kr < st.cnt) :
 Nbz cfg callE caops NpN (Nnq env st kr E a) ⟨(env.put 7 (.i .i64 (.ofNat 0))).put 8 (.i .i64 a), NhL E a, Nf7 st kr E⟩ st.cnt = true := by
 have fA : ∀ j, st.cnt ≤ j → (⟨st.sto, st.cnt + 40⟩ : St).get j = none := fun j hj => fr j hj
 have fB : ∀ j, st.cnt ≤ j → (Nf7 st kr E).get j = none := by
  intro j hj
  unfold Nf7
  rw [St.get_put_ne (by omega)]; exact fA j hj
 have a1 : Nf1 cfg callE caops (Nnq env st kr E a) ⟨(env.put 7 (.i .i64 (.ofNat 0))).put 8 (.i .i64 a), NhL E a, Nf7 st kr E⟩ st.cnt 1 5 = true := by
  have el : loadP ((Nf7 st kr E).put (st.cnt + 8 * 1) none) 1 (.ptr ka 0) = some [.i .i64 a] := by
   refine Na1 (cs := [.i .i64 a]) (fz := false) ?_ rfl
   rw [St.get_put_ne (by omega)]
   unfold Nf7
   rw [St.get_put_ne (fun h => hne h.symm)]; exact hA
  show ((decide (5 ≤ 1) || PObj.same ((Nf7 st kr E).get (st.cnt + 8 * 1)) ((⟨st.sto, st.cnt + 40⟩ : St).get (st.cnt + 8 * 1))) && (match Nan cfg callE (Loc.rd ⟨env, NnF E, ⟨st.sto, st.cnt + 40⟩⟩) ((Nf7 st kr E).put (st.cnt + 8 * 1) none) (st.cnt + 8 * 1) (.load false 1 (.t 10)) with
   | some (r', st') => PV.same Ndd r' (.i .i64 a) && PObj.same (st'.get (st.cnt + 8 * 1)) ((⟨st.sto, st.cnt + 40⟩ : St).get (st.cnt + 8 * 1))
   | none => false)) = true
  simp only [Nan, NnY, h1, el, Naa, Bool.false_eq_true, if_false, map_some]
  rw [fB _ (by omega), fA _ (by omega), St.get_putk, Nl0]
  rfl
 have c2 : ∀ m, ((stAt (Nnq env st kr E a) ⟨(env.put 7 (.i .i64 (.ofNat 0))).put 8 (.i .i64 a), NhL E a, Nf7 st kr E⟩ 2).get (st.cnt + 8 * m)).isNone = true := by
  intro m
  show ((⟨st.sto, st.cnt + 40⟩ : St).get (st.cnt + 8 * m)).isNone = true
  rw [fA _ (by omega)]; rfl
 have c3 : ∀ m, ((stAt (Nnq env st kr E a) ⟨(env.put 7 (.i .i64 (.ofNat 0))).put 8 (.i .i64 a), NhL E a, Nf7 st kr E⟩ 3).get (st.cnt + 8 * m)).isNone = true := by
  intro m
  show ((Nf7 st kr E).get (st.cnt + 8 * m)).isNone = true
  rw [fB _ (by omega)]; rfl
 have tt : ∀ j : Nat, j ∈ List.range 6 → j = 0 ∨ j = 1 ∨ j = 2 ∨ j = 3 ∨ j = 4 ∨ j = 5 := by
  intro j hj; simp at hj; omega
 unfold Nbz
 rw [List.all_eq_true]
 intro j hj
 have hj' : j = 0 ∨ j = 1 ∨ j = 2 ∨ j = 3 ∨ j = 4 := by
  have : j < 5 := by simpa [caops] using hj
  omega
 rcases hj' with rfl | rfl | rfl | rfl | rfl
 ·rfl
 ·rw [if_pos (by rfl), List.all_eq_true]
  intro t ht
  rcases tt t ht with rfl | rfl | rfl | rfl | rfl | rfl
  case inr.inr.inr.inr.inr => rw [a1]; simp
  all_goals rfl
 ·rw [if_neg (by decide), List.all_eq_true]
  intro m hm
  have hm' : m = 0 ∨ m = 1 ∨ m = 2 ∨ m = 3 ∨ m = 4 := by
   have : m < 5 := by simpa [caops] using hm
   omega
  rcases hm' with rfl | rfl | rfl | rfl | rfl
  ·rfl
  ·show (NaG NpN 2 1 || _) = true
   rw [c2]; rfl
  ·rfl
  ·exact c3 3
  ·exact c3 4
 ·rfl
 ·rfl
theorem Nk3 {cfg : Cfg} {callE : CallE} {n : Nat} {env : Env} {st : St} {kr ka : Nat} {E R : List PV} {a : Int} (hlen : E.length = 5) (hone : E.all PV.one = true) (h9 : True) (hE : E = [.i .i64 (.ofNat 0), .i .u8 (.ofNat 0), .i .i64 (.ofNat 0), .i .i64 (.ofNat 0), .i .i64 (.ofNat 0)]) (h6 : env.get 6 = .ptr kr 0) (hR : st.get kr = some (.cells R false)) (hRl : R.length = 5) (h1 : env.get 10 = .ptr ka 0) (hA : st.get ka = some (.cells [.i .i64 a] false)) (fr : ∀ j, st.cnt ≤ j → st.get j = none) (hne : ka ≠ kr) (hka : ka < st.cnt) (hkr : kr < st.cnt) {Q : MExit → Now → Prop} (hQ : Q .nrm ⟨(env.put 7 (.i .i64 (.ofNat 0))).put 8 (.i .i64 a), Nf7 st kr E⟩) : WC cfg callE n (.chain caops NpN none) ⟨env, st⟩ Q := by
 refine ⟨.nrm, _, ?_, hQ⟩
 have e1 := NpE (cfg := cfg) (callE := callE) (st := st) (env := env) (a := a) (E := E) hlen hone h9 hE h6 hR hRl h1 hA
 have e2 := NoU (cfg := cfg) (callE := callE) (E := E) h1 hA fr hne hka hkr
 simp only [Nal, Ncw]
 have e1' : NcT cfg callE caops st.cnt ⟨env, .leaf, { st with cnt := st.cnt + 8 * caops.length }⟩ = some (Nnq env st kr E a, ⟨(env.put 7 (.i .i64 (.ofNat 0))).put 8 (.i .i64 a), NhL E a, Nf7 st kr E⟩) := e1
 rw [e1']
 simp only [e2, Ncm, Bool.and_self, if_true, map_some]
end Go.Pe
