/-
 Bytes: what is shared: parts, appends, calls among objects. No condition.
-/
import Derived.Test.YtadblicfhhllgaaEvtY
set_option linter.unusedVariables false
set_option linter.unusedSimpArgs false
namespace Go.Pe
open Go Go.Am Go.RowKit

theorem NaP {g : List PV → Option PV} {st : St} {key : Nat} {ps ps' : List PV} {r : PV} (hd : NaW st ps = some ps') (hg : g ps' = some r) (hc : r.closedB = true) : Nae g false st key ps = Nau st key r := by
 unfold Nae
 simp only [hd, hg, hc, if_true]
theorem Ngy {g : List PV → Option PV} {st : St} {key k : Nat} {l l' : List UInt8} {rest : List PV} (hk : st.get k = some (.cells (Nab l) false)) (hd : NaW st rest = some rest) (hr : keysL st rest = []) (hg : g (.osl 1 l.length (Nab l) :: rest) = some (.osl 1 l'.length (Nab l'))) :
 Nae g true st key (.rsl k 1 0 l.length :: rest) = some (.rsl key 1 0 l'.length, (st.put k none).put key (some (.cells (Nab l') false))) := by
 unfold Nae
 simp only [hk, Nah, NbP, hr, NaA (Nbq l), hd, hg, Na2, if_true]
 rw [if_pos ⟨trivial, by omega, by omega, rfl⟩]
 rfl
theorem No3 (S : St) (n k : Nat) (o : Option PObj) : St.get ⟨(S.put k o).sto, n⟩ k = o := St.get_putk S k o
theorem NhW {st : St} {k : Nat} {fz : Bool} {l : List UInt8} (hk : st.get k = some (.cells (Nab l) fz)) : cellsOf st 1 (.rsl k 1 0 l.length) = some (l.length, Nab l) := by
 unfold cellsOf
 simp only [hk, cut?, Nah, Nat.mul_one, Nat.zero_add, List.drop_zero, ne_eq, not_true_eq_false, if_false]
 rw [if_pos (Nat.le_refl _), NaO, List.take_length]
 rfl
theorem NoZ {st : St} {k : Nat} {l news : List UInt8} (hk : st.get k = some (.cells (Nab l) false)) {key : Nat} (hl : l.length + news.length ≤ maxBytes) :
 NaC st key 1 1 news.length (Nab news) (.rsl k 1 0 l.length) = some (.rsl key 1 0 (l ++ news).length, (st.put k none).put key (some (.cells (Nab (l ++ news)) false))) := by
 unfold NaC
 simp only [hk, Nah, NaN, List.length_append]
 rw [if_pos ⟨trivial, trivial, by omega, by omega⟩]
theorem NfJ {cfg : Cfg} {callE : CallE} {n : Nat} {a b : MCode} {x : Now} {Q : MExit → Now → Prop} (R : Now → Prop) (h : WC cfg callE n a x fun e x' => match e with | .nrm => R x' | .ex id => Q (.ex id) x' | .ret => Q .ret x') (k : ∀ x', R x' → WC cfg callE n b x' Q) : WC cfg callE n (.seq a b) x Q := by
 rw [Z0]
 refine h.mono ?_
 intro e x' hr
 cases e with
 | nrm => rw [Nn2]; exact k x' hr
 | ex id => rw [NoV]; exact hr
 | ret => rw [Noa]; exact hr
theorem NhR {st : St} {k : Nat} {fz : Bool} {m : List UInt8} (hk : st.get k = some (.cells (Nab m) fz)) : deep st 12 (.rsl k 1 0 m.length) = some (.fsl m.length (Nab m)) := Nhq hk
theorem Neq {st : St} {w v : PV} (h : deep st 12 w = some v) : NaW st [w] = some [v] := by
 show mapO (deep st 12) _ = _
 simp only [mapO, h]
theorem NgA {st : St} {w v w' v' : PV} (h : deep st 12 w = some v) (h' : deep st 12 w' = some v') : NaW st [w, w'] = some [v, v'] := by
 show mapO (deep st 12) _ = _
 simp only [mapO, h, h']
theorem NhO {st : St} {w v w' v' w2 v2 : PV} (h : deep st 12 w = some v) (h' : deep st 12 w' = some v') (h2 : deep st 12 w2 = some v2) : NaW st [w, w', w2] = some [v, v', v2] := by
 show mapO (deep st 12) _ = _
 simp only [mapO, h, h', h2]
theorem Ne5 (st : St) (k : IntKind) (n : Int) : deep st 12 (.i k n) = some (.i k n) := rfl
theorem Nlk (st : St) (n : Nat) (cs : List PV) : deep st 12 (.fsl n cs) = some (.fsl n cs) := rfl
end Go.Pe
