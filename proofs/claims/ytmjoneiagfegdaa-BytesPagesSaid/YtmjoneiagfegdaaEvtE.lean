/-
  Bytes: what is shared: parts, appends, calls among objects. No condition.
-/
import Derived.Test.YtmjoneiagfegdaaEvtY
set_option linter.unusedVariables false
set_option linter.unusedSimpArgs false
namespace Go.Pe
open Go Go.Am Go.RowKit

theorem callStep_gen {g : List PV → Option PV} {st : St} {key : Nat} {ps ps' : List PV} {r : PV} (hd : deepL st ps = some ps') (hg : g ps' = some r) (hc : r.closedB = true) : callStep g false st key ps = recvRes st key r := by
  unfold callStep
  simp only [hd, hg, hc, if_true]
theorem call_own2 {g : List PV → Option PV} {st : St} {key k : Nat} {l l' : List UInt8} {rest : List PV} (hk : st.get k = some (.cells (ofBytes l) false)) (hd : deepL st rest = some rest) (hr : keysL st rest = []) (hg : g (.osl 1 l.length (ofBytes l) :: rest) = some (.osl 1 l'.length (ofBytes l'))) :
    callStep g true st key (.rsl k 1 0 l.length :: rest) = some (.rsl key 1 0 l'.length, (st.put k none).put key (some (.cells (ofBytes l') false))) := by
  unfold callStep
  simp only [hk, len_ofBytes, keys_ofBytes, hr, deepL_flat (flat_ofBytes l), hd, hg, closed_osl, if_true]
  rw [if_pos ⟨trivial, by omega, by omega, rfl⟩]
  rfl
theorem ibits_xor8n (a b : Nat) (ha : a < 256) (hb : b < 256) : ibits .xor .u8 (a : Int) (b : Int) = some (.i .u8 ((a ^^^ b : Nat) : Int)) := by
  rw [← u8_xor_nat a b ha hb]; rfl
theorem ibits_xor8 (a b : UInt8) : ibits .xor .u8 (a.toNat : Int) (b.toNat : Int) = some (.i .u8 ((a ^^^ b).toNat : Int)) := by
  rw [UInt8.toNat_xor]
  exact ibits_xor8n _ _ a.toNat_lt b.toNat_lt
theorem set_getD {l : List UInt8} {i : Nat} {c : UInt8} (h : i < l.length) : (l.set i c).getD i 0 = c := by
  simp [List.getD_eq_getElem?_getD, h]
theorem cut_in {v : PV} {l : List UInt8} (hv : inL v = some l) {a : Nat} (ha : a ≤ l.length) (h0 : 0 < a) : sliceP 1 none (some (.i .i64 (a : Int))) v = some (.fsl a (ofBytes (l.take a))) := upto_in hv ha (by intro e; rw [e] at ha; simp at ha; omega)
theorem in_takeN {l : List UInt8} {a : Nat} (ha : a ≤ l.length) : inL (.fsl a (ofBytes (l.take a))) = some (l.take a) := in_take ha
theorem upto_own {k n p : Nat} (h : p ≤ n) : sliceP 1 none (some (.i .i64 (p : Int))) (.rsl k 1 0 n) = some (.rsl k 1 0 p) := by
  unfold sliceP bound
  simp only []
  rw [if_pos ⟨by omega, by omega⟩]
  simp
theorem deep_upto {st : St} {k p : Nat} {fz : Bool} {m : List UInt8} (hk : st.get k = some (.cells (ofBytes m) fz)) (h : p ≤ m.length) : deep st 12 (.rsl k 1 0 p) = some (.fsl p (ofBytes (m.take p))) := by
  have := deep_bytes (off := 0) (n := p) hk (by omega)
  rw [List.drop_zero] at this
  exact this
theorem get_at (S : St) (n k : Nat) (o : Option PObj) : St.get ⟨(S.put k o).sto, n⟩ k = o := St.get_putk S k o
theorem get_at_ne {S : St} {n k k' : Nat} {o : Option PObj} (h : k ≠ k') : St.get ⟨(S.put k o).sto, n⟩ k' = S.get k' := St.get_put_ne h
theorem cells_at {st : St} {k : Nat} {fz : Bool} {l : List UInt8} (hk : st.get k = some (.cells (ofBytes l) fz)) : cellsOf st 1 (.rsl k 1 0 l.length) = some (l.length, ofBytes l) := by
  unfold cellsOf
  simp only [hk, cut?, len_ofBytes, Nat.mul_one, Nat.zero_add, List.drop_zero, ne_eq, not_true_eq_false, if_false]
  rw [if_pos (Nat.le_refl _), take_ofBytes, List.take_length]
  rfl
theorem app_at {st : St} {k : Nat} {l news : List UInt8} (hk : st.get k = some (.cells (ofBytes l) false)) {key : Nat} (hl : l.length + news.length ≤ maxBytes) :
    appendP st key 1 1 news.length (ofBytes news) (.rsl k 1 0 l.length) = some (.rsl key 1 0 (l ++ news).length, (st.put k none).put key (some (.cells (ofBytes (l ++ news)) false))) := by
  unfold appendP
  simp only [hk, len_ofBytes, append_ofBytes, List.length_append]
  rw [if_pos ⟨trivial, trivial, by omega, by omega⟩]
theorem WC_cutR {cfg : Cfg} {callE : CallE} {n : Nat} {a b : MCode} {x : Now} {Q : MExit → Now → Prop} (R : Now → Prop) (h : WC cfg callE n a x fun e x' => match e with | .nrm => R x' | .ex id => Q (.ex id) x' | .ret => Q .ret x') (k : ∀ x', R x' → WC cfg callE n b x' Q) : WC cfg callE n (.seq a b) x Q := by
  rw [Z0]
  refine h.mono ?_
  intro e x' hr
  cases e with
  | nrm => rw [Z0v_]; exact k x' hr
  | ex id => rw [Z0w_]; exact hr
  | ret => rw [Z0x_]; exact hr
theorem in_arg {l : List UInt8} : inL (.fsl l.length (ofBytes l)) = some l := in_fsl l
theorem deep_b {st : St} {k : Nat} {fz : Bool} {m : List UInt8} (hk : st.get k = some (.cells (ofBytes m) fz)) : deep st 12 (.rsl k 1 0 m.length) = some (.fsl m.length (ofBytes m)) := deep_bytes0 hk
theorem deep_1 {st : St} {w v : PV} (h : deep st 12 w = some v) : deepL st [w] = some [v] := by
  show mapO (deep st 12) _ = _
  simp only [mapO, h]
theorem deep_2 {st : St} {w v w' v' : PV} (h : deep st 12 w = some v) (h' : deep st 12 w' = some v') : deepL st [w, w'] = some [v, v'] := by
  show mapO (deep st 12) _ = _
  simp only [mapO, h, h']
theorem deep_3 {st : St} {w v w' v' w2 v2 : PV} (h : deep st 12 w = some v) (h' : deep st 12 w' = some v') (h2 : deep st 12 w2 = some v2) : deepL st [w, w', w2] = some [v, v', v2] := by
  show mapO (deep st 12) _ = _
  simp only [mapO, h, h', h2]
theorem deep_i (st : St) (k : IntKind) (n : Int) : deep st 12 (.i k n) = some (.i k n) := rfl
theorem deep_fsl (st : St) (n : Nat) (cs : List PV) : deep st 12 (.fsl n cs) = some (.fsl n cs) := rfl
theorem deep_nsl (st : St) : deep st 12 .nsl = some .nsl := rfl
theorem upto_any {v : PV} {l : List UInt8} (h : inL v = some l) {a : Nat} (ha : a ≤ l.length) : ∃ v', sliceP 1 none (some (.i .i64 (a : Int))) v = some v' ∧ inL v' = some (l.take a) := by
  by_cases hl : l = []
  · subst hl
    have h0 : a = 0 := by simpa using ha
    subst h0
    unfold inL at h
    split at h
    · exact ⟨.nsl, rfl, rfl⟩
    · rename_i n cs
      split at h
      · split at h
        · rename_i l' hl' hn
          simp only [Option.some.injEq] at h
          subst h
          have hcs := of_bytesOf hl'
          subst hcs
          subst hn
          exact ⟨.fsl 0 [], rfl, rfl⟩
        · simp at h
      · simp at h
    · simp at h
  · exact ⟨_, upto_in h ha hl, in_take ha⟩
theorem mid_in {v : PV} {l : List UInt8} (h : inL v = some l) {a n : Nat} (ha : a + n ≤ l.length) (hl : l ≠ []) : sliceP 1 (some (.i .i64 (a : Int))) (some (.i .i64 ((a + n : Nat) : Int))) v = some (.fsl n (ofBytes ((l.drop a).take n))) := by
  rw [in_cons h hl]
  unfold sliceP
  simp only [bound_ok (show 0 ≤ ((a + n : Nat) : Int) ∧ ((a + n : Nat) : Int) ≤ (l.length : Int) by omega), bound_ok (show 0 ≤ (a : Int) ∧ (a : Int) ≤ ((a + n : Nat) : Int) by omega), Int.toNat_natCast, len_ofBytes, Nat.mul_one, if_true]
  rw [drop_ofBytes, take_ofBytes, Nat.add_sub_cancel_left]
end Go.Pe
