/-
  Bytes among plain data: slices of bytes handed in and out. No condition; nothing of the program.
-/
import Derived.Test.YtjnofhibldppoaaPe4
set_option linter.unusedVariables false
set_option linter.unusedSimpArgs false
namespace Go.Pe
open Go

theorem bytesOf_of (l : List UInt8) : bytesOf? (ofBytes l) = some l := by
  induction l with
  | nil => rfl
  | cons c r ih =>
    have hc := c.toNat_lt
    have e : ofBytes (c :: r) = .i .u8 (c.toNat : Int) :: ofBytes r := rfl
    rw [e]
    unfold bytesOf?
    rw [if_pos (by omega), ih]
    simp
theorem of_bytesOf : ∀ {cs : List PV} {l : List UInt8}, bytesOf? cs = some l → cs = ofBytes l := by
  intro cs
  induction cs with
  | nil =>
    intro l h
    unfold bytesOf? at h
    simp only [Option.some.injEq] at h
    subst h; rfl
  | cons p r ih =>
    intro l h
    unfold bytesOf? at h
    split at h
    · simp_all
    · rename_i n r' heq
      injection heq with h1 h2
      subst h1; subst h2
      split at h
      · rename_i hn
        simp only [Option.map_eq_some_iff] at h
        obtain ⟨m, hm, rfl⟩ := h
        rw [ih hm]
        show _ = PV.i .u8 ((UInt8.ofNat n.toNat).toNat : Int) :: ofBytes m
        rw [UInt8.toNat_ofNat']
        congr 2
        omega
      · simp at h
    · simp at h
theorem len_ofBytes (l : List UInt8) : (ofBytes l).length = l.length := by simp [ofBytes]
theorem append_ofBytes (l m : List UInt8) : ofBytes l ++ ofBytes m = ofBytes (l ++ m) := by simp [ofBytes]
theorem take_ofBytes (l : List UInt8) (n : Nat) : (ofBytes l).take n = ofBytes (l.take n) := by simp [ofBytes, List.map_take]
theorem drop_ofBytes (l : List UInt8) (n : Nat) : (ofBytes l).drop n = ofBytes (l.drop n) := by simp [ofBytes, List.map_drop]
theorem one_ofBytes (l : List UInt8) : (ofBytes l).all PV.one = true := by
  rw [List.all_eq_true]
  intro p hp
  simp only [ofBytes, List.mem_map] at hp
  obtain ⟨c, _, rfl⟩ := hp
  rfl
theorem flat_ofBytes (l : List UInt8) : (ofBytes l).all PV.flat = true := by
  rw [List.all_eq_true]
  intro p hp
  simp only [ofBytes, List.mem_map] at hp
  obtain ⟨c, _, rfl⟩ := hp
  rfl
theorem closed_ofBytes (f : Nat) (l : List UInt8) : (ofBytes l).all (PV.closed (f + 1)) = true := by
  rw [List.all_eq_true]
  intro p hp
  simp only [ofBytes, List.mem_map] at hp
  obtain ⟨c, _, rfl⟩ := hp
  rfl
theorem deepO_ofBytes (st : St) (f : Nat) (l : List UInt8) : mapO (deep st (f + 1)) (ofBytes l) = some (ofBytes l) := by
  induction l with
  | nil => rfl
  | cons c r ih =>
    have e : ofBytes (c :: r) = .i .u8 (c.toNat : Int) :: ofBytes r := rfl
    rw [e]
    have ed : deep st (f + 1) (.i .u8 (c.toNat : Int)) = some (.i .u8 (c.toNat : Int)) := by unfold deep; rfl
    simp only [mapO, ih, ed]
theorem deep_bytes {st : St} {k : Nat} {fz : Bool} {m : List UInt8} (hk : st.get k = some (.cells (ofBytes m) fz)) {off n : Nat} (h : off + n ≤ m.length) : deep st deepN (.rsl k 1 off n) = some (.fsl n (ofBytes ((m.drop off).take n))) := by
  show deep st (11 + 1) _ = _
  unfold deep
  simp only [hk, cut?, len_ofBytes, Nat.mul_one]
  rw [if_pos h, drop_ofBytes, take_ofBytes]
  simp only []
  rw [deepO_ofBytes]
  rfl
theorem deep_bytes0 {st : St} {k : Nat} {fz : Bool} {m : List UInt8} (hk : st.get k = some (.cells (ofBytes m) fz)) : deep st deepN (.rsl k 1 0 m.length) = some (.fsl m.length (ofBytes m)) := by
  rw [deep_bytes hk (by omega)]; simp
theorem closed_osl (n : Nat) (l : List UInt8) : PV.closedB (.osl 1 n (ofBytes l)) = true := by
  show PV.closed (11 + 1) _ = true
  unfold PV.closed
  exact closed_ofBytes 10 l
theorem keys_ofBytes (st : St) (l : List UInt8) : keysL st (ofBytes l) = [] := keysL_flat (flat_ofBytes l)
theorem call_own {g : List PV → Option PV} {st : St} {key k : Nat} {l l' : List UInt8} {rest : List PV} (hk : st.get k = some (.cells (ofBytes l) false)) (hr : rest.all PV.flat = true) (hg : g (.osl 1 l.length (ofBytes l) :: rest) = some (.osl 1 l'.length (ofBytes l'))) :
    callStep g true st key (.rsl k 1 0 l.length :: rest) = some (.rsl key 1 0 l'.length, (st.put k none).put key (some (.cells (ofBytes l') false))) := by
  unfold callStep
  simp only [hk, len_ofBytes, keys_ofBytes, keysL_flat hr, deepL_flat (flat_ofBytes l), deepL_flat hr, hg, closed_osl, if_true]
  rw [if_pos ⟨trivial, by omega, by omega, rfl⟩]
  rfl
theorem call_nil {g : List PV → Option PV} {st : St} {key : Nat} {l' : List UInt8} {own : Bool} {rest : List PV} (hr : rest.all PV.flat = true) (hg : g (.nsl :: rest) = some (.osl 1 l'.length (ofBytes l'))) :
    callStep g own st key (.nsl :: rest) = some (.rsl key 1 0 l'.length, st.put key (some (.cells (ofBytes l') false))) := by
  have hf : (PV.nsl :: rest).all PV.flat = true := by simp only [List.all_cons, hr, Bool.and_true]; rfl
  unfold callStep
  cases own <;> simp only [deepL_flat hf, hg, closed_osl, if_true, recvRes]
theorem close_bytes {st : St} {k : Nat} {l : List UInt8} (hk : st.get k = some (.cells (ofBytes l) false)) : closeRes st (.rsl k 1 0 l.length) = some (.osl 1 l.length (ofBytes l)) := by
  have hw : whole? st (.rsl k 1 0 l.length) = some (k, 1, l.length, ofBytes l) := by
    unfold whole?
    simp only [hk, len_ofBytes]
    rw [if_pos ⟨trivial, by omega, by omega⟩]
  unfold closeRes
  simp only [hw, keys_ofBytes, deepL_flat (flat_ofBytes l)]
  rfl
theorem set_ofBytes {l : List UInt8} {i : Nat} (h : i < l.length) (c : UInt8) : (ofBytes l).take i ++ [.i .u8 (c.toNat : Int)] ++ (ofBytes l).drop (i + 1) = ofBytes (l.set i c) := by
  have e : ([.i .u8 (c.toNat : Int)] : List PV) = ofBytes [c] := rfl
  rw [take_ofBytes, drop_ofBytes, e, append_ofBytes, append_ofBytes, List.set_eq_take_append_cons_drop, if_pos h]
  simp
theorem store_byte {st : St} {k : Nat} {l : List UInt8} (hk : st.get k = some (.cells (ofBytes l) false)) {i : Nat} (h : i < l.length) (c : UInt8) : storeP st 1 (.ptr k (0 + i * 1)) (.i .u8 (c.toNat : Int)) = some (st.put k (some (.cells (ofBytes (l.set i c)) false))) := by
  unfold storeP
  simp only [hk, Z0O_]
  rw [if_pos ⟨rfl, by rw [len_ofBytes]; omega, rfl⟩]
  have e := set_ofBytes h c
  simp only [Nat.zero_add, Nat.mul_one]
  rw [e]
end Go.Pe
