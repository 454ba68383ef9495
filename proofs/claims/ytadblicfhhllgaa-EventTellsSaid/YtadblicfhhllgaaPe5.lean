/-
 Bytes among plain data: slices of bytes handed in and out. No condition; nothing of the program.
-/
import Derived.Test.YtadblicfhhllgaaPe4
set_option linter.unusedVariables false
set_option linter.unusedSimpArgs false
namespace Go.Pe
open Go

theorem Nbi (l : List UInt8) : bytesOf? (Nab l) = some l := by
 induction l with
 | nil => rfl
 | cons c r ih =>
   have hc := c.toNat_lt
   have e : Nab (c :: r) = .i .u8 (c.toNat : Int) :: Nab r := rfl
   rw [e]
   unfold bytesOf?
   rw [if_pos (by omega), ih]
   simp
theorem NcR : ∀ {cs : List PV} {l : List UInt8}, bytesOf? cs = some l → cs = Nab l := by
 intro cs
 induction cs with
 | nil =>
   intro l h
   unfold bytesOf? at h
   simp only [Option.some.injEq] at h
   subst h; rfl
 | cons p r ih =>
   intro l h
   unfold bytesOf? at h
   split at h
   ·simp_all
   ·rename_i n r' heq
    injection heq with h1 h2
    subst h1; subst h2
    split at h
    ·rename_i hn
     simp only [Option.map_eq_some_iff] at h
     obtain ⟨m, hm, rfl⟩ := h
     rw [ih hm]
     show _ = PV.i .u8 ((UInt8.ofNat n.toNat).toNat : Int) :: Nab m
     rw [UInt8.toNat_ofNat']
     congr 2
     omega
    ·simp at h
   ·simp at h
theorem Nah (l : List UInt8) : (Nab l).length = l.length := by simp [Nab]
theorem NaN (l m : List UInt8) : Nab l ++ Nab m = Nab (l ++ m) := by simp [Nab]
theorem NaO (l : List UInt8) (n : Nat) : (Nab l).take n = Nab (l.take n) := by simp [Nab, List.map_take]
theorem NbE (l : List UInt8) (n : Nat) : (Nab l).drop n = Nab (l.drop n) := by simp [Nab, List.map_drop]
theorem Nbs (l : List UInt8) : (Nab l).all PV.one = true := by
 rw [List.all_eq_true]
 intro p hp
 simp only [Nab, List.mem_map] at hp
 obtain ⟨c, _, rfl⟩ := hp
 rfl
theorem Nbq (l : List UInt8) : (Nab l).all PV.flat = true := by
 rw [List.all_eq_true]
 intro p hp
 simp only [Nab, List.mem_map] at hp
 obtain ⟨c, _, rfl⟩ := hp
 rfl
theorem Nc4 (f : Nat) (l : List UInt8) : (Nab l).all (PV.closed (f + 1)) = true := by
 rw [List.all_eq_true]
 intro p hp
 simp only [Nab, List.mem_map] at hp
 obtain ⟨c, _, rfl⟩ := hp
 rfl
theorem Ndz (st : St) (f : Nat) (l : List UInt8) : mapO (deep st (f + 1)) (Nab l) = some (Nab l) := by
 induction l with
 | nil => rfl
 | cons c r ih =>
   have e : Nab (c :: r) = .i .u8 (c.toNat : Int) :: Nab r := rfl
   rw [e]
   have ed : deep st (f + 1) (.i .u8 (c.toNat : Int)) = some (.i .u8 (c.toNat : Int)) := by unfold deep; rfl
   simp only [mapO, ih, ed]
theorem NiQ {st : St} {k : Nat} {fz : Bool} {m : List UInt8} (hk : st.get k = some (.cells (Nab m) fz)) {off n : Nat} (h : off + n ≤ m.length) : deep st Nco (.rsl k 1 off n) = some (.fsl n (Nab ((m.drop off).take n))) := by
 show deep st (11 + 1) _ = _
 unfold deep
 simp only [hk, cut?, Nah, Nat.mul_one]
 rw [if_pos h, NbE, NaO]
 simp only []
 rw [Ndz]
 rfl
theorem Nhq {st : St} {k : Nat} {fz : Bool} {m : List UInt8} (hk : st.get k = some (.cells (Nab m) fz)) : deep st Nco (.rsl k 1 0 m.length) = some (.fsl m.length (Nab m)) := by
 rw [NiQ hk (by omega)]; simp
theorem Na2 (n : Nat) (l : List UInt8) : PV.closedB (.osl 1 n (Nab l)) = true := by
 show PV.closed (11 + 1) _ = true
 unfold PV.closed
 exact Nc4 10 l
theorem NbP (st : St) (l : List UInt8) : keysL st (Nab l) = [] := NbJ (Nbq l)
theorem NkM {g : List PV → Option PV} {st : St} {key k : Nat} {l l' : List UInt8} {rest : List PV} (hk : st.get k = some (.cells (Nab l) false)) (hr : rest.all PV.flat = true) (hg : g (.osl 1 l.length (Nab l) :: rest) = some (.osl 1 l'.length (Nab l'))) :
 Nae g true st key (.rsl k 1 0 l.length :: rest) = some (.rsl key 1 0 l'.length, (st.put k none).put key (some (.cells (Nab l') false))) := by
 unfold Nae
 simp only [hk, Nah, NbP, NbJ hr, NaA (Nbq l), NaA hr, hg, Na2, if_true]
 rw [if_pos ⟨trivial, by omega, by omega, rfl⟩]
 rfl
theorem Nfu {g : List PV → Option PV} {st : St} {key : Nat} {l' : List UInt8} {own : Bool} {rest : List PV} (hr : rest.all PV.flat = true) (hg : g (.nsl :: rest) = some (.osl 1 l'.length (Nab l'))) :
 Nae g own st key (.nsl :: rest) = some (.rsl key 1 0 l'.length, st.put key (some (.cells (Nab l') false))) := by
 have hf : (PV.nsl :: rest).all PV.flat = true := by simp only [List.all_cons, hr, Bool.and_true]; rfl
 unfold Nae
 cases own <;> simp only [NaA hf, hg, Na2, if_true, Nau]
theorem NaK {st : St} {k : Nat} {l : List UInt8} (hk : st.get k = some (.cells (Nab l) false)) : Nav st (.rsl k 1 0 l.length) = some (.osl 1 l.length (Nab l)) := by
 have hw : NcL? st (.rsl k 1 0 l.length) = some (k, 1, l.length, Nab l) := by
  unfold NcL?
  simp only [hk, Nah]
  rw [if_pos ⟨trivial, by omega, by omega⟩]
 unfold Nav
 simp only [hw, NbP, NaA (Nbq l)]
 rfl
theorem Nhz {l : List UInt8} {i : Nat} (h : i < l.length) (c : UInt8) : (Nab l).take i ++ [.i .u8 (c.toNat : Int)] ++ (Nab l).drop (i + 1) = Nab (l.set i c) := by
 have e : ([.i .u8 (c.toNat : Int)] : List PV) = Nab [c] := rfl
 rw [NaO, NbE, e, NaN, NaN, List.set_eq_take_append_cons_drop, if_pos h]
 simp
theorem NcU {st : St} {k : Nat} {l : List UInt8} (hk : st.get k = some (.cells (Nab l) false)) {i : Nat} (h : i < l.length) (c : UInt8) : NaZ st 1 (.ptr k (0 + i * 1)) (.i .u8 (c.toNat : Int)) = some (st.put k (some (.cells (Nab (l.set i c)) false))) := by
 unfold NaZ
 simp only [hk, Nl3]
 rw [if_pos ⟨rfl, by rw [Nah]; omega, rfl⟩]
 have e := Nhz h c
 simp only [Nat.zero_add, Nat.mul_one]
 rw [e]
end Go.Pe
