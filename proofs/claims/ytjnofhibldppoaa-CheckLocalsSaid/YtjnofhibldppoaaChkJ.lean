/-
 CheckLocals: the law, by the interpreter of plain data. No condition.
-/
import Derived.Test.YtjnofhibldppoaaChkI1
import Derived.Test.YtjnofhibldppoaaChkI2
import Derived.Test.YtjnofhibldppoaaChkI3
import Derived.Test.YtjnofhibldppoaaChkI4
set_option linter.unusedVariables false
set_option linter.unusedSimpArgs false
set_option maxHeartbeats 4000000
namespace Go.Pe
open Go Go.Am Go.RowKit

theorem NjZ {p q : Int} {m n : Nat} (hm : m < 11) (hn : n < 11) : Ncq p q m n = lK3v := by
 have key : ∀ {k : Nat} {l : List Nat}, n ∈ l → l.map (Ncq p q k) = l.map (fun _ => lK3v) → Ncq p q k n = lK3v := fun h e => List.map_inj_left.1 e n h
 have hs : n ∈ [0, 1, 2, 3, 4, 5] ∨ n ∈ [6, 7, 8, 9, 10] := by
  simp only [List.mem_cons, List.not_mem_nil, or_false]
  omega
 have h : m = 0 ∨ m = 1 ∨ m = 2 ∨ m = 3 ∨ m = 4 ∨ m = 5 ∨ m = 6 ∨ m = 7 ∨ m = 8 ∨ m = 9 ∨ m = 10 := by omega
 rcases h with rfl | rfl | rfl | rfl | rfl | rfl | rfl | rfl | rfl | rfl | rfl
 ·rcases hs with hs | hs
  ·exact key hs (Nja p q)
  ·exact key hs (NiR p q)
 ·rcases hs with hs | hs
  ·exact key hs (Njb p q)
  ·exact key hs (Nh3 p q)
 ·rcases hs with hs | hs
  ·exact key hs (NiZ p q)
  ·exact key hs (Nic p q)
 ·rcases hs with hs | hs
  ·exact key hs (Ni9 p q)
  ·exact key hs (NiF p q)
 ·rcases hs with hs | hs
  ·exact key hs (NiD p q)
  ·exact key hs (NiT p q)
 ·rcases hs with hs | hs
  ·exact key hs (Niq p q)
  ·exact key hs (Ni0 p q)
 ·rcases hs with hs | hs
  ·exact key hs (NiE p q)
  ·exact key hs (Nh6 p q)
 ·rcases hs with hs | hs
  ·exact key hs (Nh8 p q)
  ·exact key hs (NiQ p q)
 ·rcases hs with hs | hs
  ·exact key hs (Nix p q)
  ·exact key hs (Nim p q)
 ·rcases hs with hs | hs
  ·exact key hs (Nip p q)
  ·exact key hs (NhW p q)
 ·rcases hs with hs | hs
  ·exact key hs (Nhe p q)
  ·exact key hs (NgZ p q)
theorem NaT {a b : MCode} {x y : Now} (h : Naf cfgL6c (Nas cfgL6c 300) 301 (.seq a b) x = some (.nrm, y)) : ∃ z, Naf cfgL6c (Nas cfgL6c 300) 301 a x = some (.nrm, z) ∧ Naf cfgL6c (Nas cfgL6c 300) 301 b z = some (.nrm, y) := by
 simp only [Naf] at h
 cases ha : Naf cfgL6c (Nas cfgL6c 300) 301 a x with
 | none => rw [ha] at h; simp at h
 | some r =>
   obtain ⟨e', z⟩ := r
   rw [ha] at h
   cases e' with
   | nrm => exact ⟨z, rfl, h⟩
   | ex id => simp at h
   | ret => simp at h
theorem M27 {x : Now} {p : Nat} (g7 : x.env.get 7 = .i .u8 (p : Int)) (hp : p < 256) : Naf cfgL6c (Nas cfgL6c 300) 301 NgH x = some (.nrm, NfP x (p % 11)) := by
 have h : WC cfgL6c (Nas cfgL6c 300) 301 NgH x fun e x' => e = .nrm ∧ x' = NfP x (p % 11) := by
  obtain ⟨env, ⟨sto, c⟩⟩ := x
  simp only at g7
  have h11 : (((11 : Nat) : Int) = 0) = False := by simp
  unfold NgH NfP
  (try rw [Z0])
  (try simp (maxSteps := 2000000) (disch := first | omega | rfl | assumption) only [↓Xp, ↓Xt, Xq, Xc, Nae, Naa, Nat.reduceAdd, Nat.reduceMul, Nat.reduceLT, Nat.reduceEqDiff, reduceIte, Xa, Xn, unP, Nad, Nab, Nac, Xm, Nat.reduceLeDiff, List.nil_append, List.cons_append, g7, h11])
 obtain ⟨e, x', h1, rfl, rfl⟩ := h
 exact h1
theorem NcI {a b : MCode} {x y : Now} (h : Naf cfgL6c (Nas cfgL6c 300) 301 a x = some (.nrm, y)) : Naf cfgL6c (Nas cfgL6c 300) 301 (.seq a b) x = Naf cfgL6c (Nas cfgL6c 300) 301 b y := by
 simp only [Naf, h]
theorem NiN {x : Now} : Naf cfgL6c (Nas cfgL6c 300) 301 Ni2 x = match x.env.get 16 with
 | .b y => if y then some (.nrm, x) else some (.ex 0, x)
 | _ => none := by
 show Naf cfgL6c (Nas cfgL6c 300) 301 (.cond (.t 16) .skip (.exit 0)) x = _
 simp only [Naf, Loc.rd]
 generalize x.env.get 16 = v
 cases v <;> rfl
theorem Neq {b : MCode} {f : Nat} {x y : Now} (h : Naf cfgL6c (Nas cfgL6c 300) 301 b x = some (.nrm, y)) : Nbf (Naf cfgL6c (Nas cfgL6c 300) 301 b) (f + 1) x = Nbf (Naf cfgL6c (Nas cfgL6c 300) 301 b) f y := by
 rw [Nbf, h]
theorem Nhr {b : MCode} {f id : Nat} {x y : Now} (h : Naf cfgL6c (Nas cfgL6c 300) 301 b x = some (.ex id, y)) : Nbf (Naf cfgL6c (Nas cfgL6c 300) 301 b) (f + 1) x = some (.ex id, y) := by
 rw [Nbf, h]
noncomputable def NeY : MCode := .seq Njd (.seq Ni2 (.seq (.block 1 (.seq Nih (.seq Nh2 (.seq (.seq NgH lB2) NiS)))) NjD))
theorem Nfk {x z4 z5 z6 z7 w0 w1 w2 w3 : Now} (h16 : Naf cfgL6c (Nas cfgL6c 300) 301 Njd x = some (.nrm, z4)) (hc : Naf cfgL6c (Nas cfgL6c 300) 301 Ni2 z4 = some (.nrm, z5)) (h17 : Naf cfgL6c (Nas cfgL6c 300) 301 Nih z5 = some (.nrm, z6)) (h20 : Naf cfgL6c (Nas cfgL6c 300) 301 Nh2 z6 = some (.nrm, z7)) (h27 : Naf cfgL6c (Nas cfgL6c 300) 301 NgH z7 = some (.nrm, w0)) (hb2 : Naf cfgL6c (Nas cfgL6c 300) 301 lB2 w0 = some (.nrm, w1)) (h53 : Naf cfgL6c (Nas cfgL6c 300) 301 NiS w1 = some (.nrm, w2)) (h57 : Naf cfgL6c (Nas cfgL6c 300) 301 NjD w2 = some (.nrm, w3)) : Naf cfgL6c (Nas cfgL6c 300) 301 NeY x = some (.nrm, w3) := by
 have hblk : Naf cfgL6c (Nas cfgL6c 300) 301 (.block 1 (.seq Nih (.seq Nh2 (.seq (.seq NgH lB2) NiS)))) z5 = some (.nrm, w2) := by
  have : Naf cfgL6c (Nas cfgL6c 300) 301 (.seq Nih (.seq Nh2 (.seq (.seq NgH lB2) NiS))) z5 = some (.nrm, w2) := by
   rw [NcI h17, NcI h20, NcI (y := w1) (by rw [NcI h27]; exact hb2), h53]
  simp only [Naf] at this ⊢
  rw [this]
 unfold NeY
 rw [NcI h16, NcI hc, NcI hblk, h57]
theorem NfJ {p q : Nat} (hp : p < 256) (hq : q < 256) : ∃ y, Naf cfgL6c (Nas cfgL6c 300) 301 lM (lx0 p q) = some (.ret, y) ∧ y.env.get 4 = .b true := by
 obtain ⟨k1, g1⟩ := NeN (f := fun y => y.env.get 7) (lK1 p q)
 have hk2 : (Nbo lP2 cfgL6c (fFn cfgL6c 300) 301 (NfP (lx2 p q) (p % 11))).map (fun r => (Nfz r.1, r.2.env.get 7)) = some (true, .i .u8 (q : Int)) := List.map_inj_left.1 (lK2 p q) (p % 11) (List.mem_range.2 (by omega))
 obtain ⟨k2, g2⟩ := NeN (f := fun y => y.env.get 7) hk2
 have hk3 := NjZ (p := p) (q := q) (m := p % 11) (n := q % 11) (by omega) (by omega)
 unfold Ncq lK3v at hk3
 obtain ⟨k3, g3⟩ := NeN (f := NkA) hk3
 obtain ⟨y3, hy3⟩ : ∃ y, Njc lP3 (NfP (lx7 p q (p % 11)) (q % 11)) = y := ⟨_, rfl⟩
 rw [hy3] at k3 g3
 unfold NkA at g3
 simp only [Pj] at g3
 obtain ⟨g16, gre⟩ := g3
 obtain ⟨y, hre, g4⟩ := NiJ gre
 refine ⟨y, ?_, g4⟩
 have m1 := M27 g1 hp
 have m2 := M27 g2 hq
 change Naf _ _ _ NgH (lx2 p q) = some (.nrm, NfP (lx2 p q) (p % 11)) at m1
 change Naf _ _ _ NgH (lx7 p q (p % 11)) = some (.nrm, NfP (lx7 p q (p % 11)) (q % 11)) at m2
 change Naf _ _ _ lP1 (lx0 p q) = some (.nrm, lx2 p q) at k1
 change Naf _ _ _ lP2 (NfP (lx2 p q) (p % 11)) = some (.nrm, lx7 p q (p % 11)) at k2
 unfold lP1 at k1
 unfold lP2 at k2
 unfold lP3 at k3
 obtain ⟨a1, h1, k1⟩ := NaT k1
 obtain ⟨a2, h2, k1⟩ := NaT k1
 obtain ⟨a3, h3, k1⟩ := NaT k1
 obtain ⟨a4, h4, k1⟩ := NaT k1
 obtain ⟨a5, h5, k1⟩ := NaT k1
 obtain ⟨a6, h6, h7⟩ := NaT k1
 obtain ⟨b1, i1, k2⟩ := NaT k2
 obtain ⟨b2, i2, k2⟩ := NaT k2
 obtain ⟨b3, i3, k2⟩ := NaT k2
 obtain ⟨b4, i4, k2⟩ := NaT k2
 obtain ⟨b5, i5, k2⟩ := NaT k2
 obtain ⟨b6, i6, i7⟩ := NaT k2
 obtain ⟨c1, j1, k3⟩ := NaT k3
 obtain ⟨c2, j2, k3⟩ := NaT k3
 obtain ⟨c3, j3, j4⟩ := NaT k3
 have r1 := Nfk h4 h5 h6 h7 m1 i1 i2 i3
 have r2 := Nfk i4 i5 i6 i7 m2 j1 j2 j3
 have r3 : Naf cfgL6c (Nas cfgL6c 300) 301 NeY c3 = some (.ex 0, y3) := by
  unfold NeY
  rw [NcI j4]
  have : Naf cfgL6c (Nas cfgL6c 300) 301 Ni2 y3 = some (.ex 0, y3) := by
   rw [NiN, g16]
   rfl
  simp only [Naf, this]
 have hl : Naf cfgL6c (Nas cfgL6c 300) 301 (.block 0 (.loop NeY)) a3 = some (.nrm, y3) := by
  have e : Nbf (Naf cfgL6c (Nas cfgL6c 300) 301 NeY) 301 a3 = some (.ex 0, y3) := by
   rw [show 301 = 300 + 1 from rfl, Neq r1, show 300 = 299 + 1 from rfl, Neq r2, show 299 = 298 + 1 from rfl, Nhr r3]
  unfold Naf Naf
  rw [e]
  rfl
 rw [NkU, NcI h1, NcI h2]
 have hl2 : Naf cfgL6c (Nas cfgL6c 300) 301 (.seq lRi (.block 0 (.loop NeY))) a2 = some (.nrm, y3) := by rw [NcI h3, hl]
 exact (NcI hl2).trans hre
theorem NfX {one two : Int} (h1 : 0 ≤ one ∧ one < 256) (h2 : 0 ≤ two ∧ two < 256) : ∃ fuel, evP cfgL6c fuel 6 [.i .u8 one, .i .u8 two] = some (.b true) := by
 refine ⟨300 + 1, NgG rfl rfl (fun _ => rfl) (NaA (by kernel_rfl : cfgL6c.fn 6 = some m6) ?_)⟩
 obtain ⟨p, rfl⟩ : ∃ p : Nat, one = p := ⟨one.toNat, by omega⟩
 obtain ⟨q, rfl⟩ : ∃ q : Nat, two = q := ⟨two.toNat, by omega⟩
 obtain ⟨y, hy, g4⟩ := NfJ (p := p) (q := q) (by omega) (by omega)
 refine ⟨.ret, y, hy, nofun, [.b true], ?_, rfl⟩
 show mapO (Nea y) [.t 4] = _
 simp only [mapO, Nea, g4]
theorem NfD (one : Int) (h1 : (Lit.int .u8 one).wf = true) (two : Int) (h2 : (Lit.int .u8 two).wf = true) : ∃ fuel, evP cfgL6c fuel 6 [.i .u8 one, .i .u8 two] = some (.b true) := by
 refine NfX ?_ ?_
 ·simp [Lit.wf, IntKind.min, IntKind.max, IntKind.signed, IntKind.bits] at h1
  omega
 ·simp [Lit.wf, IntKind.min, IntKind.max, IntKind.signed, IntKind.bits] at h2
  omega
end Go.Pe
