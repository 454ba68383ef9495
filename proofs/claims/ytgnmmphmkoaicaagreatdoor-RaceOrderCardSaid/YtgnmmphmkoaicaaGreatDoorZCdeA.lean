/-
 Code as plain data: instructions, threads' texts, code; its cells; opened out of arguments; events. No condition; nothing of the program.
-/
import Derived.Test.YtgnmmphmkoaicaaGreatDoorZPrgB
set_option linter.unusedVariables false
set_option linter.unusedSimpArgs false
namespace Go.Pe
open Go Go.RowKit

def dcSh : Sh := .st (.cons (.i .u8) (.cons .s (.cons (.i .i64) (.cons .s (.cons (.i .i64) .nil)))))
def Dc.wf (d : Dc) : Prop := (Lit.int .i64 d.N).wf = true ∧ (Lit.int .i64 d.R).wf = true ∧ d.S.length ≤ reachBytes ∧ d.O.length ≤ reachBytes
def Td.wf (t : Td) : Prop := (Lit.int .i64 t.R).wf = true ∧ t.S.length ≤ reachBytes ∧ t.B.length ≤ reachBytes ∧ Sms.wf t.B
def Pg.wf (p : Pg) : Prop := p.D.length ≤ reachBytes ∧ p.T.length ≤ reachBytes ∧ (∀ d ∈ p.D, d.wf) ∧ ∀ t ∈ p.T, t.wf
theorem NnU : ∀ (cs : List PV), dcSh.Is cs → ∃ e : Dc, cs = e.cs ∧ e.wf := by
 intro cs h
 simp only [dcSh] at h
 obtain ⟨h1, h2, h3, h4, h5, h6⟩ := h
 simp only [Sh.width] at h1 h2 h3 h4 h5 h6
 obtain ⟨k, e1⟩ := Nid h1
 obtain ⟨s, e2, w2⟩ := Nng h2
 obtain ⟨n, e3, w3⟩ := NbJ h3
 obtain ⟨o, e4, w4⟩ := Nng h4
 obtain ⟨r, e5, w5⟩ := NbJ h5
 refine ⟨⟨k, s, n, o, r⟩, ?_, w3, w5, w2, w4⟩
 simp only [Sh.Is] at h6
 unfold Dc.cs
 rw [e1, e2, e3, e4, e5, h6]
section
variable {P : Program}
theorem NkZ {tD tK tS tN tI : TypeId} {fs : Array Field} (hD : P.underlying tD = some (.struct fs)) (hfs : (fs.toList.map fun f => (f.type, f.offset)) = [(tK, 0), (tS, 1), (tN, 2), (tS, 3), (tI, 4)])
 (hK : P.underlying tK = some (.int .u8)) (hS : P.underlying tS = some .string) (hN : P.underlying tN = some (.int .i64)) (hI : P.underlying tI = some (.int .i64)) (cD : P.cellsOf tD = 5) (cK : P.cellsOf tK = 1) (cS : P.cellsOf tS = 1) (cN : P.cellsOf tN = 1) (cI : P.cellsOf tI = 1) : dcSh.fits P (.inl tD) = true := by
 simp [dcSh, Sh.fits, hD, hfs, hK, hS, hN, hI, cD, cK, cS, cN, cI, Sh.width]
end
end Go.Pe
namespace Go.Pe
open Go Go.RowKit

structure In where
 D : UInt8
 O : UInt8
 J : Int
 I : Int
 T : Int
 N : Int
 z : Bool
 A : List Ex
def In.cs (x : In) : List PV := [.i .u8 (x.D.toNat : Int), .i .u8 (x.O.toNat : Int), .i .i64 x.J, .i .i64 x.I, .i .i64 x.T, .i .i64 x.N, slV x.z x.A.length (Exs.cs x.A)]
structure Tx where
 S : List UInt8
 zl : Bool
 L : List (List UInt8)
 zc : Bool
 C : List In
def Tx.cs (t : Tx) : List PV := [.s t.S, slV t.zl t.L.length (t.L.flatMap fun s => [.s s]), slV t.zc t.C.length (t.C.flatMap In.cs)]
structure Cd where
 zo : Bool
 O : List Dc
 zt : Bool
 T : List Tx
def Cd.cs (c : Cd) : List PV := [slV c.zo c.O.length (c.O.flatMap Dc.cs), slV c.zt c.T.length (c.T.flatMap Tx.cs)]
structure Et where
 T : Int
 O : UInt8
 J : Int
 A : Int
 B : Int
def Et.cs (e : Et) : List PV := [.i .i64 e.T, .i .u8 (e.O.toNat : Int), .i .i64 e.J, .i .i64 e.A, .i .i64 e.B]
theorem In.cs_len (e : In) : e.cs.length = 7 := rfl
theorem Tx.cs_len (e : Tx) : e.cs.length = 3 := rfl
theorem Et.cs_len (e : Et) : e.cs.length = 5 := rfl
theorem Nlu {st : St} {l : List In} {i : Nat} (h : i < l.length) : Na6 st 7 (.fptr ((l.flatMap In.cs).drop (i * 7))) = some [.i .u8 (l[i].D.toNat : Int), .i .u8 (l[i].O.toNat : Int), .i .i64 l[i].J, .i .i64 l[i].I, .i .i64 l[i].T, .i .i64 l[i].N, slV l[i].z l[i].A.length (Exs.cs l[i].A)] := NbD In.cs_len h
theorem Nik {st : St} {l : List Tx} {i : Nat} (h : i < l.length) : Na6 st 3 (.fptr ((l.flatMap Tx.cs).drop (i * 3))) = some [.s l[i].S, slV l[i].zl l[i].L.length (l[i].L.flatMap fun s => [.s s]), slV l[i].zc l[i].C.length (l[i].C.flatMap In.cs)] := NbD Tx.cs_len h
theorem Ngb {st : St} {l : List Et} {i : Nat} (h : i < l.length) : Na6 st 5 (.fptr ((l.flatMap Et.cs).drop (i * 5))) = some [.i .i64 l[i].T, .i .u8 (l[i].O.toNat : Int), .i .i64 l[i].J, .i .i64 l[i].A, .i .i64 l[i].B] := NbD Et.cs_len h
def NhB (n : Nat) : Sh := .st (.cons (.i .u8) (.cons (.i .u8) (.cons (.i .i64) (.cons (.i .i64) (.cons (.i .i64) (.cons (.i .i64) (.cons (.sl (Neh n)) .nil)))))))
def NhC (n : Nat) : Sh := .st (.cons .s (.cons (.sl .s) (.cons (.sl (NhB n)) .nil)))
def NhN (n : Nat) : Sh := .st (.cons (.sl dcSh) (.cons (.sl (NhC n)) .nil))
def etSh : Sh := .st (.cons (.i .i64) (.cons (.i .u8) (.cons (.i .i64) (.cons (.i .i64) (.cons (.i .i64) .nil)))))
theorem Nks (n : Nat) : (NhB n).width = 7 := rfl
theorem NkH (n : Nat) : (NhC n).width = 3 := rfl
theorem Nl6 (n : Nat) : (NhN n).width = 2 := rfl
theorem NjK (n : Nat) : ∀ f, f ≤ n → (NhB n).dep f
 | 0, _ => by simp [NhB, Sh.dep]
 | 1, _ => by simp [NhB, Sh.dep]
 | f + 2, h => by
   simp only [NhB, Sh.dep, true_and, and_true]
   exact NgH n f Zaa
theorem Nkh (n : Nat) : ∀ f, f ≤ n → (NhC n).dep f
 | 0, _ => by simp [NhC, Sh.dep]
 | 1, _ => by simp [NhC, Sh.dep]
 | f + 2, h => by
   simp only [NhC, Sh.dep, true_and, and_true]
   exact NjK n f Zaa
theorem Ni9 (n : Nat) : ∀ f, f ≤ n → (NhN n).dep f
 | 0, _ => by simp [NhN, Sh.dep]
 | 1, _ => by simp [NhN, Sh.dep]
 | f + 2, h => by
   simp only [NhN, Sh.dep, and_true]
   exact ⟨Sh.dep_flat rfl f, Nkh n f Zaa⟩
def In.wf (x : In) : Prop := x.A.length * 56 ≤ reachBytes ∧ (Lit.int .i64 x.J).wf = true ∧ (Lit.int .i64 x.I).wf = true ∧ (Lit.int .i64 x.T).wf = true ∧ (Lit.int .i64 x.N).wf = true ∧ x.A.length ≤ reachBytes ∧ Exs.wf x.A
def Tx.wf (t : Tx) : Prop := t.S.length ≤ reachBytes ∧ t.L.length ≤ reachBytes ∧ t.C.length ≤ reachBytes ∧ (∀ s ∈ t.L, s.length ≤ reachBytes) ∧ ∀ x ∈ t.C, x.wf
def Cd.wf (c : Cd) : Prop := c.O.length ≤ reachBytes ∧ c.T.length ≤ reachBytes ∧ (∀ d ∈ c.O, d.wf) ∧ ∀ t ∈ c.T, t.wf
def Et.wf (e : Et) : Prop := (Lit.int .i64 e.T).wf = true ∧ (Lit.int .i64 e.J).wf = true ∧ (Lit.int .i64 e.A).wf = true ∧ (Lit.int .i64 e.B).wf = true
theorem NnW (n : Nat) : ∀ (cs : List PV), (NhB n).Is cs → ∃ e : In, cs = e.cs ∧ e.wf := by
 intro cs h
 simp only [NhB] at h
 obtain ⟨h1, h2, h3, h4, h5, h6, h7, h8⟩ := h
 simp only [Sh.width] at h1 h2 h3 h4 h5 h6 h7 h8
 obtain ⟨d, e1⟩ := Nid h1
 obtain ⟨o, e2⟩ := Nid h2
 obtain ⟨j, e3, w3⟩ := NbJ h3
 obtain ⟨i, e4, w4⟩ := NbJ h4
 obtain ⟨t, e5, w5⟩ := NbJ h5
 obtain ⟨m, e6, w6⟩ := NbJ h6
 obtain ⟨l, e7, w7b, v7⟩ := NgO (NgJ n) (Nmy n) h7
 have w8 : l.length * 56 ≤ reachBytes := by
  cases n with
  | zero =>
    have : l = [] := by
     cases l with
     | nil => rfl
     | cons a r =>
       obtain ⟨n', ps, q1, q2, q3, q4⟩ := h7
       rw [e7] at q1
       simp only [List.take_succ_cons, List.take_zero, List.cons.injEq, PV.fsl.injEq, and_true] at q1
       exact absurd (q4 0 (by rw [← q1.1]; simp)) (by simp [Neh, Sh.Is])
    rw [this]; simp
  | succ n => exact w7b
 have w7 : l.length ≤ reachBytes := Nat.le_trans (Nat.le_mul_of_pos_right _ Zaa) w8
 refine ⟨⟨d, o, j, i, t, m, false, l⟩, ?_, w8, w3, w4, w5, w6, w7, Exs.wf_of v7⟩
 simp only [Sh.Is] at h8
 unfold In.cs
 rw [e1, e2, e3, e4, e5, e6, e7, h8, ← Exs.flat]
 rfl
theorem NnX {cs : List PV} (h : Sh.s.Is cs) : ∃ s : List UInt8, cs = [.s s] ∧ s.length ≤ reachBytes := by
 obtain ⟨n, h1, h2⟩ := h
 exact ⟨n, h1, h2⟩
theorem NnY (n : Nat) : ∀ (cs : List PV), (NhC n).Is cs → ∃ e : Tx, cs = e.cs ∧ e.wf := by
 intro cs h
 simp only [NhC] at h
 obtain ⟨h1, h2, h3, h4⟩ := h
 simp only [Sh.width] at h1 h2 h3 h4
 obtain ⟨s, e1, w1⟩ := Nng h1
 obtain ⟨l, e2, w2, v2⟩ := NdR (show Sh.s.width = 1 from rfl) (fun qs hq => NnX hq) h2
 obtain ⟨c, e3, w3, v3⟩ := NdR (Nks n) (NnW n) h3
 refine ⟨⟨s, false, l, false, c⟩, ?_, w1, w2, w3, v2, v3⟩
 simp only [Sh.Is] at h4
 unfold Tx.cs
 rw [e1, e2, e3, h4]
 rfl
theorem NnT (n : Nat) : ∀ (cs : List PV), (NhN n).Is cs → ∃ c : Cd, cs = c.cs ∧ c.wf := by
 intro cs h
 simp only [NhN] at h
 obtain ⟨h1, h2, h3⟩ := h
 simp only [Sh.width] at h1 h2 h3
 obtain ⟨d, e1, w1, v1⟩ := NdR (show dcSh.width = 5 from rfl) NnU h1
 obtain ⟨t, e2, w2, v2⟩ := NdR (NkH n) (NnY n) h2
 refine ⟨⟨false, d, false, t⟩, ?_, w1, w2, v1, v2⟩
 simp only [Sh.Is] at h3
 unfold Cd.cs
 rw [e1, e2, h3]
 rfl
theorem NnV : ∀ (cs : List PV), etSh.Is cs → ∃ e : Et, cs = e.cs ∧ e.wf := by
 intro cs h
 simp only [etSh] at h
 obtain ⟨h1, h2, h3, h4, h5, h6⟩ := h
 simp only [Sh.width] at h1 h2 h3 h4 h5 h6
 obtain ⟨t, e1, w1⟩ := NbJ h1
 obtain ⟨o, e2⟩ := Nid h2
 obtain ⟨j, e3, w3⟩ := NbJ h3
 obtain ⟨a, e4, w4⟩ := NbJ h4
 obtain ⟨b, e5, w5⟩ := NbJ h5
 refine ⟨⟨t, o, j, a, b⟩, ?_, w1, w3, w4, w5⟩
 simp only [Sh.Is] at h6
 unfold Et.cs
 rw [e1, e2, e3, e4, e5, h6]
section
variable {P : Program}
theorem Nln {tI tD tO tJ tN tL tE : TypeId} {fs : Array Field} (hI : P.underlying tI = some (.struct fs)) (hfs : (fs.toList.map fun f => (f.type, f.offset)) = [(tD, 0), (tO, 1), (tJ, 2), (tJ, 3), (tJ, 4), (tN, 5), (tL, 6)])
 (hD : P.underlying tD = some (.int .u8)) (hO : P.underlying tO = some (.int .u8)) (hJ : P.underlying tJ = some (.int .i64)) (hN : P.underlying tN = some (.int .i64)) (hL : P.underlying tL = some (.slice tE))
 (cI : P.cellsOf tI = 7) (cE : P.cellsOf tE = 4) (cD : P.cellsOf tD = 1) (cO : P.cellsOf tO = 1) (cJ : P.cellsOf tJ = 1) (cN : P.cellsOf tN = 1) (cL : P.cellsOf tL = 1) (hb : 56 ≤ P.bytesOf tE) (hE : ∀ n, (Neh n).fits P (.inl tE) = true) (n : Nat) : (NhB n).fits P (.inl tI) = true := by
 have hb0 : 0 < P.bytesOf tE := by omega
 have hle : (Neh n).low ≤ P.bytesOf tE := Nat.le_trans (NgI n) hb
 simp [NhB, Sh.fits, hI, hfs, hD, hO, hJ, hN, hL, cI, cE, cD, cO, cJ, cN, cL, hb0, hle, Sh.width, NgJ, hE n]
theorem NlR {tT tS tL tC tI : TypeId} {fs : Array Field} (hT : P.underlying tT = some (.struct fs)) (hfs : (fs.toList.map fun f => (f.type, f.offset)) = [(tS, 0), (tL, 1), (tC, 2)])
 (hS : P.underlying tS = some .string) (hL : P.underlying tL = some (.slice tS)) (hC : P.underlying tC = some (.slice tI)) (cT : P.cellsOf tT = 3) (cS : P.cellsOf tS = 1) (cL : P.cellsOf tL = 1) (cC : P.cellsOf tC = 1) (cI : P.cellsOf tI = 7) (hb : 0 < P.bytesOf tS) (hb2 : 0 < P.bytesOf tI) (hI : ∀ n, (NhB n).fits P (.inl tI) = true) (n : Nat) : (NhC n).fits P (.inl tT) = true := by
 simp [NhC, Sh.fits, hT, hfs, hS, hL, hC, cT, cS, cL, cC, cI, hb, hb2, Sh.width, Nks, show Sh.s.low = 1 from rfl, show (NhB n).low = 1 from rfl, show 1 ≤ P.bytesOf tS from hb, show 1 ≤ P.bytesOf tI from hb2, hI n]
theorem NkP {tC tA tB tD tT : TypeId} {fs : Array Field} (hP : P.underlying tC = some (.struct fs)) (hfs : (fs.toList.map fun f => (f.type, f.offset)) = [(tA, 0), (tB, 1)])
 (hA : P.underlying tA = some (.slice tD)) (hB : P.underlying tB = some (.slice tT)) (cP : P.cellsOf tC = 2) (cA : P.cellsOf tA = 1) (cB : P.cellsOf tB = 1) (cD : P.cellsOf tD = 5) (cT : P.cellsOf tT = 3) (hd : 0 < P.bytesOf tD) (ht : 0 < P.bytesOf tT) (hD : dcSh.fits P (.inl tD) = true) (hT : ∀ n, (NhC n).fits P (.inl tT) = true) (n : Nat) : (NhN n).fits P (.inl tC) = true := by
 have wd : dcSh.width = 5 := rfl
 simp [NhN, Sh.fits, hP, hfs, hA, hB, cP, cA, cB, cD, cT, hd, ht, Sh.width, wd, NkH, show dcSh.low = 1 from rfl, show (NhC n).low = 1 from rfl, show 1 ≤ P.bytesOf tD from hd, show 1 ≤ P.bytesOf tT from ht, hD, hT n]
end
end Go.Pe
