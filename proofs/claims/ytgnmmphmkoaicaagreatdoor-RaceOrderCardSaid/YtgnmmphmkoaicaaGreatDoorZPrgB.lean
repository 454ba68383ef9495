/-
 Programs as plain data, out of arguments: expressions and statements of whatever depth, opened. No condition; nothing of the program.
-/
import Derived.Test.YtgnmmphmkoaicaaGreatDoorZPrgA
import Derived.Test.YtgnmmphmkoaicaaGreatDoorZView
set_option linter.unusedVariables false
set_option linter.unusedSimpArgs false
namespace Go.Pe
open Go Go.RowKit

def Neh : Nat → Sh
 | 0 => .bot 4
 | n + 1 => .st (.cons (.i .u8) (.cons .s (.cons (.i .i64) (.cons (.sl (Neh n)) .nil))))
theorem NgJ : ∀ n, (Neh n).width = 4
 | 0 => rfl
 | _ + 1 => rfl
theorem NgH : ∀ n f, f ≤ n → (Neh n).dep f
 | 0, f, h => by simp only [Neh, Sh.dep]; omega
 | n + 1, 0, _ => by simp [Neh, Sh.dep]
 | n + 1, 1, h => by simp [Neh, Sh.dep]
 | n + 1, f + 2, h => by
   simp only [Neh, Sh.dep, true_and, and_true]
   exact NgH n f Zaa
theorem NgI : ∀ n, (Neh n).low ≤ 56
 | 0 => by simp [Neh, Sh.low]
 | _ + 1 => by simp [Neh, Sh.low]
mutual
def Ex.wf : Ex → Prop
 | .mk k s n z l => (Lit.int .i64 n).wf = true ∧ s.length ≤ reachBytes ∧ l.length ≤ reachBytes ∧ Exs.wf l
def Exs.wf : List Ex → Prop
 | [] => True
 | e :: r => e.wf ∧ Exs.wf r
end
theorem Exs.wf_of : ∀ {l : List Ex}, (∀ e ∈ l, e.wf) → Exs.wf l
 | [], _ => by rw [Exs.wf]; trivial
 | e :: r, h => by rw [Exs.wf]; exact ⟨h e Zai, Exs.wf_of fun x hx => h x (by simp [hx])⟩
mutual
def Sm.wf : Sm → Prop
 | .mk k o j i n za a zb b ze e r => (Lit.int .i64 n).wf = true ∧ (Lit.int .i64 r).wf = true ∧ j.length ≤ reachBytes ∧ i.length ≤ reachBytes ∧ a.length ≤ reachBytes ∧ b.length ≤ reachBytes ∧ e.length ≤ reachBytes ∧ Exs.wf a ∧ Sms.wf b ∧ Sms.wf e
def Sms.wf : List Sm → Prop
 | [] => True
 | e :: r => e.wf ∧ Sms.wf r
end
theorem Sms.wf_of : ∀ {l : List Sm}, (∀ e ∈ l, e.wf) → Sms.wf l
 | [], _ => by rw [Sms.wf]; trivial
 | e :: r, h => by rw [Sms.wf]; exact ⟨h e Zai, Sms.wf_of fun x hx => h x (by simp [hx])⟩
theorem Nga {α : Type} {f : α → List PV} {Q : α → Prop} {w : Nat} : ∀ (n : Nat) (ps : List PV), ps.length = n * w → (∀ j, j < n → ∃ a, (ps.drop (j * w)).take w = f a ∧ Q a) → ∃ l : List α, l.length = n ∧ ps = l.flatMap f ∧ ∀ a ∈ l, Q a
 | 0, ps, h, _ => ⟨[], rfl, by rw [Nat.zero_mul] at h; exact List.eq_nil_of_length_eq_zero h, by simp⟩
 | n + 1, ps, h, hj => by
   obtain ⟨a, ha, hq⟩ := hj 0 Zaa
   rw [Nat.zero_mul, List.drop_zero] at ha
   obtain ⟨l, h1, h2, h3⟩ := Nga (f := f) (Q := Q) (w := w) n (ps.drop w) (by rw [List.length_drop, h, Nat.add_mul]; omega) (fun j hjn => by
    obtain ⟨b, hb, hqb⟩ := hj (j + 1) Zaa
    refine ⟨b, ?_, hqb⟩
    rw [List.drop_drop, show w + j * w = (j + 1) * w by rw [Nat.add_mul]; omega]
    exact hb)
   refine ⟨a :: l, by simp [h1], ?_, fun b hb => ?_⟩
   ·rw [List.flatMap_cons, ← h2, ← ha, List.take_append_drop]
   ·rcases List.mem_cons.1 hb with rfl | hb
    ·exact hq
    ·exact h3 b hb
theorem NgP {a : PV} {cs : List PV} (h : cs.take 1 = [a]) : cs = a :: cs.drop 1 := by
 have := List.take_append_drop 1 cs
 rw [h] at this
 exact this.symm
theorem Nn7 {n : Int} (h : (Lit.int .u8 n).wf = true) : ∃ k : UInt8, n = (k.toNat : Int) := by
 simp [Lit.wf, IntKind.min, IntKind.max, IntKind.signed, IntKind.bits] at h
 refine ⟨UInt8.ofNat n.toNat, ?_⟩
 rw [UInt8.toNat_ofNat']
 omega
theorem Nid {cs : List PV} (h : (Sh.i .u8).Is (cs.take 1)) : ∃ k : UInt8, cs = .i .u8 (k.toNat : Int) :: cs.drop 1 := by
 obtain ⟨n, h1, h2⟩ := h
 obtain ⟨k, rfl⟩ := Nn7 h2
 exact ⟨k, NgP h1⟩
theorem NbJ {cs : List PV} (h : (Sh.i .i64).Is (cs.take 1)) : ∃ n : Int, cs = .i .i64 n :: cs.drop 1 ∧ (Lit.int .i64 n).wf = true := by
 obtain ⟨n, h1, h2⟩ := h
 exact ⟨n, NgP h1, h2⟩
theorem Nng {cs : List PV} (h : Sh.s.Is (cs.take 1)) : ∃ l : List UInt8, cs = .s l :: cs.drop 1 ∧ l.length ≤ reachBytes := by
 obtain ⟨n, h1, h2⟩ := h
 exact ⟨n, NgP h1, h2⟩
theorem NgO {α : Type} {f : α → List PV} {Q : α → Prop} {e : Sh} {cs : List PV} {w : Nat} (hw : e.width = w) (he : ∀ qs, e.Is qs → ∃ a, qs = f a ∧ Q a) (h : (Sh.sl e).Is (cs.take 1)) : ∃ l : List α, cs = .fsl l.length (l.flatMap f) :: cs.drop 1 ∧ l.length * e.low ≤ reachBytes ∧ ∀ a ∈ l, Q a := by
 obtain ⟨n, ps, h1, h2, h3, h4⟩ := h
 rw [hw] at h2 h4
 obtain ⟨l, rfl, rfl, hq⟩ := Nga (f := f) (Q := Q) n ps h2 (fun j hj => he _ (h4 j hj))
 exact ⟨l, NgP h1, h3, hq⟩
theorem NdR {α : Type} {f : α → List PV} {Q : α → Prop} {e : Sh} {cs : List PV} {w : Nat} (hw : e.width = w) (he : ∀ qs, e.Is qs → ∃ a, qs = f a ∧ Q a) (h : (Sh.sl e).Is (cs.take 1)) : ∃ l : List α, cs = .fsl l.length (l.flatMap f) :: cs.drop 1 ∧ l.length ≤ reachBytes ∧ ∀ a ∈ l, Q a := by
 obtain ⟨l, h1, h2, h3⟩ := NgO hw he h
 exact ⟨l, h1, Nat.le_trans (Nat.le_mul_of_pos_right _ (Sh.low_pos e)) h2, h3⟩
theorem Nmy : ∀ (n : Nat) (cs : List PV), (Neh n).Is cs → ∃ e : Ex, cs = e.cs ∧ e.wf
 | 0, cs, h => by simp [Neh, Sh.Is] at h
 | n + 1, cs, h => by
   simp only [Neh] at h
   obtain ⟨h1, h2, h3, h4, h5⟩ := h
   simp only [Sh.width] at h1 h2 h3 h4 h5
   obtain ⟨k, e1⟩ := Nid h1
   obtain ⟨s, e2, w2⟩ := Nng h2
   obtain ⟨m, e3, w3⟩ := NbJ h3
   obtain ⟨l, e4, w4, w5⟩ := NdR (NgJ n) (Nmy n) h4
   refine ⟨.mk k s m false l, ?_, ?_⟩
   ·rw [Ex.cs_eq, e1, e2, e3, e4]
    simp only [Sh.Is] at h5
    rw [h5, ← Exs.flat]
    rfl
   ·rw [Ex.wf]
    exact ⟨w3, w2, w4, Exs.wf_of w5⟩
section
variable {P : Program}
theorem Nh2 {tE tK tS tN tL : TypeId} {fs : Array Field} (hE : P.underlying tE = some (.struct fs)) (hfs : (fs.toList.map fun f => (f.type, f.offset)) = [(tK, 0), (tS, 1), (tN, 2), (tL, 3)])
 (hK : P.underlying tK = some (.int .u8)) (hS : P.underlying tS = some .string) (hN : P.underlying tN = some (.int .i64)) (hL : P.underlying tL = some (.slice tE))
 (cE : P.cellsOf tE = 4) (cK : P.cellsOf tK = 1) (cS : P.cellsOf tS = 1) (cN : P.cellsOf tN = 1) (cL : P.cellsOf tL = 1) (hb : 56 ≤ P.bytesOf tE) : ∀ n, (Neh n).fits P (.inl tE) = true
 | 0 => by simp [Neh, Sh.fits]
 | n + 1 => by
   have ih := Nh2 hE hfs hK hS hN hL cE cK cS cN cL hb n
   have hb0 : 0 < P.bytesOf tE := by omega
   have hl : (Neh n).low ≤ P.bytesOf tE := Nat.le_trans (NgI n) hb
   simp [Neh, Sh.fits, hE, hfs, hK, hS, hN, hL, cE, cK, cS, cN, cL, hb0, hl, Sh.width, NgJ, ih]
end
end Go.Pe
