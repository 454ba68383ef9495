/-
 Programs read back out of cells. No condition; nothing of the program.
-/
import Derived.Test.YtjnofhibldppoaaPrgA
set_option linter.unusedVariables false
set_option linter.unusedSimpArgs false
namespace Go.Pe
open Go

def Nes : PV → Option (Bool × Nat × List PV)
 | .nsl => some (true, 0, [])
 | .fsl n cs => some (false, n, cs)
 | _ => none
theorem NbZ {v : PV} {z : Bool} {n : Nat} {cs : List PV} (h : Nes v = some (z, n, cs)) : v = slV z n cs ∧ (z = true → n = 0 ∧ cs = []) := by
 unfold Nes at h
 split at h
 ·simp only [Option.some.injEq, Prod.mk.injEq] at h
  obtain ⟨rfl, rfl, rfl⟩ := h
  exact ⟨rfl, fun _ => ⟨rfl, rfl⟩⟩
 ·simp only [Option.some.injEq, Prod.mk.injEq] at h
  obtain ⟨rfl, rfl, rfl⟩ := h
  exact ⟨by simp [slV], by simp⟩
 ·simp at h
def Ndq {α : Type} (dec : List PV → Option α) (w : Nat) : Nat → List PV → Option (List α)
 | 0, [] => some []
 | 0, _ :: _ => none
 | n + 1, cs => match dec (cs.take w) with
   | none => none
   | some a => match Ndq dec w n (cs.drop w) with
     | none => none
     | some l => some (a :: l)
theorem NbL {α : Type} {dec : List PV → Option α} {f : α → List PV} {w : Nat} (hd : ∀ cs a, dec cs = some a → cs = f a) : ∀ (n : Nat) (cs : List PV) (l : List α), Ndq dec w n cs = some l → n = l.length ∧ cs = l.flatMap f
 | 0, [], l, h => by simp only [Ndq, Option.some.injEq] at h; subst h; exact ⟨rfl, rfl⟩
 | 0, _ :: _, l, h => by simp [Ndq] at h
 | n + 1, cs, l, h => by
   unfold Ndq at h
   cases h1 : dec (cs.take w) with
   | none => rw [h1] at h; simp at h
   | some a =>
     rw [h1] at h
     simp only at h
     cases h2 : Ndq dec w n (cs.drop w) with
     | none => rw [h2] at h; simp at h
     | some r =>
       rw [h2] at h
       simp only [Option.some.injEq] at h
       subst h
       obtain ⟨e1, e2⟩ := NbL hd n _ _ h2
       refine ⟨by simp [e1], ?_⟩
       rw [List.flatMap_cons, ← e2, ← hd _ _ h1, List.take_append_drop]
def Nke (k : Int) : UInt8 := UInt8.ofNat k.toNat
theorem NdL {k : Int} (h0 : 0 ≤ k) (h1 : k < 256) : ((Nke k).toNat : Int) = k := by
 unfold Nke
 rw [UInt8.toNat_ofNat']
 omega
def NjP : Nat → List PV → Option Ex
 | f + 1, [.i .u8 k, .s s, .i .i64 n, v] => if 0 ≤ k ∧ k < 256 then
     match Nes v with
     | none => none
     | some (z, m, cs) => match Ndq (NjP f) 4 m cs with
       | none => none
       | some l => some (.mk (Nke k) s n z l)
   else none
 | _, _ => none
theorem Nf2 : ∀ (f : Nat) (cs : List PV) (e : Ex), NjP f cs = some e → cs = e.cs
 | 0, cs, e, h => by simp [NjP] at h
 | f + 1, cs, e, h => by
   unfold NjP at h
   split at h
   ·rename_i k s n v hf
    cases hf
    split at h
    ·rename_i hk
     cases h1 : Nes v with
     | none => rw [h1] at h; simp at h
     | some p =>
       obtain ⟨z, m, ds⟩ := p
       rw [h1] at h
       simp only at h
       cases h2 : Ndq (NjP f) 4 m ds with
       | none => rw [h2] at h; simp at h
       | some l =>
         rw [h2] at h
         simp only [Option.some.injEq] at h
         subst h
         obtain ⟨rfl, -⟩ := NbZ h1
         obtain ⟨rfl, rfl⟩ := NbL (Nf2 f) _ _ _ h2
         rw [Ex.cs, NdL hk.1 hk.2, Exs.flat]
    ·simp at h
   ·simp at h
def NiY : Nat → List PV → Option Sm
 | f + 1, [.i .u8 k, .i .u8 o, .s j, .s i, .i .i64 n, va, vb, ve, .i .i64 r] => if (0 ≤ k ∧ k < 256) ∧ 0 ≤ o ∧ o < 256 then
     match Nes va with
     | none => none
     | some (za, ma, ca) => match Nes vb with
       | none => none
       | some (zb, mb, cb) => match Nes ve with
         | none => none
         | some (ze, me, ce) => match Ndq (NjP f) 4 ma ca with
           | none => none
           | some a => match Ndq (NiY f) 9 mb cb with
             | none => none
             | some b => match Ndq (NiY f) 9 me ce with
               | none => none
               | some e => some (.mk (Nke k) (Nke o) j i n za a zb b ze e r)
   else none
 | _, _ => none
theorem NeJ : ∀ (f : Nat) (cs : List PV) (e : Sm), NiY f cs = some e → cs = e.cs
 | 0, cs, e, h => by simp [NiY] at h
 | f + 1, cs, e, h => by
   unfold NiY at h
   split at h
   ·rename_i k o j i n va vb ve r hf
    cases hf
    split at h
    ·rename_i hk
     cases h1 : Nes va with
     | none => rw [h1] at h; simp at h
     | some p =>
       obtain ⟨za, ma, ca⟩ := p
       rw [h1] at h
       simp only at h
       cases h2 : Nes vb with
       | none => rw [h2] at h; simp at h
       | some p =>
         obtain ⟨zb, mb, cb⟩ := p
         rw [h2] at h
         simp only at h
         cases h3 : Nes ve with
         | none => rw [h3] at h; simp at h
         | some p =>
           obtain ⟨ze, me, ce⟩ := p
           rw [h3] at h
           simp only at h
           cases h4 : Ndq (NjP f) 4 ma ca with
           | none => rw [h4] at h; simp at h
           | some a =>
             rw [h4] at h
             simp only at h
             cases h5 : Ndq (NiY f) 9 mb cb with
             | none => rw [h5] at h; simp at h
             | some b =>
               rw [h5] at h
               simp only at h
               cases h6 : Ndq (NiY f) 9 me ce with
               | none => rw [h6] at h; simp at h
               | some e' =>
                 rw [h6] at h
                 simp only [Option.some.injEq] at h
                 subst h
                 obtain ⟨rfl, -⟩ := NbZ h1
                 obtain ⟨rfl, -⟩ := NbZ h2
                 obtain ⟨rfl, -⟩ := NbZ h3
                 obtain ⟨rfl, rfl⟩ := NbL (Nf2 f) _ _ _ h4
                 obtain ⟨rfl, rfl⟩ := NbL (NeJ f) _ _ _ h5
                 obtain ⟨rfl, rfl⟩ := NbL (NeJ f) _ _ _ h6
                 rw [Sm.cs, NdL hk.1.1 hk.1.2, NdL hk.2.1 hk.2.2, Exs.flat, Sms.flat, Sms.flat]
    ·simp at h
   ·simp at h
def Nld : List PV → Option Dc
 | [.i .u8 k, .s s, .i .i64 n, .s o, .i .i64 r] => if 0 ≤ k ∧ k < 256 then some ⟨Nke k, s, n, o, r⟩ else none
 | _ => none
theorem NjS : ∀ (cs : List PV) (e : Dc), Nld cs = some e → cs = e.cs := by
 intro cs e h
 unfold Nld at h
 split at h
 ·split at h
  ·rename_i hk
   simp only [Option.some.injEq] at h
   subst h
   unfold Dc.cs
   rw [NdL hk.1 hk.2]
  ·simp at h
 ·simp at h
def Nlb (f : Nat) : List PV → Option Td
 | [.s s, v, .i .i64 r] => match Nes v with
   | none => none
   | some (z, m, cs) => match Ndq (NiY f) 9 m cs with
     | none => none
     | some l => some ⟨s, z, l, r⟩
 | _ => none
theorem NjG (f : Nat) : ∀ (cs : List PV) (e : Td), Nlb f cs = some e → cs = e.cs := by
 intro cs e h
 unfold Nlb at h
 split at h
 ·rename_i s v r
  cases h1 : Nes v with
  | none => rw [h1] at h; simp at h
  | some p =>
    obtain ⟨z, m, ds⟩ := p
    rw [h1] at h
    simp only at h
    cases h2 : Ndq (NiY f) 9 m ds with
    | none => rw [h2] at h; simp at h
    | some l =>
      rw [h2] at h
      simp only [Option.some.injEq] at h
      subst h
      obtain ⟨rfl, -⟩ := NbZ h1
      obtain ⟨rfl, rfl⟩ := NbL (NeJ f) _ _ _ h2
      unfold Td.cs
      rw [Sms.flat]
 ·simp at h
def Nlf (f : Nat) : List PV → Option Pg
 | [v, u] => match Nes v with
   | none => none
   | some (z, m, cs) => match Nes u with
     | none => none
     | some (y, k, ds) => match Ndq Nld 5 m cs with
       | none => none
       | some l => match Ndq (Nlb f) 3 k ds with
         | none => none
         | some t => some ⟨z, l, y, t⟩
 | _ => none
theorem Njt (f : Nat) : ∀ (cs : List PV) (e : Pg), Nlf f cs = some e → cs = e.cs := by
 intro cs e h
 unfold Nlf at h
 split at h
 ·rename_i v u
  cases h1 : Nes v with
  | none => rw [h1] at h; simp at h
  | some p =>
    obtain ⟨z, m, ds⟩ := p
    rw [h1] at h
    simp only at h
    cases h2 : Nes u with
    | none => rw [h2] at h; simp at h
    | some p =>
      obtain ⟨y, k, es⟩ := p
      rw [h2] at h
      simp only at h
      cases h3 : Ndq Nld 5 m ds with
      | none => rw [h3] at h; simp at h
      | some l =>
        rw [h3] at h
        simp only at h
        cases h4 : Ndq (Nlb f) 3 k es with
        | none => rw [h4] at h; simp at h
        | some t =>
          rw [h4] at h
          simp only [Option.some.injEq] at h
          subst h
          obtain ⟨rfl, -⟩ := NbZ h1
          obtain ⟨rfl, -⟩ := NbZ h2
          obtain ⟨rfl, rfl⟩ := NbL NjS _ _ _ h3
          obtain ⟨rfl, rfl⟩ := NbL (NjG f) _ _ _ h4
          rfl
 ·simp at h
end Go.Pe
