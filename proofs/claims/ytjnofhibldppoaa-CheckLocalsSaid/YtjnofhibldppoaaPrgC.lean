/-
 Programs read back out of cells. No condition; nothing of the program.
-/
import Derived.Test.YtjnofhibldppoaaPrgA
set_option linter.unusedVariables false
set_option linter.unusedSimpArgs false
namespace Go.Pe
open Go

def Nev : PV → Option (Bool × Nat × List PV)
 | .nsl => some (true, 0, [])
 | .fsl n cs => some (false, n, cs)
 | _ => none
theorem Nb0 {v : PV} {z : Bool} {n : Nat} {cs : List PV} (h : Nev v = some (z, n, cs)) : v = slV z n cs ∧ (z = true → n = 0 ∧ cs = []) := by
 unfold Nev at h
 split at h
 ·simp only [Option.some.injEq, Prod.mk.injEq] at h
  obtain ⟨rfl, rfl, rfl⟩ := h
  exact ⟨rfl, fun _ => ⟨rfl, rfl⟩⟩
 ·simp only [Option.some.injEq, Prod.mk.injEq] at h
  obtain ⟨rfl, rfl, rfl⟩ := h
  exact ⟨by simp [slV], by simp⟩
 ·simp at h
def Ndu {α : Type} (dec : List PV → Option α) (w : Nat) : Nat → List PV → Option (List α)
 | 0, [] => some []
 | 0, _ :: _ => none
 | n + 1, cs => match dec (cs.take w) with
   | none => none
   | some a => match Ndu dec w n (cs.drop w) with
     | none => none
     | some l => some (a :: l)
theorem NbL {α : Type} {dec : List PV → Option α} {f : α → List PV} {w : Nat} (hd : ∀ cs a, dec cs = some a → cs = f a) : ∀ (n : Nat) (cs : List PV) (l : List α), Ndu dec w n cs = some l → n = l.length ∧ cs = l.flatMap f
 | 0, [], l, h => by simp only [Ndu, Option.some.injEq] at h; subst h; exact ⟨rfl, rfl⟩
 | 0, _ :: _, l, h => by simp [Ndu] at h
 | n + 1, cs, l, h => by
   unfold Ndu at h
   cases h1 : dec (cs.take w) with
   | none => rw [h1] at h; simp at h
   | some a =>
     rw [h1] at h
     simp only at h
     cases h2 : Ndu dec w n (cs.drop w) with
     | none => rw [h2] at h; simp at h
     | some r =>
       rw [h2] at h
       simp only [Option.some.injEq] at h
       subst h
       obtain ⟨e1, e2⟩ := NbL hd n _ _ h2
       refine ⟨by simp [e1], ?_⟩
       rw [List.flatMap_cons, ← e2, ← hd _ _ h1, List.take_append_drop]
def Njg (k : Int) : UInt8 := UInt8.ofNat k.toNat
theorem NdF {k : Int} (h0 : 0 ≤ k) (h1 : k < 256) : ((Njg k).toNat : Int) = k := by
 unfold Njg
 rw [UInt8.toNat_ofNat']
 omega
def NiL : Nat → List PV → Option Ex
 | f + 1, [.i .u8 k, .s s, .i .i64 n, v] => if 0 ≤ k ∧ k < 256 then
     match Nev v with
     | none => none
     | some (z, m, cs) => match Ndu (NiL f) 4 m cs with
       | none => none
       | some l => some (.mk (Njg k) s n z l)
   else none
 | _, _ => none
theorem Nf8 : ∀ (f : Nat) (cs : List PV) (e : Ex), NiL f cs = some e → cs = e.cs
 | 0, cs, e, h => by simp [NiL] at h
 | f + 1, cs, e, h => by
   unfold NiL at h
   split at h
   ·rename_i k s n v hf
    cases hf
    split at h
    ·rename_i hk
     cases h1 : Nev v with
     | none => rw [h1] at h; simp at h
     | some p =>
       obtain ⟨z, m, ds⟩ := p
       rw [h1] at h
       simp only at h
       cases h2 : Ndu (NiL f) 4 m ds with
       | none => rw [h2] at h; simp at h
       | some l =>
         rw [h2] at h
         simp only [Option.some.injEq] at h
         subst h
         obtain ⟨rfl, -⟩ := Nb0 h1
         obtain ⟨rfl, rfl⟩ := NbL (Nf8 f) _ _ _ h2
         rw [Ex.cs, NdF hk.1 hk.2, Exs.flat]
    ·simp at h
   ·simp at h
def NgR : Nat → List PV → Option Sm
 | f + 1, [.i .u8 k, .i .u8 o, .s j, .s i, .i .i64 n, va, vb, ve, .i .i64 r] => if (0 ≤ k ∧ k < 256) ∧ 0 ≤ o ∧ o < 256 then
     match Nev va with
     | none => none
     | some (za, ma, ca) => match Nev vb with
       | none => none
       | some (zb, mb, cb) => match Nev ve with
         | none => none
         | some (ze, me, ce) => match Ndu (NiL f) 4 ma ca with
           | none => none
           | some a => match Ndu (NgR f) 9 mb cb with
             | none => none
             | some b => match Ndu (NgR f) 9 me ce with
               | none => none
               | some e => some (.mk (Njg k) (Njg o) j i n za a zb b ze e r)
   else none
 | _, _ => none
theorem NeD : ∀ (f : Nat) (cs : List PV) (e : Sm), NgR f cs = some e → cs = e.cs
 | 0, cs, e, h => by simp [NgR] at h
 | f + 1, cs, e, h => by
   unfold NgR at h
   split at h
   ·rename_i k o j i n va vb ve r hf
    cases hf
    split at h
    ·rename_i hk
     cases h1 : Nev va with
     | none => rw [h1] at h; simp at h
     | some p =>
       obtain ⟨za, ma, ca⟩ := p
       rw [h1] at h
       simp only at h
       cases h2 : Nev vb with
       | none => rw [h2] at h; simp at h
       | some p =>
         obtain ⟨zb, mb, cb⟩ := p
         rw [h2] at h
         simp only at h
         cases h3 : Nev ve with
         | none => rw [h3] at h; simp at h
         | some p =>
           obtain ⟨ze, me, ce⟩ := p
           rw [h3] at h
           simp only at h
           cases h4 : Ndu (NiL f) 4 ma ca with
           | none => rw [h4] at h; simp at h
           | some a =>
             rw [h4] at h
             simp only at h
             cases h5 : Ndu (NgR f) 9 mb cb with
             | none => rw [h5] at h; simp at h
             | some b =>
               rw [h5] at h
               simp only at h
               cases h6 : Ndu (NgR f) 9 me ce with
               | none => rw [h6] at h; simp at h
               | some e' =>
                 rw [h6] at h
                 simp only [Option.some.injEq] at h
                 subst h
                 obtain ⟨rfl, -⟩ := Nb0 h1
                 obtain ⟨rfl, -⟩ := Nb0 h2
                 obtain ⟨rfl, -⟩ := Nb0 h3
                 obtain ⟨rfl, rfl⟩ := NbL (Nf8 f) _ _ _ h4
                 obtain ⟨rfl, rfl⟩ := NbL (NeD f) _ _ _ h5
                 obtain ⟨rfl, rfl⟩ := NbL (NeD f) _ _ _ h6
                 rw [Sm.cs, NdF hk.1.1 hk.1.2, NdF hk.2.1 hk.2.2, Exs.flat, Sms.flat, Sms.flat]
    ·simp at h
   ·simp at h
def Nj6 : List PV → Option Dc
 | [.i .u8 k, .s s, .i .i64 n, .s o, .i .i64 r] => if 0 ≤ k ∧ k < 256 then some ⟨Njg k, s, n, o, r⟩ else none
 | _ => none
theorem Ni1 : ∀ (cs : List PV) (e : Dc), Nj6 cs = some e → cs = e.cs := by
 intro cs e h
 unfold Nj6 at h
 split at h
 ·split at h
  ·rename_i hk
   simp only [Option.some.injEq] at h
   subst h
   unfold Dc.cs
   rw [NdF hk.1 hk.2]
  ·simp at h
 ·simp at h
def Nj9 (f : Nat) : List PV → Option Td
 | [.s s, v, .i .i64 r] => match Nev v with
   | none => none
   | some (z, m, cs) => match Ndu (NgR f) 9 m cs with
     | none => none
     | some l => some ⟨s, z, l, r⟩
 | _ => none
theorem Nib (f : Nat) : ∀ (cs : List PV) (e : Td), Nj9 f cs = some e → cs = e.cs := by
 intro cs e h
 unfold Nj9 at h
 split at h
 ·rename_i s v r
  cases h1 : Nev v with
  | none => rw [h1] at h; simp at h
  | some p =>
    obtain ⟨z, m, ds⟩ := p
    rw [h1] at h
    simp only at h
    cases h2 : Ndu (NgR f) 9 m ds with
    | none => rw [h2] at h; simp at h
    | some l =>
      rw [h2] at h
      simp only [Option.some.injEq] at h
      subst h
      obtain ⟨rfl, -⟩ := Nb0 h1
      obtain ⟨rfl, rfl⟩ := NbL (NeD f) _ _ _ h2
      unfold Td.cs
      rw [Sms.flat]
 ·simp at h
def Nkg (f : Nat) : List PV → Option Pg
 | [v, u] => match Nev v with
   | none => none
   | some (z, m, cs) => match Nev u with
     | none => none
     | some (y, k, ds) => match Ndu Nj6 5 m cs with
       | none => none
       | some l => match Ndu (Nj9 f) 3 k ds with
         | none => none
         | some t => some ⟨z, l, y, t⟩
 | _ => none
theorem Niz (f : Nat) : ∀ (cs : List PV) (e : Pg), Nkg f cs = some e → cs = e.cs := by
 intro cs e h
 unfold Nkg at h
 split at h
 ·rename_i v u
  cases h1 : Nev v with
  | none => rw [h1] at h; simp at h
  | some p =>
    obtain ⟨z, m, ds⟩ := p
    rw [h1] at h
    simp only at h
    cases h2 : Nev u with
    | none => rw [h2] at h; simp at h
    | some p =>
      obtain ⟨y, k, es⟩ := p
      rw [h2] at h
      simp only at h
      cases h3 : Ndu Nj6 5 m ds with
      | none => rw [h3] at h; simp at h
      | some l =>
        rw [h3] at h
        simp only at h
        cases h4 : Ndu (Nj9 f) 3 k es with
        | none => rw [h4] at h; simp at h
        | some t =>
          rw [h4] at h
          simp only [Option.some.injEq] at h
          subst h
          obtain ⟨rfl, -⟩ := Nb0 h1
          obtain ⟨rfl, -⟩ := Nb0 h2
          obtain ⟨rfl, rfl⟩ := NbL Ni1 _ _ _ h3
          obtain ⟨rfl, rfl⟩ := NbL (Nib f) _ _ _ h4
          rfl
 ·simp at h
end Go.Pe
