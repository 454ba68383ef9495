/-
 Words: a text that is too long, a place that there is not. No condition.
-/
import Derived.Test.YtaepgkghgcchnaaDoorWordsP
set_option linter.unusedVariables false
set_option linter.unusedSimpArgs false
set_option maxHeartbeats 4000000
set_option maxRecDepth 100000
namespace Go.Pe
open Go Go.Am Go.RowKit

theorem Nf5 {fuel : Nat} {text : List UInt8} {at0 : Int} (hlen : 16384 < text.length) :
 ∃ r st', Na5 cfgW (fuel + 1) 9 [.s text, .i .i64 at0] { sto := .leaf, cnt := 1 } = some (r, st') ∧ r = NaV 3 0 := by
 refine Na8 NgW ?_
 unfold m9
 have h1 : ((text.length : Nat) : Int) > Int.ofNat 16384 := by show ((text.length : Nat) : Int) > 16384; omega
 have ez : NaI zW [] = some zW := rfl
 have ef : NaI [.i .i64 (.ofNat 0), .i .i64 (.ofNat 0)] [(0, 1, .i .i64 (.ofNat 3))] = some [.i .i64 (.ofNat 3), .i .i64 (.ofNat 0)] := rfl
 have ez' : NaI [.i .u8 (.ofNat 0), .s [], .i .i64 (.ofNat 0), .i .i64 (.ofNat 0), .i .i64 (.ofNat 0), .i .i64 (.ofNat 0)] [] = some zW := rfl
 simp only [Nar, ↓Z0, ↓Xp, ↓Xt, Xq, Xc, Naf, Naa, Nat.reduceAdd, Nat.reduceMul, Nat.reduceLT, Nat.reduceEqDiff, reduceIte, h1, ez', ef]
 refine Nco ?_ ?_ (w := zW) (w0 := zW) (f := [.i .i64 (.ofNat 3), .i .i64 (.ofNat 0)]) (f0 := [.i .i64 (.ofNat 0), .i .i64 (.ofNat 0)]) ?_ ?_ rfl rfl rfl rfl rfl rfl rfl
 ·simp [Env.get_put]
 ·simp [Env.get_put]
 ·rw [St.get_cnt, St.get_put_ne (by decide), St.get_putk]; rfl
 ·rw [St.get_cnt, St.get_putk]
theorem Nfs {fuel : Nat} {text : List UInt8} {at0 : Int} (hlen : text.length ≤ 16384) (hat : at0 < 0) :
 ∃ r st', Na5 cfgW (fuel + 1) 9 [.s text, .i .i64 at0] { sto := .leaf, cnt := 1 } = some (r, st') ∧ r = NaV 2 0 := by
 refine Na8 NgW ?_
 unfold m9
 have h1 : ¬ (((text.length : Nat) : Int) > Int.ofNat 16384) := by show ¬ (((text.length : Nat) : Int) > 16384); omega
 have h2 : at0 < Int.ofNat 0 := hat
 have ez : NaI zW [] = some zW := rfl
 have ef : NaI [.i .i64 (.ofNat 0), .i .i64 (.ofNat 0)] [(0, 1, .i .i64 (.ofNat 2))] = some [.i .i64 (.ofNat 2), .i .i64 (.ofNat 0)] := rfl
 have ez' : NaI [.i .u8 (.ofNat 0), .s [], .i .i64 (.ofNat 0), .i .i64 (.ofNat 0), .i .i64 (.ofNat 0), .i .i64 (.ofNat 0)] [] = some zW := rfl
 simp only [Nar, ↓Z0, ↓Xp, ↓Xt, Xq, Xc, Naf, Naa, Nat.reduceAdd, Nat.reduceMul, Nat.reduceLT, Nat.reduceEqDiff, reduceIte, h1, h2, ez', ef]
 refine Nco ?_ ?_ (w := zW) (w0 := zW) (f := [.i .i64 (.ofNat 2), .i .i64 (.ofNat 0)]) (f0 := [.i .i64 (.ofNat 0), .i .i64 (.ofNat 0)]) ?_ ?_ rfl rfl rfl rfl rfl rfl rfl
 ·simp [Env.get_put]
 ·simp [Env.get_put]
 ·rw [St.get_cnt, St.get_put_ne (by decide), St.get_putk]; rfl
 ·rw [St.get_cnt, St.get_putk]
theorem Nfr {fuel : Nat} {text : List UInt8} {at0 : Int} (hlen : text.length ≤ 16384) (hat : (text.length : Int) < at0) :
 ∃ r st', Na5 cfgW (fuel + 1) 9 [.s text, .i .i64 at0] { sto := .leaf, cnt := 1 } = some (r, st') ∧ r = NaV 2 0 := by
 refine Na8 NgW ?_
 unfold m9
 have h1 : ¬ (((text.length : Nat) : Int) > Int.ofNat 16384) := by show ¬ (((text.length : Nat) : Int) > 16384); omega
 have h2 : ¬ (at0 < Int.ofNat 0) := by show ¬ (at0 < 0); omega
 have h3 : at0 > ((text.length : Nat) : Int) := hat
 have ez : NaI zW [] = some zW := rfl
 have ef : NaI [.i .i64 (.ofNat 0), .i .i64 (.ofNat 0)] [(0, 1, .i .i64 (.ofNat 2))] = some [.i .i64 (.ofNat 2), .i .i64 (.ofNat 0)] := rfl
 have ez' : NaI [.i .u8 (.ofNat 0), .s [], .i .i64 (.ofNat 0), .i .i64 (.ofNat 0), .i .i64 (.ofNat 0), .i .i64 (.ofNat 0)] [] = some zW := rfl
 simp only [Nar, ↓Z0, ↓Xp, ↓Xt, Xq, Xc, Naf, Naa, Nat.reduceAdd, Nat.reduceMul, Nat.reduceLT, Nat.reduceEqDiff, reduceIte, h1, h2, h3, ez', ef]
 refine Nco ?_ ?_ (w := zW) (w0 := zW) (f := [.i .i64 (.ofNat 2), .i .i64 (.ofNat 0)]) (f0 := [.i .i64 (.ofNat 0), .i .i64 (.ofNat 0)]) ?_ ?_ rfl rfl rfl rfl rfl rfl rfl
 ·simp [Env.get_put]
 ·simp [Env.get_put]
 ·rw [St.get_cnt, St.get_put_ne (by decide), St.get_putk]; rfl
 ·rw [St.get_cnt, St.get_putk]
def gNext : List PV → Option PV
 | [.s text, .i .i64 at0] => some (if 16384 < text.length then NaV 3 0 else if at0 < 0 ∨ (text.length : Int) < at0 then NaV 2 0 else NbW text at0.toNat)
 | _ => none
theorem Ng3 {args : List PV} {r : PV} (h : gNext args = some r) : ∃ fuel, evP cfgW fuel 9 args = some r := by
 have hx : cfgW.ext 9 = none := by kernel_rfl
 unfold gNext at h
 split at h
 ·rename_i text at0
  simp only [Sj] at h
  have fin : ∀ (fuel : Nat) (e l : Int), (∃ r st', Na5 cfgW (fuel + 1) 9 [.s text, .i .i64 at0] { sto := .leaf, cnt := 1 } = some (r, st') ∧ r = NaV e l) → evP cfgW (fuel + 1) 9 [.s text, .i .i64 at0] = some (NaV e l) := by
   rintro fuel e l ⟨r, st', h1, h2⟩
   unfold evP Nau
   simp only [hx]
   unfold NdR
   have h1' : Na5 cfgW (fuel + 1) 9 (Naw [.s text, .i .i64 at0]).1 (Naw [.s text, .i .i64 at0]).2 = some (r, st') := h1
   rw [h1', h2]
   exact NbP st' e l
  split at h
  ·rename_i hl
   rw [← h]
   exact ⟨0 + 1, fin 0 3 0 (Nf5 hl)⟩
  ·rename_i hl
   split at h
   ·rename_i ha
    rw [← h]
    rcases ha with ha | ha
    ·exact ⟨0 + 1, fin 0 2 0 (Nfs (by omega) ha)⟩
    ·exact ⟨0 + 1, fin 0 2 0 (Nfr (by omega) ha)⟩
   ·rename_i ha
    rw [← h]
    refine ⟨text.length + 1 + 60 + 1, ?_⟩
    have := Njf (M := text.length + 1) (text := text) (at0 := at0.toNat) (by omega) (by omega) (by omega)
    rwa [show ((at0.toNat : Nat) : Int) = at0 by omega] at this
 ·simp at h
theorem Nd4 {P : Program} {Gl : Gmap} (hc : CfgOK P Gl cfgW) : Na6 P Gl 9 gNext := by
 intro args r h
 obtain ⟨fuel, hf⟩ := Ng3 h
 exact NfS hc fuel _ args r hf
end Go.Pe
