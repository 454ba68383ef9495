/-
 Words: a text that is too long, a place that there is not. No condition.
-/
import Derived.Test.YtaepgkghgcchnaaDoorWordsP
set_option linter.unusedVariables false
set_option linter.unusedSimpArgs false
set_option maxHeartbeats 4000000
set_option maxRecDepth 100000
namespace Go.Pe
open Go Go.Am Go.RowKit

theorem Nf9 {fuel : Nat} {text : List UInt8} {at0 : Int} (hlen : 16384 < text.length) :
 ∃ r st', Na2 cfgW (fuel + 1) 9 [.s text, .i .i64 at0] { sto := .leaf, cnt := 1 } = some (r, st') ∧ r = Na4 3 0 := by
 refine Nbj NgX ?_
 unfold m9
 have h1 : ((text.length : Nat) : Int) > Int.ofNat 16384 := by show ((text.length : Nat) : Int) > 16384; omega
 have ez : NaI zW [] = some zW := rfl
 have ef : NaI [.i .i64 (.ofNat 0), .i .i64 (.ofNat 0)] [(0, 1, .i .i64 (.ofNat 3))] = some [.i .i64 (.ofNat 3), .i .i64 (.ofNat 0)] := rfl
 have ez' : NaI [.i .u8 (.ofNat 0), .s [], .i .i64 (.ofNat 0), .i .i64 (.ofNat 0), .i .i64 (.ofNat 0), .i .i64 (.ofNat 0)] [] = some zW := rfl
 simp only [Nap, ↓Z0, ↓Xp, ↓Xt, Xq, Xc, Naf, Naa, Nat.reduceAdd, Nat.reduceMul, Nat.reduceLT, Nat.reduceEqDiff, reduceIte, h1, ez', ef]
 refine Nco ?_ ?_ (w := zW) (w0 := zW) (f := [.i .i64 (.ofNat 3), .i .i64 (.ofNat 0)]) (f0 := [.i .i64 (.ofNat 0), .i .i64 (.ofNat 0)]) ?_ ?_ rfl rfl rfl rfl rfl rfl rfl
 ·simp [Env.get_put]
 ·simp [Env.get_put]
 ·rw [St.get_cnt, St.get_put_ne (by decide), St.get_putk]; rfl
 ·rw [St.get_cnt, St.get_putk]
theorem Nfu {fuel : Nat} {text : List UInt8} {at0 : Int} (hlen : text.length ≤ 16384) (hat : at0 < 0) :
 ∃ r st', Na2 cfgW (fuel + 1) 9 [.s text, .i .i64 at0] { sto := .leaf, cnt := 1 } = some (r, st') ∧ r = Na4 2 0 := by
 refine Nbj NgX ?_
 unfold m9
 have h1 : ¬ (((text.length : Nat) : Int) > Int.ofNat 16384) := by show ¬ (((text.length : Nat) : Int) > 16384); omega
 have h2 : at0 < Int.ofNat 0 := hat
 have ez : NaI zW [] = some zW := rfl
 have ef : NaI [.i .i64 (.ofNat 0), .i .i64 (.ofNat 0)] [(0, 1, .i .i64 (.ofNat 2))] = some [.i .i64 (.ofNat 2), .i .i64 (.ofNat 0)] := rfl
 have ez' : NaI [.i .u8 (.ofNat 0), .s [], .i .i64 (.ofNat 0), .i .i64 (.ofNat 0), .i .i64 (.ofNat 0), .i .i64 (.ofNat 0)] [] = some zW := rfl
 simp only [Nap, ↓Z0, ↓Xp, ↓Xt, Xq, Xc, Naf, Naa, Nat.reduceAdd, Nat.reduceMul, Nat.reduceLT, Nat.reduceEqDiff, reduceIte, h1, h2, ez', ef]
 refine Nco ?_ ?_ (w := zW) (w0 := zW) (f := [.i .i64 (.ofNat 2), .i .i64 (.ofNat 0)]) (f0 := [.i .i64 (.ofNat 0), .i .i64 (.ofNat 0)]) ?_ ?_ rfl rfl rfl rfl rfl rfl rfl
 ·simp [Env.get_put]
 ·simp [Env.get_put]
 ·rw [St.get_cnt, St.get_put_ne (by decide), St.get_putk]; rfl
 ·rw [St.get_cnt, St.get_putk]
theorem Nft {fuel : Nat} {text : List UInt8} {at0 : Int} (hlen : text.length ≤ 16384) (hat : (text.length : Int) < at0) :
 ∃ r st', Na2 cfgW (fuel + 1) 9 [.s text, .i .i64 at0] { sto := .leaf, cnt := 1 } = some (r, st') ∧ r = Na4 2 0 := by
 refine Nbj NgX ?_
 unfold m9
 have h1 : ¬ (((text.length : Nat) : Int) > Int.ofNat 16384) := by show ¬ (((text.length : Nat) : Int) > 16384); omega
 have h2 : ¬ (at0 < Int.ofNat 0) := by show ¬ (at0 < 0); omega
 have h3 : at0 > ((text.length : Nat) : Int) := hat
 have ez : NaI zW [] = some zW := rfl
 have ef : NaI [.i .i64 (.ofNat 0), .i .i64 (.ofNat 0)] [(0, 1, .i .i64 (.ofNat 2))] = some [.i .i64 (.ofNat 2), .i .i64 (.ofNat 0)] := rfl
 have ez' : NaI [.i .u8 (.ofNat 0), .s [], .i .i64 (.ofNat 0), .i .i64 (.ofNat 0), .i .i64 (.ofNat 0), .i .i64 (.ofNat 0)] [] = some zW := rfl
 simp only [Nap, ↓Z0, ↓Xp, ↓Xt, Xq, Xc, Naf, Naa, Nat.reduceAdd, Nat.reduceMul, Nat.reduceLT, Nat.reduceEqDiff, reduceIte, h1, h2, h3, ez', ef]
 refine Nco ?_ ?_ (w := zW) (w0 := zW) (f := [.i .i64 (.ofNat 2), .i .i64 (.ofNat 0)]) (f0 := [.i .i64 (.ofNat 0), .i .i64 (.ofNat 0)]) ?_ ?_ rfl rfl rfl rfl rfl rfl rfl
 ·simp [Env.get_put]
 ·simp [Env.get_put]
 ·rw [St.get_cnt, St.get_put_ne (by decide), St.get_putk]; rfl
 ·rw [St.get_cnt, St.get_putk]
def gNext : List PV → Option PV
 | [.s text, .i .i64 at0] => some (if 16384 < text.length then Na4 3 0 else if at0 < 0 ∨ (text.length : Int) < at0 then Na4 2 0 else Nb1 text at0.toNat)
 | _ => none
theorem Ng1 {args : List PV} {r : PV} (h : gNext args = some r) : ∃ fuel, evP cfgW fuel 9 args = some r := by
 have hx : cfgW.ext 9 = none := by kernel_rfl
 unfold gNext at h
 split at h
 ·rename_i text at0
  simp only [Sj] at h
  have fin : ∀ (fuel : Nat) (e l : Int), (∃ r st', Na2 cfgW (fuel + 1) 9 [.s text, .i .i64 at0] { sto := .leaf, cnt := 1 } = some (r, st') ∧ r = Na4 e l) → evP cfgW (fuel + 1) 9 [.s text, .i .i64 at0] = some (Na4 e l) := by
   rintro fuel e l ⟨r, st', h1, h2⟩
   unfold evP Nao
   simp only [hx]
   unfold Nem
   have h1' : Na2 cfgW (fuel + 1) 9 (Naz [.s text, .i .i64 at0]).1 (Naz [.s text, .i .i64 at0]).2 = some (r, st') := h1
   rw [h1', h2]
   exact NbQ st' e l
  split at h
  ·rename_i hl
   rw [← h]
   exact ⟨0 + 1, fin 0 3 0 (Nf9 hl)⟩
  ·rename_i hl
   split at h
   ·rename_i ha
    rw [← h]
    rcases ha with ha | ha
    ·exact ⟨0 + 1, fin 0 2 0 (Nfu (by omega) ha)⟩
    ·exact ⟨0 + 1, fin 0 2 0 (Nft (by omega) ha)⟩
   ·rename_i ha
    rw [← h]
    refine ⟨text.length + 1 + 60 + 1, ?_⟩
    have := Njs (M := text.length + 1) (text := text) (at0 := at0.toNat) (by omega) (by omega) (by omega)
    rwa [show ((at0.toNat : Nat) : Int) = at0 by omega] at this
 ·simp at h
theorem Nd6 {P : Program} {Gl : Gmap} (hc : CfgOK P Gl cfgW) : Na3 P Gl 9 gNext := by
 intro args r h
 obtain ⟨fuel, hf⟩ := Ng1 h
 exact NfR hc fuel _ args r hf
end Go.Pe
