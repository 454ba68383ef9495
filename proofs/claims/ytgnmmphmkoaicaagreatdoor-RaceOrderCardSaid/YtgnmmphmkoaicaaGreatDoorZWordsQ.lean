/-
 Words: a text that is too long, a place that there is not. No condition.
-/
import Derived.Test.YtgnmmphmkoaicaaGreatDoorZWordsZ
set_option linter.unusedVariables false
set_option linter.unusedSimpArgs false
open Nat (reduceAdd reduceMul reduceLT reduceEqDiff reduceLeDiff)
namespace Go.Pe
open Go Go.Am Go.RowKit

theorem NeJ (st : St) (k : Int) (s : List UInt8) (n l a e : Int) : Na2 st (Nee k s n l a e) = some (Nee k s n l a e) := rfl
theorem Ncm (st : St) (e l : Int) : Na2 st (NbH e l) = some (NbH e l) := rfl
theorem NeI (st : St) (text : List UInt8) (at0 : Nat) : Na2 st (Ndh text at0) = some (Ndh text at0) := by
 unfold Ndh
 simp only []
 repeat' split
 all_goals first | exact NeJ _ _ _ _ _ _ _ | exact Ncm _ _ _
theorem NmE {M : Nat} {text : List UInt8} {at0 : Nat} (hM : text.length < M) (hlen : text.length ≤ 16384) (hat : at0 ≤ text.length) :
 evP cfgW (M + 60 + 1) 52 [.s text, .i .i64 at0] = some (Ndh text at0) := by
 obtain ⟨r, st', h1, h2⟩ := NmF hM hlen hat
 have hx : cfgW.ext 52 = none := by kernel_rfl
 unfold evP Naj
 simp only [hx]
 unfold NfR
 have h1' : Nay cfgW (M + 60 + 1) 52 (NaC [.s text, .i .i64 at0]).1 (NaC [.s text, .i .i64 at0]).2 = some (r, st') := h1
 rw [h1', h2]
 exact NeI st' text at0
end Go.Pe
set_option maxHeartbeats 4000000
set_option maxRecDepth 100000
namespace Go.Pe
open Go Go.Am Go.RowKit

theorem Nip {fuel : Nat} {text : List UInt8} {at0 : Int} (hlen : 16384 < text.length) :
 ∃ r st', Nay cfgW (fuel + 1) 52 [.s text, .i .i64 at0] { sto := .leaf, cnt := 1 } = some (r, st') ∧ r = NbH 3 0 := by
 refine Nau NjH ?_
 delta m52 Qa Qr Qg Ql Qt Qn Qs Qk Qm Qh
 have h1 : ((text.length : Nat) : Int) > Int.ofNat 16384 := by show ((text.length : Nat) : Int) > 16384; omega
 have ez : Nbc zW [] = some zW := rfl
 have ef : Nbc [.i .i64 (.ofNat 0), .i .i64 (.ofNat 0)] [(0, 1, .i .i64 (.ofNat 3))] = some [.i .i64 (.ofNat 3), .i .i64 (.ofNat 0)] := rfl
 have ez' : Nbc [.i .u8 (.ofNat 0), .s [], .i .i64 (.ofNat 0), .i .i64 (.ofNat 0), .i .i64 (.ofNat 0), .i .i64 (.ofNat 0)] [] = some zW := rfl
 simp only [Nak, ↓Z0, ↓Xp, ↓Xt, Xq, Xc, Nae, Naa, reduceAdd, reduceMul, reduceLT, reduceEqDiff, reduceIte, h1, ez', ef]
 refine Nc5 ?_ ?_ (w := zW) (w0 := zW) (f := [.i .i64 (.ofNat 3), .i .i64 (.ofNat 0)]) (f0 := [.i .i64 (.ofNat 0), .i .i64 (.ofNat 0)]) ?_ ?_ rfl rfl rfl rfl rfl rfl rfl
 ·simp [Env.get_put]
 ·simp [Env.get_put]
 ·rw [St.get_cnt, St.get_put_ne Zak, St.get_putk]; rfl
 ·rw [St.get_cnt, St.get_putk]
theorem Nhs {fuel : Nat} {text : List UInt8} {at0 : Int} (hlen : text.length ≤ 16384) (hat : at0 < 0) :
 ∃ r st', Nay cfgW (fuel + 1) 52 [.s text, .i .i64 at0] { sto := .leaf, cnt := 1 } = some (r, st') ∧ r = NbH 2 0 := by
 refine Nau NjH ?_
 delta m52 Qa Qr Qg Ql Qt Qn Qs Qk Qm Qh
 have h1 : ¬ (((text.length : Nat) : Int) > Int.ofNat 16384) := by show ¬ (((text.length : Nat) : Int) > 16384); omega
 have h2 : at0 < Int.ofNat 0 := hat
 have ez : Nbc zW [] = some zW := rfl
 have ef : Nbc [.i .i64 (.ofNat 0), .i .i64 (.ofNat 0)] [(0, 1, .i .i64 (.ofNat 2))] = some [.i .i64 (.ofNat 2), .i .i64 (.ofNat 0)] := rfl
 have ez' : Nbc [.i .u8 (.ofNat 0), .s [], .i .i64 (.ofNat 0), .i .i64 (.ofNat 0), .i .i64 (.ofNat 0), .i .i64 (.ofNat 0)] [] = some zW := rfl
 simp only [Nak, ↓Z0, ↓Xp, ↓Xt, Xq, Xc, Nae, Naa, reduceAdd, reduceMul, reduceLT, reduceEqDiff, reduceIte, h1, h2, ez', ef]
 refine Nc5 ?_ ?_ (w := zW) (w0 := zW) (f := [.i .i64 (.ofNat 2), .i .i64 (.ofNat 0)]) (f0 := [.i .i64 (.ofNat 0), .i .i64 (.ofNat 0)]) ?_ ?_ rfl rfl rfl rfl rfl rfl rfl
 ·simp [Env.get_put]
 ·simp [Env.get_put]
 ·rw [St.get_cnt, St.get_put_ne Zak, St.get_putk]; rfl
 ·rw [St.get_cnt, St.get_putk]
theorem Nhr {fuel : Nat} {text : List UInt8} {at0 : Int} (hlen : text.length ≤ 16384) (hat : (text.length : Int) < at0) :
 ∃ r st', Nay cfgW (fuel + 1) 52 [.s text, .i .i64 at0] { sto := .leaf, cnt := 1 } = some (r, st') ∧ r = NbH 2 0 := by
 refine Nau NjH ?_
 delta m52 Qa Qr Qg Ql Qt Qn Qs Qk Qm Qh
 have h1 : ¬ (((text.length : Nat) : Int) > Int.ofNat 16384) := by show ¬ (((text.length : Nat) : Int) > 16384); omega
 have h2 : ¬ (at0 < Int.ofNat 0) := by show ¬ (at0 < 0); omega
 have h3 : at0 > ((text.length : Nat) : Int) := hat
 have ez : Nbc zW [] = some zW := rfl
 have ef : Nbc [.i .i64 (.ofNat 0), .i .i64 (.ofNat 0)] [(0, 1, .i .i64 (.ofNat 2))] = some [.i .i64 (.ofNat 2), .i .i64 (.ofNat 0)] := rfl
 have ez' : Nbc [.i .u8 (.ofNat 0), .s [], .i .i64 (.ofNat 0), .i .i64 (.ofNat 0), .i .i64 (.ofNat 0), .i .i64 (.ofNat 0)] [] = some zW := rfl
 simp only [Nak, ↓Z0, ↓Xp, ↓Xt, Xq, Xc, Nae, Naa, reduceAdd, reduceMul, reduceLT, reduceEqDiff, reduceIte, h1, h2, h3, ez', ef]
 refine Nc5 ?_ ?_ (w := zW) (w0 := zW) (f := [.i .i64 (.ofNat 2), .i .i64 (.ofNat 0)]) (f0 := [.i .i64 (.ofNat 0), .i .i64 (.ofNat 0)]) ?_ ?_ rfl rfl rfl rfl rfl rfl rfl
 ·simp [Env.get_put]
 ·simp [Env.get_put]
 ·rw [St.get_cnt, St.get_put_ne Zak, St.get_putk]; rfl
 ·rw [St.get_cnt, St.get_putk]
def gNext : List PV → Option PV
 | [.s text, .i .i64 at0] => some (if 16384 < text.length then NbH 3 0 else if at0 < 0 ∨ (text.length : Int) < at0 then NbH 2 0 else Ndh text at0.toNat)
 | _ => none
theorem NjP {args : List PV} {r : PV} (h : gNext args = some r) : ∃ fuel, evP cfgW fuel 52 args = some r := by
 have hx : cfgW.ext 52 = none := by kernel_rfl
 unfold gNext at h
 split at h
 ·rename_i text at0
  simp only [Sj] at h
  have fin : ∀ (fuel : Nat) (e l : Int), (∃ r st', Nay cfgW (fuel + 1) 52 [.s text, .i .i64 at0] { sto := .leaf, cnt := 1 } = some (r, st') ∧ r = NbH e l) → evP cfgW (fuel + 1) 52 [.s text, .i .i64 at0] = some (NbH e l) := by
   rintro fuel e l ⟨r, st', h1, h2⟩
   unfold evP Naj
   simp only [hx]
   unfold NfR
   have h1' : Nay cfgW (fuel + 1) 52 (NaC [.s text, .i .i64 at0]).1 (NaC [.s text, .i .i64 at0]).2 = some (r, st') := h1
   rw [h1', h2]
   exact Ncm st' e l
  split at h
  ·rename_i hl
   rw [← h]
   exact ⟨0 + 1, fin 0 3 0 (Nip hl)⟩
  ·rename_i hl
   split at h
   ·rename_i ha
    rw [← h]
    rcases ha with ha | ha
    ·exact ⟨0 + 1, fin 0 2 0 (Nhs Zaa ha)⟩
    ·exact ⟨0 + 1, fin 0 2 0 (Nhr Zaa ha)⟩
   ·rename_i ha
    rw [← h]
    refine ⟨text.length + 1 + 60 + 1, ?_⟩
    have := NmE (M := text.length + 1) (text := text) (at0 := at0.toNat) Zaa Zaa Zaa
    rwa [show ((at0.toNat : Nat) : Int) = at0 by omega] at this
 ·simp at h
theorem Nfx {P : Program} {Gl : Gmap} (hc : CfgOK P Gl cfgW) : Nbo P Gl 52 gNext := by
 intro args r h
 obtain ⟨fuel, hf⟩ := NjP h
 exact Nh1 hc fuel _ args r hf
end Go.Pe
