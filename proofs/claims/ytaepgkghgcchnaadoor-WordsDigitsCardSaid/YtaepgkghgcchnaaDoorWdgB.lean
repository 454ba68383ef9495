/-
 WordsDigits, by the interpreter of plain data. No condition.
-/
import Derived.Test.YtaepgkghgcchnaaDoorWdgT
import Derived.Test.YtaepgkghgcchnaaDoorWordC0
import Derived.Test.YtaepgkghgcchnaaDoorPeL3
import Derived.Test.YtaepgkghgcchnaaDoorPeB
import Derived.Test.YtaepgkghgcchnaaDoorView
set_option linter.unusedVariables false
set_option linter.unusedSimpArgs false
set_option maxHeartbeats 4000000
namespace Go.Pe
open Go Go.Am Go.RowKit

theorem Nen {Gl : Gmap} {m : Int} (hg : Gl 2 0 = some (.int .i64 m)) : CfgOK Go.Proofs.Tryd.prog Gl cfgI := Neo NeQ (by
 intro f g h
 unfold Nly at h
 split at h
 ·rename_i e; simp only [Sj] at h; subst h; subst e
  exact Nd4 (NeT hg)
 ·cases h)
noncomputable def Nj0 : FuncId → Option (List PV → Option PV) := fun f => if f = 9 then some gNext else if f = 7 then some gAwake else if f = 10 then some gNot else if f = 8 then some gTrim else none
theorem NhO {Gl : Gmap} {m : Int} (hg : Gl 2 0 = some (.int .i64 m)) : ∀ f g, Nj0 f = some g → Na6 Go.Proofs.Tryd.prog Gl f g := by
 intro f g h
 unfold Nj0 at h
 split at h
 ·rename_i e; simp only [Sj] at h; subst h; subst e
  exact Nd4 (NeT hg)
 split at h
 ·rename_i e; simp only [Sj] at h; subst h; subst e
  exact NeJ (Nen hg) NfG
 split at h
 ·rename_i e; simp only [Sj] at h; subst h; subst e
  exact NeJ (Nen hg) Nih
 split at h
 ·rename_i e; simp only [Sj] at h; subst h; subst e
  exact NeJ (Nen hg) Nhf
 ·cases h
noncomputable def cfgD : Cfg := { fn := fun f => NeB f tblX3, ext := Nj0 }
theorem NhH {Gl : Gmap} {m : Int} (hg : Gl 2 0 = some (.int .i64 m)) : CfgOK Go.Proofs.Tryd.prog Gl cfgD := Neo Nhe (NhO hg)
theorem Nho : cfgD.ext 9 = some gNext := by kernel_rfl
theorem Ni2 : cfgD.ext 7 = some gAwake := by kernel_rfl
theorem Ni4 : cfgD.ext 10 = some gNot := by kernel_rfl
theorem Ni6 : cfgD.ext 8 = some gTrim := by kernel_rfl
theorem Ni3 : cfgD.ext 15 = none := by kernel_rfl
theorem Ni7 : cfgD.ext 5 = none := by kernel_rfl
theorem Ni5 : cfgD.ext 6 = none := by kernel_rfl
theorem NiY : cfgD.fn 15 = some m15 := by kernel_rfl
theorem Ni0 : cfgD.fn 5 = some m5 := by kernel_rfl
theorem NiZ : cfgD.fn 6 = some m6 := by kernel_rfl
def NgE (l : List UInt8) : List UInt8 := (l.map UInt8.toNat).map dgB
theorem NgF (l : List UInt8) : digs (NgE l) := NhI _
theorem NgG (l : List UInt8) (c : UInt8) : NgE (l ++ [c]) = NgE l ++ [dgB c.toNat] := by simp [NgE]
theorem NfN (l : List UInt8) : (NgE l).length = l.length := by simp [NgE]
theorem NfO {l : List UInt8} {nm : Bool} (hl : l.length ≤ reachBytes) : ∃ fuel, evP cfgD fuel 3 [.fsl l.length (Nas l), .b nm] = some (.b true) := by
 refine ⟨200 + 1, NfR (by kernel_rfl) rfl (Na8 (by kernel_rfl : cfgD.fn 3 = some m3) ?_)⟩
 unfold m3
 simp only [Nar]
 (try rw [Z0])
 (try simp (maxSteps := 2000000) (disch := first | omega | rfl | assumption) only [↓Xp, ↓Xt, Xq, Xc, Naf, Naa, Nat.reduceAdd, Nat.reduceMul, Nat.reduceLT, Nat.reduceEqDiff, reduceIte, Xa, Xn, unP, Nag, Nah, Nai, Xm, Nat.reduceLeDiff, List.nil_append, List.cons_append, NdM])
 (try rw [Z0])
 (try simp (maxSteps := 2000000) (disch := first | omega | rfl | assumption) only [↓Xp, ↓Xt, Xq, Xc, Naf, Naa, Nat.reduceAdd, Nat.reduceMul, Nat.reduceLT, Nat.reduceEqDiff, reduceIte, Xa, Xn, unP, Nag, Nah, Nai, Xm, Nat.reduceLeDiff, List.nil_append, List.cons_append, NdM])
 have hlr : l.length < 4611686018427387904 := by have : reachBytes < 4611686018427387904 := by decide
                                                 omega
 refine Za (fun x => x.env.get 1 = .b nm ∧ x.env.get 5 = .ptr 9 0 ∧ Bld 9 (NgE (l.take 60)) x.st ∧ 9 < x.st.cnt) ?_ ?_
 ·skip
  (try rw [Z0])
  (try simp (maxSteps := 2000000) (disch := first | omega | rfl | assumption) only [↓Xp, ↓Xt, Xq, Xc, Naf, Naa, Nat.reduceAdd, Nat.reduceMul, Nat.reduceLT, Nat.reduceEqDiff, reduceIte, Xa, Xn, unP, Nag, Nah, Nai, Xm, Nat.reduceLeDiff, List.nil_append, List.cons_append])
  refine Z9 (k := 60 - 0) (fun d x => ∃ i : Nat, d = 60 - i ∧ i ≤ 60 ∧ i ≤ l.length ∧ x.env.get 0 = .fsl l.length (Nas l) ∧ x.env.get 1 = .b nm ∧ x.env.get 5 = .ptr 9 0 ∧ x.env.get 6 = .i .i64 (i : Int) ∧ Bld 9 (NgE (l.take i)) x.st ∧ 9 < x.st.cnt) ?_ ⟨0, rfl, by omega, by omega, by simp [Env.get_put], by simp [Env.get_put], by simp [Env.get_put], by simp [Env.get_put], .inl ⟨by rw [NfD, St.get_putk], rfl⟩, (by simp only; omega)⟩ (by omega)
  rintro d ⟨env, ⟨sto, cnt⟩⟩ ⟨i, rfl, hi, hil, g0, g1, g5, g6, hB, hc⟩
  simp only at g0 g1 g5 g6 hB hc
  by_cases h1 : i < l.length
  ·have h1' : (((i : Nat) : Int) < ((l.length : Nat) : Int)) = True := by simp; omega
   by_cases h2 : i < 60
   ·have h2' : (((i : Nat) : Int) < ((60 : Nat) : Int)) = True := by simp; omega
    have e1 : (Nas l).length = l.length := Nbe l
    have e2 : List.take 1 (List.drop i (Nas l)) = [.i .u8 (l[i].toNat : Int)] := by
     have : List.drop i (Nas l) = .i .u8 (l[i].toNat : Int) :: List.drop (i + 1) (Nas l) := by
      rw [List.drop_eq_getElem_cons (by rw [e1]; exact h1)]
      simp [Nas]
     rw [this]; rfl
    have e3 : (1 ≤ (List.drop i (Nas l)).length) = True := by rw [List.length_drop, e1]; simp; omega
    have z10 : (((10 : Nat) : Int) = 0) = False := by simp
    have e4 : ((l[i].toNat : Nat) : Int).tmod ((10 : Nat) : Int) = ((l[i].toNat % 10 : Nat) : Int) := by rw [Int.ofNat_tmod]
    have e5 : IntKind.u8.wrap (((48 : Nat) : Int) + ((l[i].toNat % 10 : Nat) : Int)) = (((dgB l[i].toNat).toNat : Nat) : Int) := by
     rw [IntKind.wrap_u8, Net]; omega
    have e6 : IntKind.u8.wrap (((48 + l[i].toNat % 10 : Nat)) : Int) = (((dgB l[i].toNat).toNat : Nat) : Int) := by
     rw [IntKind.wrap_u8, Net]; omega
    have eW : IntKind.i64.wrap (((i + 1 : Nat)) : Int) = ((i + 1 : Nat) : Int) := NaK _ ⟨by omega, by omega⟩
    simp (maxSteps := 2000000) (disch := first | omega | rfl | assumption) only [↓Z0, ↓Xp, ↓Xt, Xq, Xc, Naf, Naa, Nat.reduceAdd, Nat.reduceMul, Nat.reduceLT, Nat.reduceEqDiff, reduceIte, Xm, Nat.reduceLeDiff, Xa, Xn, unP, Nag, Nah, Nai, g0, g1, g5, g6, h1', h2', Ni7, e1, e2, e3, e4, z10, e5, e6]
    refine NiA (Nku NiY Ni3 Ni0 (fuel := 198) (hB.cnt (by simp only; omega)) (by simp only; omega) (by rw [NfN, List.length_take]; unfold maxBytes; omega)) ?_
    rintro v ⟨sto1, cnt1⟩ ⟨hU, hK⟩
    have hc1 := hK.c
    simp only at hc1
    simp (maxSteps := 2000000) (disch := first | omega | rfl | assumption) only [↓Z0, ↓Xp, ↓Xt, Xq, Xc, Naf, Naa, Nat.reduceAdd, Nat.reduceMul, Nat.reduceLT, Nat.reduceEqDiff, reduceIte, Xm, Nat.reduceLeDiff, Xa, Xn, unP, Nag, Nah, Nai, g0, g1, g5, g6, eW]
    refine ⟨60 - (i + 1), by omega, i + 1, rfl, by omega, by omega, rfl, ?_⟩
    rw [List.take_succ_eq_append_getElem h1, NgG]
    exact .inr (hU.cnt (by simp only; omega))
   ·have h2' : (((i : Nat) : Int) < ((60 : Nat) : Int)) = False := by simp; omega
    simp (maxSteps := 2000000) (disch := first | omega | rfl | assumption) only [↓Z0, ↓Xp, ↓Xt, Xq, Xc, Naf, Naa, Nat.reduceAdd, Nat.reduceMul, Nat.reduceLT, Nat.reduceEqDiff, reduceIte, Xm, Nat.reduceLeDiff, Xa, Xn, unP, Nag, Nah, Nai, g0, g1, g5, g6, h1', h2']
    have : i = 60 := by omega
    subst this
    exact hB.cnt (by simp only; omega)
  ·have h1' : (((i : Nat) : Int) < ((l.length : Nat) : Int)) = False := by simp; omega
   simp (maxSteps := 2000000) (disch := first | omega | rfl | assumption) only [↓Z0, ↓Xp, ↓Xt, Xq, Xc, Naf, Naa, Nat.reduceAdd, Nat.reduceMul, Nat.reduceLT, Nat.reduceEqDiff, reduceIte, Xm, Nat.reduceLeDiff, Xa, Xn, unP, Nag, Nah, Nai, g0, g1, g5, g6, h1']
   have e : l.take 60 = l.take i := by rw [List.take_of_length_le (by omega), List.take_of_length_le (by omega)]
   rw [e]
   exact hB.cnt (by simp only; omega)
 ·rintro ⟨env, ⟨sto, cnt⟩⟩ ⟨g1, g5, hB, hc⟩
  simp only at g1 g5 hB hc
  generalize hd : NgE (l.take 60) = d at hB
  have hdd : digs d := by rw [← hd]; exact NgF _
  have hdl : d.length ≤ 60 := by rw [← hd, NfN, List.length_take]; omega
  have aw : ∀ st key, Nax (Nau cfgD (Na5 cfgD 200) 7) false st key [] = some (.b true, st) := fun st key => Nan rfl (by rw [NaD Ni2]; rfl) rfl
  (try rw [Z0])
  (try simp (maxSteps := 2000000) (disch := first | omega | rfl | assumption) only [↓Xp, ↓Xt, Xq, Xc, Naf, Naa, Nat.reduceAdd, Nat.reduceMul, Nat.reduceLT, Nat.reduceEqDiff, reduceIte, Xa, Xn, unP, Nag, Nah, Nai, Xm, Nat.reduceLeDiff, List.nil_append, List.cons_append, Ni5, g1, g5])
  refine NiA (Njx NiZ (fuel := 199) (hB.cnt (by simp only; omega)) (by simp only; omega) (by unfold maxBytes; omega)) ?_
  rintro v ⟨sto1, cnt1⟩ ⟨rfl, hK⟩
  have hc1 := hK.c
  simp only at hc1
  by_cases hn : d = []
  ·have q1 : (d == []) = true := by rw [hn]; rfl
   (try rw [Z0])
   (try simp (maxSteps := 2000000) (disch := first | omega | rfl | assumption) only [↓Xp, ↓Xt, Xq, Xc, Naf, Naa, Nat.reduceAdd, Nat.reduceMul, Nat.reduceLT, Nat.reduceEqDiff, reduceIte, Xa, Xn, unP, Nag, Nah, Nai, Xm, Nat.reduceLeDiff, List.nil_append, List.cons_append, q1, aw, g1, g5])
   (try rw [Z0])
   (try simp (maxSteps := 2000000) (disch := first | omega | rfl | assumption) only [↓Xp, ↓Xt, Xq, Xc, Naf, Naa, Nat.reduceAdd, Nat.reduceMul, Nat.reduceLT, Nat.reduceEqDiff, reduceIte, Xa, Xn, unP, Nag, Nah, Nai, Xm, Nat.reduceLeDiff, List.nil_append, List.cons_append, q1, aw, g1, g5])
   (try rw [Z0])
   (try simp (maxSteps := 2000000) (disch := first | omega | rfl | assumption) only [↓Xp, ↓Xt, Xq, Xc, Naf, Naa, Nat.reduceAdd, Nat.reduceMul, Nat.reduceLT, Nat.reduceEqDiff, reduceIte, Xa, Xn, unP, Nag, Nah, Nai, Xm, Nat.reduceLeDiff, List.nil_append, List.cons_append, q1, aw, g1, g5])
   refine ⟨nofun, _, rfl, ?_⟩
   simp only [Nds, ↓Z0, ↓Xp, ↓Xt, Xq, Xc, Naf, Naa, Nat.reduceAdd, Nat.reduceMul, Nat.reduceLT, Nat.reduceEqDiff, reduceIte]
   rfl
  ·have q1 : (d == []) = false := by cases d <;> simp_all
   have hne : d.length ≠ 0 := by simpa using hn
   obtain ⟨n, hL⟩ : ∃ n, d.length = n + 1 := ⟨d.length - 1, by omega⟩
   have eS : IntKind.i64.wrap (((n + 1 : Nat) : Int) - ((1 : Nat) : Int)) = (n : Int) := by
    rw [NaK _ ⟨by omega, by omega⟩]; omega
   have b1 : NaB (some (.i .i64 (n : Int))) (n + 1) (n + 1) = some n := by
    simp only [NaB]; rw [if_pos (by omega)]; rfl
   have b2 : NaB (some (.i .i64 (n : Int))) 0 (n + 1) = some n := by
    simp only [NaB]; rw [if_pos (by omega)]; rfl
   have dq : ∀ st a b, Nbx st [.s a, .s b] = some [.s a, .s b] := fun _ _ _ => rfl
   have tr : Nau cfgD (Na5 cfgD 200) 8 [.s (List.take (n - 0) d), .s [48]] = some (.s (Nb4 48 (List.take n d))) := by
    rw [NaD Ni6]
    show (if _ then _ else _) = _
    rw [if_pos (by rw [List.length_take]; omega)]
    rfl
   have ap : Nb4 48 (List.take n d) ++ List.take (n + 1 - n) (List.drop n d) = Nae d := by
    have e1 : List.drop n d = [d[n]] := by rw [List.drop_eq_getElem_cons (by omega), List.drop_of_length_le (by omega)]
    have e2 : List.take n d ++ [d[n]] = d := by rw [← List.take_succ_eq_append_getElem (by omega), List.take_of_length_le (by omega)]
    have e3 : List.take (n + 1 - n) [d[n]] = [d[n]] := by rw [show n + 1 - n = 1 by omega]; rfl
    rw [e1, e3, Ndr, e2]
   have al : ((Nb4 48 (List.take n d)).length + (List.take (n + 1 - n) (List.drop n d)).length < 9223372036854775807) = True := by
    rw [← List.length_append, ap]
    have := Nc3 d
    simp; omega
   have cb : ∀ l, PV.closedB (.s l) = true := fun _ => rfl
   have rb : ∀ (st : St) (key : Nat) l, NaC st key (.s l) = some (.s l, st) := fun _ _ _ => rfl
   (try rw [Z0])
   (try simp (maxSteps := 2000000) (disch := first | omega | rfl | assumption) only [↓Xp, ↓Xt, Xq, Xc, Naf, Naa, Nat.reduceAdd, Nat.reduceMul, Nat.reduceLT, Nat.reduceEqDiff, reduceIte, Xa, Xn, unP, Nag, Nah, Nai, Xm, Nat.reduceLeDiff, List.nil_append, List.cons_append, q1, g1, g5])
   (try rw [Z0])
   (try simp (maxSteps := 2000000) (disch := first | omega | rfl | assumption) only [↓Xp, ↓Xt, Xq, Xc, Naf, Naa, Nat.reduceAdd, Nat.reduceMul, Nat.reduceLT, Nat.reduceEqDiff, reduceIte, Xa, Xn, unP, Nag, Nah, Nai, Xm, Nat.reduceLeDiff, List.nil_append, List.cons_append, q1, g1, g5])
   refine Za (fun x => x.env.get 1 = .b nm ∧ x.env.get 7 = .s d ∧ x.env.get 8 = .s (Nae d)) ?_ ?_
   ·simp (maxSteps := 2000000) (disch := first | omega | rfl | assumption) only [↓Z0, ↓Xp, ↓Xt, Xq, Xc, Naf, Naa, Nat.reduceAdd, Nat.reduceMul, Nat.reduceLT, Nat.reduceEqDiff, reduceIte, Xm, Nat.reduceLeDiff, Xa, Xn, unP, Nag, Nah, Nai, g1, hL, eS, b1, b2, dq, tr, cb, rb, ap, al]
   rintro ⟨env, ⟨sto, cnt⟩⟩ ⟨g1, g7, g8⟩
   simp only at g1 g7 g8
   generalize hF : decide (NaW 0 d ≤ 9223372036854775807) = F
   have hfit := NgT hdd
   refine Za (fun x => x.env.get 1 = .b nm ∧ x.env.get 7 = .s d ∧ x.env.get 8 = .s (Nae d) ∧ x.env.get 9 = .b F) ?_ ?_
   ·rcases Nat.lt_trichotomy (Nae d).length 19 with h | h | h
    ·have c1 : ((((Nae d).length : Nat) : Int) < ((19 : Nat) : Int)) = True := by simp; omega
     have hF1 : F = true := by rw [← hF]; exact decide_eq_true (hfit.1 (by simp [h]))
     subst hF1
     simp (maxSteps := 2000000) (disch := first | omega | rfl | assumption) only [↓Z0, ↓Xp, ↓Xt, Xq, Xc, Naf, Naa, Nat.reduceAdd, Nat.reduceMul, Nat.reduceLT, Nat.reduceEqDiff, reduceIte, Xm, Nat.reduceLeDiff, Xa, Xn, unP, Nag, Nah, Nai, g1, g7, g8, c1]
    ·have c1 : (((19 : Nat) : Int) < ((19 : Nat) : Int)) = False := by simp
     have c2 : (((19 : Nat) : Int) == ((19 : Nat) : Int)) = true := by simp
     have c3 : (Op.bytesLess (Nae d) [57, 50, 50, 51, 51, 55, 50, 48, 51, 54, 56, 53, 52, 55, 55, 53, 56, 48, 55] || Nae d == [57, 50, 50, 51, 51, 55, 50, 48, 51, 54, 56, 53, 52, 55, 55, 53, 56, 48, 55]) = F := by
      have e1 : decide ((Nae d).length < 19) = false := by simp [h]
      have e2 : decide ((Nae d).length = 19) = true := by simp [h]
      rw [e1, e2, Bool.false_or, Bool.true_and] at hfit
      show (Op.bytesLess (Nae d) mostT || Nae d == mostT) = F
      rw [← hF]
      generalize (Op.bytesLess (Nae d) mostT || Nae d == mostT) = z at hfit
      cases z
      ·symm; exact decide_eq_false (fun q => by cases hfit.2 q)
      ·symm; exact decide_eq_true (hfit.1 rfl)
     simp (maxSteps := 2000000) (disch := first | omega | rfl | assumption) only [↓Z0, ↓Xp, ↓Xt, Xq, Xc, Naf, Naa, Nat.reduceAdd, Nat.reduceMul, Nat.reduceLT, Nat.reduceEqDiff, reduceIte, Xm, Nat.reduceLeDiff, Xa, Xn, unP, Nag, Nah, Nai, g1, g7, g8, h, c1, c2, c3]
    ·have c1 : ((((Nae d).length : Nat) : Int) < ((19 : Nat) : Int)) = False := by simp; omega
     have c2 : ((((Nae d).length : Nat) : Int) == ((19 : Nat) : Int)) = false := by simp; omega
     have hF1 : F = false := by
      rw [← hF]
      refine decide_eq_false fun q => ?_
      have := hfit.2 q
      simp [show ¬ (Nae d).length < 19 by omega, show ¬ (Nae d).length = 19 by omega] at this
     subst hF1
     simp (maxSteps := 2000000) (disch := first | omega | rfl | assumption) only [↓Z0, ↓Xp, ↓Xt, Xq, Xc, Naf, Naa, Nat.reduceAdd, Nat.reduceMul, Nat.reduceLT, Nat.reduceEqDiff, reduceIte, Xm, Nat.reduceLeDiff, Xa, Xn, unP, Nag, Nah, Nai, g1, g7, g8, c1, c2]
   rintro ⟨env, ⟨sto, cnt⟩⟩ ⟨g1, g7, g8, g9⟩
   simp only at g1 g7 g8 g9
   obtain ⟨beh, hbeh, hbb⟩ : ∃ beh : List UInt8, beh = (if nm then [32, 120, 49] else []) ∧ (beh = [] ∨ ∃ r, beh = 32 :: r) := ⟨_, rfl, by cases nm; exact .inl rfl; exact .inr ⟨_, rfl⟩⟩
   rw [NiC]
   refine Za (fun x => x.env.get 10 = .s beh ∧ x.env.get 7 = .s d ∧ x.env.get 8 = .s (Nae d) ∧ x.env.get 9 = .b F) ?_ ?_
   ·cases nm <;> (simp only [if_true, Bool.false_eq_true, if_false] at hbeh; subst hbeh; simp (maxSteps := 2000000) (disch := first | omega | rfl | assumption) only [↓Z0, ↓Xp, ↓Xt, Xq, Xc, Naf, Naa, Nat.reduceAdd, Nat.reduceMul, Nat.reduceLT, Nat.reduceEqDiff, reduceIte, Xm, Nat.reduceLeDiff, Xa, Xn, unP, Nag, Nah, Nai, g1, g7, g8, g9])
   rintro ⟨env, ⟨sto, cnt⟩⟩ ⟨g10, g7, g8, g9⟩
   simp only at g10 g7 g8 g9
   have hlen2 : d.length + beh.length ≤ 63 := by
    have : beh.length ≤ 3 := by rw [hbeh]; cases nm <;> simp
    omega
   have hlen : (d ++ beh).length ≤ 63 := by rw [List.length_append]; exact hlen2
   have hnx := NeD hn hdd hbb
   have gn : gNext [.s (d ++ beh), .i .i64 ((0 : Nat) : Int)] = some (NbW (d ++ beh) 0) := by
    show some (if 16384 < (d ++ beh).length then _ else if _ then _ else _) = _
    rw [if_neg (by omega), if_neg (by rintro (h | h) <;> omega)]
    rfl
   have al : (d.length + beh.length < 9223372036854775807) = True := by simp only [eq_iff_iff, iff_true]; omega
   by_cases hv : NaW 0 d ≤ 9223372036854775807
   ·rw [if_pos hv] at hnx
    rw [decide_eq_true hv] at hF
    subst hF
    have nx : ∀ st key, Nax (Nau cfgD (Na5 cfgD 200) 9) false st key [.s (d ++ beh), .i .i64 ((0 : Nat) : Int)] = some (.tup [.agg [.i .u8 1, .s [], .i .i64 (NaW 0 d : Int), .i .i64 1, .i .i64 0, .i .i64 (d.length : Int)], .agg [.i .i64 0, .i .i64 0]], st) := fun st key =>
     Nan rfl (by rw [NaD Nho, gn, hnx]; rfl) rfl
    generalize hV : NaW 0 d = V at nx hv
    refine Za (fun x => x.env.get 7 = .s d ∧ x.env.get 8 = .s (Nae d) ∧ x.env.get 9 = .b true ∧ ∃ K J, x.env.get 11 = .ptr K 0 ∧ x.env.get 12 = .ptr J 0 ∧ x.st.get K = some (.cells [.i .u8 1, .s [], .i .i64 (V : Int), .i .i64 1, .i .i64 0, .i .i64 (d.length : Int)] false) ∧ x.st.get J = some (.cells [.i .i64 0, .i .i64 0] false)) ?_ ?_
    ·skip
     (try rw [Z0])
     (try simp (maxSteps := 2000000) (disch := first | omega | rfl | assumption) only [↓Xp, ↓Xt, Xq, Xc, Naf, Naa, Nat.reduceAdd, Nat.reduceMul, Nat.reduceLT, Nat.reduceEqDiff, reduceIte, Xa, Xn, unP, Nag, Nah, Nai, Xm, Nat.reduceLeDiff, List.nil_append, List.cons_append, g10, g7, g8, g9, al, nx])
     refine ⟨cnt + 56, cnt + 64, rfl, rfl, ?_, ?_⟩
     ·rw [NfD, St.get_put_ne (by omega), St.get_putk]
     ·rw [NfD, St.get_putk]
    rintro ⟨env, ⟨sto, cnt⟩⟩ ⟨g7, g8, g9, K, J, g11, g12, kK, kJ⟩
    simp only at g7 g8 g9 g11 g12 kK kJ
    have kK' : ∀ n', St.get ⟨sto, n'⟩ K = some (.cells [.i .u8 1, .s [], .i .i64 (V : Int), .i .i64 1, .i .i64 0, .i .i64 (d.length : Int)] false) := fun _ => kK
    have kJ' : ∀ n', St.get ⟨sto, n'⟩ J = some (.cells [.i .i64 0, .i .i64 0] false) := fun _ => kJ
    (try rw [Z0])
    (try simp (maxSteps := 2000000) (disch := first | omega | rfl | assumption) only [↓Xp, ↓Xt, Xq, Xc, Naf, Naa, Nat.reduceAdd, Nat.reduceMul, Nat.reduceLT, Nat.reduceEqDiff, reduceIte, Xa, Xn, unP, Nag, Nah, Nai, Xm, Nat.reduceLeDiff, List.nil_append, List.cons_append, g9, g11, kK'])
    (try rw [Z0])
    (try simp (maxSteps := 2000000) (disch := first | omega | rfl | assumption) only [↓Xp, ↓Xt, Xq, Xc, Naf, Naa, Nat.reduceAdd, Nat.reduceMul, Nat.reduceLT, Nat.reduceEqDiff, reduceIte, Xa, Xn, unP, Nag, Nah, Nai, Xm, Nat.reduceLeDiff, List.nil_append, List.cons_append, g9, g11, kK'])
    (try rw [Z0])
    (try simp (maxSteps := 2000000) (disch := first | omega | rfl | assumption) only [↓Xp, ↓Xt, Xq, Xc, Naf, Naa, Nat.reduceAdd, Nat.reduceMul, Nat.reduceLT, Nat.reduceEqDiff, reduceIte, Xa, Xn, unP, Nag, Nah, Nai, Xm, Nat.reduceLeDiff, List.nil_append, List.cons_append, g9, g11, kK'])
    generalize hs : Nae d = s at g8
    have hsd : digs s := by rw [← hs]; exact Nbm hdd
    have hsv : NaW 0 s = V := by rw [← hs, NbI, hV]
    have hsl : s.length ≤ 60 := by have := Nc3 d; rw [hs] at this; omega
    have hs1 : s ≠ [] := by
     rw [← hs]
     intro h0
     have h1 := ap
     rw [h0] at h1
     have h2 : List.drop n d = [] := by
      have := List.append_eq_nil_iff.1 h1
      have h3 := this.2
      rw [List.take_of_length_le (by rw [List.length_drop]; omega)] at h3
      exact h3
     have := congrArg List.length h2
     rw [List.length_drop] at this
     simp at this; omega
    have hs2 : s.length ≠ 0 := by simpa using hs1
    obtain ⟨q, hq⟩ : ∃ q, s.length = q + 1 := ⟨s.length - 1, by omega⟩
    have eQ : IntKind.i64.wrap (((q + 1 : Nat) : Int) - ((1 : Nat) : Int)) = (q : Int) := by
     rw [NaK _ ⟨by omega, by omega⟩]; omega
    refine Za (fun x => x.env.get 7 = .s d ∧ x.env.get 11 = .ptr K 0 ∧ x.env.get 12 = .ptr J 0 ∧ x.env.get 13 = .i .i64 0 ∧ x.st.get K = some (.cells [.i .u8 1, .s [], .i .i64 (V : Int), .i .i64 1, .i .i64 0, .i .i64 (d.length : Int)] false) ∧ x.st.get J = some (.cells [.i .i64 0, .i .i64 0] false)) ?_ ?_
    ·skip
     (try rw [Z0])
     (try simp (maxSteps := 2000000) (disch := first | omega | rfl | assumption) only [↓Xp, ↓Xt, Xq, Xc, Naf, Naa, Nat.reduceAdd, Nat.reduceMul, Nat.reduceLT, Nat.reduceEqDiff, reduceIte, Xa, Xn, unP, Nag, Nah, Nai, Xm, Nat.reduceLeDiff, List.nil_append, List.cons_append, g8, hq, eQ])
     refine Z9 (k := q + 1) (fun e x => ∃ j : Nat, e = j ∧ j ≤ s.length ∧ x.env.get 7 = .s d ∧ x.env.get 8 = .s s ∧ x.env.get 11 = .ptr K 0 ∧ x.env.get 12 = .ptr J 0 ∧ x.env.get 13 = .i .i64 (NaW 0 (s.take j) : Int) ∧ x.env.get 14 = .i .i64 ((j : Int) - 1) ∧ x.st.get K = some (.cells [.i .u8 1, .s [], .i .i64 (V : Int), .i .i64 1, .i .i64 0, .i .i64 (d.length : Int)] false) ∧ x.st.get J = some (.cells [.i .i64 0, .i .i64 0] false)) ?_ ⟨q + 1, rfl, by omega, by simp [Env.get_put, g7], by simp [Env.get_put, g8], by simp [Env.get_put, g11], by simp [Env.get_put, g12], by simp [Env.get_put, ← hq, hsv], by simp [Env.get_put], kK, kJ⟩ (by omega)
     rintro j ⟨env, ⟨sto, cnt⟩⟩ ⟨_, rfl, hj, g7, g8, g11, g12, g13, g14, kK, kJ⟩
     simp only at g7 g8 g11 g12 g13 g14 kK kJ
     cases j with
     | zero =>
       have c1 : (((0 : Nat) : Int) - 1 ≥ ((0 : Nat) : Int)) = False := by simp
       simp (maxSteps := 2000000) (disch := first | omega | rfl | assumption) only [↓Z0, ↓Xp, ↓Xt, Xq, Xc, Naf, Naa, Nat.reduceAdd, Nat.reduceMul, Nat.reduceLT, Nat.reduceEqDiff, reduceIte, Xm, Nat.reduceLeDiff, Xa, Xn, unP, Nag, Nah, Nai, g7, g8, g11, g12, g13, g14, c1]
       exact ⟨rfl, kK, kJ⟩
     | succ i =>
       obtain ⟨w1, w2⟩ := Ngo hsd (i := i) (by omega)
       have hle := Nej s (i + 1)
       rw [hsv] at hle
       generalize NaW 0 (s.take (i + 1)) = U at g13 w1 w2 hle
       have hsi : s[i]? = some s[i] := List.getElem?_eq_getElem (by omega)
       have c0 : (((i + 1 : Nat) : Int) - 1) = (i : Int) := by omega
       rw [c0] at g14
       have c1 : ((i : Int) ≥ ((0 : Nat) : Int)) = True := by simp
       have c2 : ((U : Int) < ((0 : Nat) : Int)) = False := by simp
       have z0 : ((0 : Int) ≤ (i : Int)) = True := by simp
       have z10 : (((10 : Nat) : Int) = 0) = False := by simp
       have em : (U : Int).tmod ((10 : Nat) : Int) = ((U % 10 : Nat) : Int) := by rw [Int.ofNat_tmod]
       have ed : (U : Int).tdiv ((10 : Nat) : Int) = ((U / 10 : Nat) : Int) := by rw [Int.ofNat_tdiv]
       have ew : IntKind.i64.wrap (((48 : Nat) : Int) + ((U % 10 : Nat) : Int)) = ((48 + U % 10 : Nat) : Int) := by
        rw [NaK _ ⟨by omega, by omega⟩]; omega
       have ew2 : IntKind.i64.wrap ((48 + U % 10 : Nat) : Int) = ((48 + U % 10 : Nat) : Int) := NaK _ ⟨by omega, by omega⟩
       have ec : IntKind.u8.wrap ((48 + U % 10 : Nat) : Int) = ((s[i].toNat : Nat) : Int) := by
        rw [IntKind.wrap_u8]; omega
       have en : (((s[i].toNat : Nat) : Int) != ((s[i].toNat : Nat) : Int)) = false := by simp
       have eu : IntKind.i64.wrap ((U / 10 : Nat) : Int) = ((U / 10 : Nat) : Int) := NaK _ ⟨by omega, by omega⟩
       have e1 : IntKind.i64.wrap ((i : Int) - ((1 : Nat) : Int)) = (i : Int) - 1 := by
        rw [NaK _ ⟨by omega, by omega⟩]; rfl
       simp (maxSteps := 2000000) (disch := first | omega | rfl | assumption) only [↓Z0, ↓Xp, ↓Xt, Xq, Xc, Naf, Naa, Nat.reduceAdd, Nat.reduceMul, Nat.reduceLT, Nat.reduceEqDiff, reduceIte, Xm, Nat.reduceLeDiff, Xa, Xn, unP, Nag, Nah, Nai, g7, g8, g11, g12, g13, g14, c1, c2, z0, z10, em, ed, ew, ew2, ec, en, eu, e1, hsi]
       exact ⟨i, by omega, i, rfl, by omega, by rw [w2], rfl, kK, kJ⟩
    ·rintro ⟨env, ⟨sto, cnt⟩⟩ ⟨g7, g11, g12, g13, kK, kJ⟩
     simp only at g7 g11 g12 g13 kK kJ
     have kK' : ∀ n', St.get ⟨sto, n'⟩ K = some (.cells [.i .u8 1, .s [], .i .i64 (V : Int), .i .i64 1, .i .i64 0, .i .i64 (d.length : Int)] false) := fun _ => kK
     have kJ' : ∀ n', St.get ⟨sto, n'⟩ J = some (.cells [.i .i64 0, .i .i64 0] false) := fun _ => kJ
     have hnil : (([] : List UInt8) == []) = true := rfl
     have hee : ∀ x : Int, (x == x) = true := fun x => beq_self_eq_true x
     (try rw [Z0])
     (try simp (maxSteps := 2000000) (disch := first | omega | rfl | assumption) only [↓Xp, ↓Xt, Xq, Xc, Naf, Naa, Nat.reduceAdd, Nat.reduceMul, Nat.reduceLT, Nat.reduceEqDiff, reduceIte, Xa, Xn, unP, Nag, Nah, Nai, Xm, Nat.reduceLeDiff, List.nil_append, List.cons_append, g7, g11, g12, g13, kK', kJ', hee, aw, hnil])
     (try rw [Z0])
     (try simp (maxSteps := 2000000) (disch := first | omega | rfl | assumption) only [↓Xp, ↓Xt, Xq, Xc, Naf, Naa, Nat.reduceAdd, Nat.reduceMul, Nat.reduceLT, Nat.reduceEqDiff, reduceIte, Xa, Xn, unP, Nag, Nah, Nai, Xm, Nat.reduceLeDiff, List.nil_append, List.cons_append, g7, g11, g12, g13, kK', kJ', hee, aw, hnil])
     (try rw [Z0])
     (try simp (maxSteps := 2000000) (disch := first | omega | rfl | assumption) only [↓Xp, ↓Xt, Xq, Xc, Naf, Naa, Nat.reduceAdd, Nat.reduceMul, Nat.reduceLT, Nat.reduceEqDiff, reduceIte, Xa, Xn, unP, Nag, Nah, Nai, Xm, Nat.reduceLeDiff, List.nil_append, List.cons_append, g7, g11, g12, g13, kK', kJ', hee, aw, hnil])
     (try rw [Z0])
     (try simp (maxSteps := 2000000) (disch := first | omega | rfl | assumption) only [↓Xp, ↓Xt, Xq, Xc, Naf, Naa, Nat.reduceAdd, Nat.reduceMul, Nat.reduceLT, Nat.reduceEqDiff, reduceIte, Xa, Xn, unP, Nag, Nah, Nai, Xm, Nat.reduceLeDiff, List.nil_append, List.cons_append, g7, g11, g12, g13, kK', kJ', hee, aw, hnil])
     refine ⟨nofun, _, rfl, ?_⟩
     simp only [Nds, ↓Z0, ↓Xp, ↓Xt, Xq, Xc, Naf, Naa, Nat.reduceAdd, Nat.reduceMul, Nat.reduceLT, Nat.reduceEqDiff, reduceIte]
     rfl
   ·rw [if_neg hv] at hnx
    rw [decide_eq_false hv] at hF
    subst hF
    have nx : ∀ st key, Nax (Nau cfgD (Na5 cfgD 200) 9) false st key [.s (d ++ beh), .i .i64 ((0 : Nat) : Int)] = some (.tup [.agg [.i .u8 0, .s [], .i .i64 0, .i .i64 0, .i .i64 0, .i .i64 0], .agg [.i .i64 100, .i .i64 1]], st) := fun st key =>
     Nan rfl (by rw [NaD Nho, gn, hnx]; rfl) rfl
    have hno : ∀ st key, Nax (Nau cfgD (Na5 cfgD 200) 10) false st key [.s (d ++ beh), .i .i64 ((0 : Nat) : Int), .i .i64 ((1 : Nat) : Int)] = some (.b true, st) := fun st key => by
     refine Nan rfl ?_ rfl
     rw [NaD Ni4]
     simp only [gNot]
     rw [if_pos (show gNext [.s (d ++ beh), .i .i64 ((0 : Nat) : Int)] = some (NaV 100 ((1 : Nat) : Int)) from gn.trans (congrArg some hnx))]
    (try rw [Z0])
    (try simp (maxSteps := 2000000) (disch := first | omega | rfl | assumption) only [↓Xp, ↓Xt, Xq, Xc, Naf, Naa, Nat.reduceAdd, Nat.reduceMul, Nat.reduceLT, Nat.reduceEqDiff, reduceIte, Xa, Xn, unP, Nag, Nah, Nai, Xm, Nat.reduceLeDiff, List.nil_append, List.cons_append, g10, g7, g8, g9, al, nx, hno, aw])
    (try rw [Z0])
    (try simp (maxSteps := 2000000) (disch := first | omega | rfl | assumption) only [↓Xp, ↓Xt, Xq, Xc, Naf, Naa, Nat.reduceAdd, Nat.reduceMul, Nat.reduceLT, Nat.reduceEqDiff, reduceIte, Xa, Xn, unP, Nag, Nah, Nai, Xm, Nat.reduceLeDiff, List.nil_append, List.cons_append, g10, g7, g8, g9, al, nx, hno, aw])
    (try rw [Z0])
    (try simp (maxSteps := 2000000) (disch := first | omega | rfl | assumption) only [↓Xp, ↓Xt, Xq, Xc, Naf, Naa, Nat.reduceAdd, Nat.reduceMul, Nat.reduceLT, Nat.reduceEqDiff, reduceIte, Xa, Xn, unP, Nag, Nah, Nai, Xm, Nat.reduceLeDiff, List.nil_append, List.cons_append, g10, g7, g8, g9, al, nx, hno, aw])
    (try rw [Z0])
    (try simp (maxSteps := 2000000) (disch := first | omega | rfl | assumption) only [↓Xp, ↓Xt, Xq, Xc, Naf, Naa, Nat.reduceAdd, Nat.reduceMul, Nat.reduceLT, Nat.reduceEqDiff, reduceIte, Xa, Xn, unP, Nag, Nah, Nai, Xm, Nat.reduceLeDiff, List.nil_append, List.cons_append, g10, g7, g8, g9, al, nx, hno, aw])
    (try rw [Z0])
    (try simp (maxSteps := 2000000) (disch := first | omega | rfl | assumption) only [↓Xp, ↓Xt, Xq, Xc, Naf, Naa, Nat.reduceAdd, Nat.reduceMul, Nat.reduceLT, Nat.reduceEqDiff, reduceIte, Xa, Xn, unP, Nag, Nah, Nai, Xm, Nat.reduceLeDiff, List.nil_append, List.cons_append, g10, g7, g8, g9, al, nx, hno, aw])
    refine ⟨nofun, _, rfl, ?_⟩
    simp only [Nds, ↓Z0, ↓Xp, ↓Xt, Xq, Xc, Naf, Naa, Nat.reduceAdd, Nat.reduceMul, Nat.reduceLT, Nat.reduceEqDiff, reduceIte]
    rfl
theorem Nhp : ∀ {n : Nat} {ps : List PV}, ps.length = n * 1 → (∀ j, j < n → (Sh.i .u8).Is ((ps.drop (j * 1)).take 1)) → ∃ l : List UInt8, ps = Nas l ∧ l.length = n
 | 0, ps, hl, _ => ⟨[], by have : ps = [] := List.length_eq_zero_iff.1 (by omega)
                           rw [this]; rfl, rfl⟩
 | n + 1, ps, hl, h => by
   obtain ⟨x, h1, h2⟩ := h 0 (by omega)
   obtain ⟨l, q1, q2⟩ := Nhp (n := n) (ps := ps.drop 1) (by rw [List.length_drop]; omega) (fun j hj => by
    have := h (j + 1) (by omega)
    rw [List.drop_drop, show 1 + j * 1 = (j + 1) * 1 by omega]
    exact this)
   have hu : 0 ≤ x ∧ x < 256 := by
    simp [Lit.wf, IntKind.min, IntKind.max, IntKind.signed, IntKind.bits] at h2
    omega
   refine ⟨UInt8.ofNat x.toNat :: l, ?_, by simp [q2]⟩
   have h3 : (((UInt8.ofNat x.toNat).toNat : Nat) : Int) = x := by
    rw [UInt8.toNat_ofNat']; omega
   show ps = .i .u8 ((UInt8.ofNat x.toNat).toNat : Int) :: Nas l
   rw [h3, ← q1]
   have : ps = ps.take 1 ++ ps.drop 1 := (List.take_append_drop 1 ps).symm
   rw [Nat.zero_mul, List.drop_zero] at h1
   rw [this, h1]
   rfl
theorem Nfj (n : Nat) (ps : List PV) (hl : ps.length = n * (Sh.i .u8).width) (hn : n ≤ reachBytes) (h : ∀ j, j < n → (Sh.i .u8).Is ((ps.drop (j * (Sh.i .u8).width)).take (Sh.i .u8).width)) (nm : Bool) : ∃ fuel, evP cfgD fuel 3 [.fsl n ps, .b nm] = some (.b true) := by
 obtain ⟨l, rfl, rfl⟩ := Nhp hl h
 exact NfO hn
end Go.Pe
