/-
 CodeRound: the law, by the interpreter of plain data. No condition.
-/
import Derived.Test.YtnnokaklkegngaaDoorCodA
import Derived.Test.YtnnokaklkegngaaDoorCodD
import Derived.Test.YtnnokaklkegngaaDoorPe7
import Derived.Test.YtnnokaklkegngaaDoorPeL3
import Derived.Test.YtnnokaklkegngaaDoorPeL8
import Derived.Test.YtnnokaklkegngaaDoorPeL10
set_option linter.unusedVariables false
set_option linter.unusedSimpArgs false
set_option maxHeartbeats 8000000
set_option maxRecDepth 100000
namespace Go.Pe
open Go Go.Am Go.RowKit

def exX : Ex := .mk 2 [120] (Int.ofNat 0) true []
def exY : Ex := .mk 2 [121] (Int.ofNat 1) true []
def exq : Nat → Ex
 | 0 => .mk 1 [] (Int.ofNat 0) true []
 | 1 => .mk 1 [] (Int.ofNat 0) true []
 | 2 => .mk 3 [43] (Int.ofNat 0) false [exX, exY]
 | 3 => .mk 3 [45] (Int.ofNat 0) false [exX, exY]
 | 4 => .mk 3 [42] (Int.ofNat 0) false [exX, exY]
 | 5 => .mk 3 [61, 61] (Int.ofNat 0) false [exX, exY]
 | 6 => .mk 3 [60] (Int.ofNat 0) false [exX, exY]
 | 7 => .mk 3 [45] (Int.ofNat 0) false [exY]
 | _ => .mk 3 [43] (Int.ofNat 0) false [exX, .mk 3 [45] (Int.ofNat 0) false [exY]]
def NfV (n : Nat) (e : Ex) : List PV := [.i .u8 (Int.ofNat 3), .i .u8 (Int.ofNat 0), .i .i64 (Int.ofNat 0), .i .i64 (Int.ofNat n), .i .i64 (Int.ofNat 0), .i .i64 (Int.ofNat 0), .fsl 1 e.cs]
def insC : List PV := NfV 0 (exq 0) ++ (NfV 1 (exq 1) ++ (NfV 2 (exq 2) ++ (NfV 2 (exq 3) ++ (NfV 2 (exq 4) ++ (NfV 2 (exq 5) ++ (NfV 2 (exq 6) ++ (NfV 2 (exq 7) ++ NfV 2 (exq 8))))))))
def thrC : List PV := [.s [116], .fsl 3 [.s [120], .s [121], .s [122]], .fsl 9 insC]
def Nex : List UInt8 := [116, 104, 114, 101, 97, 100, 32, 116, 32, 123, 32, 115, 101, 116, 32, 120, 32, 48, 59, 32, 115, 101, 116, 32, 121, 32, 48, 59, 32, 115, 101, 116, 32, 122, 32, 120, 32, 43, 32, 121, 59, 32, 115, 101, 116, 32, 122, 32, 120, 32, 45, 32, 121, 59, 32, 115, 101, 116, 32, 122, 32, 120, 32, 42, 32, 121, 59, 32, 115, 101, 116, 32, 122, 32, 120, 32, 61, 61, 32, 121, 59, 32, 115, 101, 116, 32, 122, 32, 120, 32, 60, 32, 121, 59, 32, 115, 101, 116, 32, 122, 32, 45, 32, 121, 59, 32, 115, 101, 116, 32, 122, 32, 120, 32, 43, 32, 40, 45, 32, 121, 41, 59, 32, 125]
theorem NfB : fvP cfgNx 200 7 [.s Nex] = some (.agg [.nsl, .fsl 1 thrC]) := by kernel_rfl
noncomputable def tblR3 : List (Nat × MFunc) := (8, m8) :: (10, m10) :: tblX3
theorem Nfc : Nhs Go.Proofs.Tryd.prog (Nab Go.Proofs.Tryd.prog []) tblR3 := ⟨t8, t10, Ngd⟩
def NdM : List PV → Option PV
 | [.s t] => if t = Nex then some (.agg [.nsl, .fsl 1 thrC]) else none
 | _ => none
theorem Nfe (args : List PV) (r : PV) (h : NdM args = some r) : ∃ fuel, evP cfgNx fuel 7 args = some r := by
 unfold NdM at h
 split at h
 ·split at h
  ·rename_i ht
   subst ht
   rw [← h]
   refine ⟨200, ?_⟩
   have := NfB
   rwa [Nfv] at this
  ·cases h
 ·cases h
def Ni0 : FuncId → Option (List PV → Option PV) := fun f => if f = 7 then some NdM else Nix f
theorem Nhq {Gl : Gmap} {m : Int} (hg : Gl 0 0 = some (.int .i64 m)) : ∀ f g, Ni0 f = some g → Na3 Go.Proofs.Tryd.prog Gl f g := by
 intro f g h
 unfold Ni0 at h
 split at h
 ·rename_i e; simp only [Sj] at h; subst h; subst e
  exact Ne0 (Nes hg) Nfe
 ·exact NgN hg f g h
noncomputable def cfgL3 : Cfg := { fn := fun f => Nb8 f tblR3, ext := Ni0 }
theorem Ngq {Gl : Gmap} {m : Int} (hg : Gl 0 0 = some (.int .i64 m)) : CfgOK Go.Proofs.Tryd.prog Gl cfgL3 := NdV Nfc (Nhq hg)
theorem Nb4 {k : Nat} {m0 m : MFunc} {l : List (Nat × MFunc)} {f : Nat} (h0 : Nb8 k tblL = none) (hl : Nb8 f tblL = some m) (h : Nb8 f l = some m) : Nb8 f ((k, m0) :: l) = some m := by
 have hne : f ≠ k := fun e => by subst e; rw [h0] at hl; cases hl
 have hb : Nat.beq f k = false := by
  cases hh : Nat.beq f k with
  | false => rfl
  | true => exact absurd (Nat.eq_of_beq_eq_true hh) hne
 show (Bool.rec (motive := fun _ => Option MFunc) (Nb8 f l) (some m0) (Nat.beq f k)) = some m
 rw [hb]
 exact h
theorem cfgL3_e : CfgE cfgL3 where
 fn := fun f m h => Nb4 (by kernel_rfl) h (Nb4 (by kernel_rfl) h (Nb4 (by kernel_rfl) h h))
 e1 := by rfl
 e2 := by rfl
def bI (x : Bool) : Int := if x = true then 1 else 0
theorem Nfr {fuel : Nat} {x : Bool} {st : St} :
 ∃ r st', Na5 cfgL3 (fuel + 1) 10 [.b x] st = some (r, st') ∧ (r = .i .i64 (bI x) ∧ (∀ j, st'.get j = st.get j) ∧ st.cnt ≤ st'.cnt) := by
 refine Nbq (by kernel_rfl : cfgL3.fn 10 = some m10) ?_
 unfold m10
 simp only [Nar]
 cases x with
 | true =>
   (try rw [Z0])
   (try simp (maxSteps := 2000000) (disch := first | omega | rfl | assumption) only [↓Xp, ↓Xt, Xq, Xc, Nah, Naa, Nat.reduceAdd, Nat.reduceMul, Nat.reduceLT, Nat.reduceEqDiff, reduceIte, Xa, Xn, unP, Naf, Nae, Nad, Xm, Nat.reduceLeDiff, List.nil_append, List.cons_append])
   (try rw [Z0])
   (try simp (maxSteps := 2000000) (disch := first | omega | rfl | assumption) only [↓Xp, ↓Xt, Xq, Xc, Nah, Naa, Nat.reduceAdd, Nat.reduceMul, Nat.reduceLT, Nat.reduceEqDiff, reduceIte, Xa, Xn, unP, Naf, Nae, Nad, Xm, Nat.reduceLeDiff, List.nil_append, List.cons_append])
   (try rw [Z0])
   (try simp (maxSteps := 2000000) (disch := first | omega | rfl | assumption) only [↓Xp, ↓Xt, Xq, Xc, Nah, Naa, Nat.reduceAdd, Nat.reduceMul, Nat.reduceLT, Nat.reduceEqDiff, reduceIte, Xa, Xn, unP, Naf, Nae, Nad, Xm, Nat.reduceLeDiff, List.nil_append, List.cons_append])
   (try rw [Z0])
   (try simp (maxSteps := 2000000) (disch := first | omega | rfl | assumption) only [↓Xp, ↓Xt, Xq, Xc, Nah, Naa, Nat.reduceAdd, Nat.reduceMul, Nat.reduceLT, Nat.reduceEqDiff, reduceIte, Xa, Xn, unP, Naf, Nae, Nad, Xm, Nat.reduceLeDiff, List.nil_append, List.cons_append])
   (try rw [Z0])
   (try simp (maxSteps := 2000000) (disch := first | omega | rfl | assumption) only [↓Xp, ↓Xt, Xq, Xc, Nah, Naa, Nat.reduceAdd, Nat.reduceMul, Nat.reduceLT, Nat.reduceEqDiff, reduceIte, Xa, Xn, unP, Naf, Nae, Nad, Xm, Nat.reduceLeDiff, List.nil_append, List.cons_append])
   exact ⟨nofun, _, rfl, by simp only [NbO, Env.get_put, if_true]; rfl, fun _ => trivial⟩
 | false =>
   (try rw [Z0])
   (try simp (maxSteps := 2000000) (disch := first | omega | rfl | assumption) only [↓Xp, ↓Xt, Xq, Xc, Nah, Naa, Nat.reduceAdd, Nat.reduceMul, Nat.reduceLT, Nat.reduceEqDiff, reduceIte, Xa, Xn, unP, Naf, Nae, Nad, Xm, Nat.reduceLeDiff, List.nil_append, List.cons_append])
   (try rw [Z0])
   (try simp (maxSteps := 2000000) (disch := first | omega | rfl | assumption) only [↓Xp, ↓Xt, Xq, Xc, Nah, Naa, Nat.reduceAdd, Nat.reduceMul, Nat.reduceLT, Nat.reduceEqDiff, reduceIte, Xa, Xn, unP, Naf, Nae, Nad, Xm, Nat.reduceLeDiff, List.nil_append, List.cons_append])
   (try rw [Z0])
   (try simp (maxSteps := 2000000) (disch := first | omega | rfl | assumption) only [↓Xp, ↓Xt, Xq, Xc, Nah, Naa, Nat.reduceAdd, Nat.reduceMul, Nat.reduceLT, Nat.reduceEqDiff, reduceIte, Xa, Xn, unP, Naf, Nae, Nad, Xm, Nat.reduceLeDiff, List.nil_append, List.cons_append])
   (try rw [Z0])
   (try simp (maxSteps := 2000000) (disch := first | omega | rfl | assumption) only [↓Xp, ↓Xt, Xq, Xc, Nah, Naa, Nat.reduceAdd, Nat.reduceMul, Nat.reduceLT, Nat.reduceEqDiff, reduceIte, Xa, Xn, unP, Naf, Nae, Nad, Xm, Nat.reduceLeDiff, List.nil_append, List.cons_append])
   (try rw [Z0])
   (try simp (maxSteps := 2000000) (disch := first | omega | rfl | assumption) only [↓Xp, ↓Xt, Xq, Xc, Nah, Naa, Nat.reduceAdd, Nat.reduceMul, Nat.reduceLT, Nat.reduceEqDiff, reduceIte, Xa, Xn, unP, Naf, Nae, Nad, Xm, Nat.reduceLeDiff, List.nil_append, List.cons_append])
   exact ⟨nofun, _, rfl, by simp only [NbO, Env.get_put, if_true]; rfl, fun _ => trivial⟩
theorem NbV : thrC.length = 3 := rfl
theorem New : insC.length = 63 := by kernel_rfl
theorem NgO : ∀ {i : Nat}, 2 ≤ i → i ≤ 8 → ∀ st : St, NaL st 1 (.fptr ((insC.drop (i * 7)).drop 6)) = some [.fsl 1 (exq i).cs] := by
 intro i h1 h2 st
 have h : i = 2 ∨ i = 3 ∨ i = 4 ∨ i = 5 ∨ i = 6 ∨ i = 7 ∨ i = 8 := by omega
 rcases h with rfl | rfl | rfl | rfl | rfl | rfl | rfl <;> rfl
theorem Ncd {q i K6 K5 KO : Nat} {a b : Int} {st : St} (h1 : 2 ≤ i) (h2 : i ≤ 8) (hq : 100 ≤ q) (c6 : K6 < st.cnt) (c5 : K5 < st.cnt) (cO : KO < st.cnt) (k6 : st.get K6 = some (.cells [.nsl, .fsl 1 thrC] false)) (k5 : st.get K5 = some (.cells [.rsl KO 1 0 2] false)) (kO : st.get KO = some (.cells (Nb7 [a, b]) false)) :
 ∃ r st', Na5 cfgL3 (q + 1) 8 [.i .i64 (i : Int), .ptr K6 0, .ptr K5 0] st = some (r, st') ∧ (r = .i .i64 ((exq i).eval [a, b]) ∧ (∀ j, st'.get j = st.get j) ∧ st.cnt ≤ st'.cnt) := by
 refine Nbq (by kernel_rfl : cfgL3.fn 8 = some m8) ?_
 unfold m8
 have hsz : (exq i).size ≤ 6 := by
  have h : i = 2 ∨ i = 3 ∨ i = 4 ∨ i = 5 ∨ i = 6 ∨ i = 7 ∨ i = 8 := by omega
  rcases h with rfl | rfl | rfl | rfl | rfl | rfl | rfl <;> decide
 have hI := NgO h1 h2
 obtain ⟨e, he⟩ : ∃ e, exq i = e := ⟨_, rfl⟩
 rw [he] at hI hsz ⊢
 have hec : e.cs.length = 4 := Ex.cs_len e
 have hEl : ∀ st : St, NaL st 4 (.fptr e.cs) = some e.cs := fun st => by
  show cut? e.cs 0 4 = _
  unfold cut?
  rw [if_pos (by omega), List.drop_zero, List.take_of_length_le (by omega)]
 have hT : ∀ st : St, NaL st 1 (.fptr (thrC.drop 2)) = some [.fsl 9 insC] := fun st => rfl
 have gE : Nas cfgL3 (Na5 cfgL3 q) 9 [.agg e.cs, .fsl 2 (Nb7 [a, b])] = some (.i .i64 (e.eval [a, b])) := by
  have h1 := NgQ cfgL3_e [a, b] (q - 1) e { sto := .leaf, cnt := 1 } (by omega)
  rw [show q - 1 + 1 = q by omega] at h1
  refine NcO cfgL3_e.e1 ?_ (fun _ => rfl) h1
  rw [Ex.cs_eq]
  exact NcZ _ _
 have dO : ∀ (S : St), S.get KO = some (.cells (Nb7 [a, b]) false) → Na8 S [.agg e.cs, .rsl KO 1 0 2] = some [.agg e.cs, .fsl 2 (Nb7 [a, b])] := fun S h => by
  have h1 : Go.Pe.deep S 12 (.rsl KO 1 0 2) = some (.fsl 2 (Nb7 [a, b])) := by
   show Go.Pe.deep S (11 + 1) _ = _
   unfold Go.Pe.deep
   simp only [h]
   rfl
  show mapO (Go.Pe.deep S 12) [.agg e.cs, .rsl KO 1 0 2] = _
  rw [Ex.cs_eq]
  simp only [mapO, h1, NbW]
 have k6' : ∀ n', St.get ⟨st.sto, n'⟩ K6 = some (.cells [.nsl, .fsl 1 thrC] false) := fun _ => k6
 have k5' : ∀ n', St.get ⟨st.sto, n'⟩ K5 = some (.cells [.rsl KO 1 0 2] false) := fun _ => k5
 have kO' : ∀ n', St.get ⟨st.sto, n'⟩ KO = some (.cells (Nb7 [a, b]) false) := fun _ => kO
 simp only [Nar]
 (try rw [Z0])
 (try simp (maxSteps := 2000000) (disch := first | omega | rfl | assumption) only [↓Xp, ↓Xt, Xq, Xc, Nah, Naa, Nat.reduceAdd, Nat.reduceMul, Nat.reduceLT, Nat.reduceEqDiff, reduceIte, Xa, Xn, unP, Naf, Nae, Nad, Xm, Nat.reduceLeDiff, List.nil_append, List.cons_append, k6', k5', hI, hEl, hT, NbV, New, hec])
 (try rw [Z0])
 (try simp (maxSteps := 2000000) (disch := first | omega | rfl | assumption) only [↓Xp, ↓Xt, Xq, Xc, Nah, Naa, Nat.reduceAdd, Nat.reduceMul, Nat.reduceLT, Nat.reduceEqDiff, reduceIte, Xa, Xn, unP, Naf, Nae, Nad, Xm, Nat.reduceLeDiff, List.nil_append, List.cons_append, k6', k5', hI, hEl, hT, NbV, New, hec])
 refine NbS (dO _ (kO' _)) gE rfl rfl ?_
 (try rw [Z0])
 (try simp (maxSteps := 2000000) (disch := first | omega | rfl | assumption) only [↓Xp, ↓Xt, Xq, Xc, Nah, Naa, Nat.reduceAdd, Nat.reduceMul, Nat.reduceLT, Nat.reduceEqDiff, reduceIte, Xa, Xn, unP, Naf, Nae, Nad, Xm, Nat.reduceLeDiff, List.nil_append, List.cons_append])
 (try rw [Z0])
 (try simp (maxSteps := 2000000) (disch := first | omega | rfl | assumption) only [↓Xp, ↓Xt, Xq, Xc, Nah, Naa, Nat.reduceAdd, Nat.reduceMul, Nat.reduceLT, Nat.reduceEqDiff, reduceIte, Xa, Xn, unP, Naf, Nae, Nad, Xm, Nat.reduceLeDiff, List.nil_append, List.cons_append])
 exact ⟨nofun, _, rfl, by simp only [NbO, Env.get_put, if_true], by first | exact fun _ => trivial | exact fun j => rfl⟩
end Go.Pe
