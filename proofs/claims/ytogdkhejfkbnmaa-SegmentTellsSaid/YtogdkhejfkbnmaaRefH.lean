/-
 The document's answer for layer 4: an event's numbers, heads, what is scanned; and Unseal of layer 1, by the interpreter of plain data. No condition.
-/
import Derived.Test.YtogdkhejfkbnmaaRefG
import Derived.Test.YtogdkhejfkbnmaaSegF
set_option linter.unusedVariables false
set_option linter.unusedSimpArgs false
set_option maxHeartbeats 8000000
set_option maxRecDepth 100000
namespace Go.Pe
open Go Go.Am Go.RowKit

def Nko : List PV → Option PV
 | [.agg [.i .i64 t, .i .u8 o, .i .i64 j, .i .i64 a, .i .i64 b], .i .i64 c] => if 0 ≤ c ∧ c < 5 ∧ 0 ≤ o ∧ o < 256 then some (.i .i64 (NcL c.toNat ⟨t, o.toNat.toUInt8, j, a, b⟩)) else none
 | _ => none
theorem Nn9 (args : List PV) (r : PV) (h : Nko args = some r) : ∃ fuel, evP cfgE0 fuel 48 args = some r := by
 unfold Nko at h
 split at h
 ·rename_i t o j a b c
  split at h
  ·rename_i hc
   simp only [Sj] at h
   subst h
   obtain ⟨k, rfl⟩ : ∃ k : Nat, c = k := ⟨c.toNat, by omega⟩
   have ho := Ne5 (b := o) ⟨by omega, by omega⟩
   have hw : IntKind.i64.wrap o = o := NaK _ ⟨by omega, by omega⟩
   refine ⟨0 + 1, Na2 rfl rfl (Naw (by kernel_rfl : cfgE0.fn 48 = some m48) ?_)⟩
   unfold m48
   rw [Int.toNat_natCast]
   obtain rfl | rfl | rfl | rfl | rfl : k = 0 ∨ k = 1 ∨ k = 2 ∨ k = 3 ∨ k = 4 := by omega
   all_goals
    simp (disch := first | omega | rfl | assumption) only [Nae, ↓Z0, ↓Xp, ↓Xt, Xq, Xc, Nac, Naa, Nat.reduceAdd, Nat.reduceMul, Nat.reduceLT, Nat.reduceEqDiff, reduceIte, Xm, Nat.reduceLeDiff, Xa, Xn, unP, Nau, Nav, Nao, hw]
    refine ⟨nofun, _, rfl, ?_⟩
    simp only [Naz, ↓Z0, ↓Xp, ↓Xt, Xq, Xc, Nac, Naa, Nat.reduceAdd, Nat.reduceMul, Nat.reduceLT, Nat.reduceEqDiff, reduceIte]
    unfold NcL
    first | rfl | (simp only [ho]; rfl)
  ·simp at h
 ·simp at h
def Ngl : List PV → Option PV
 | [.agg [.i .i64 t, .i .u8 o, .i .i64 j, .i .i64 a, .i .i64 b], .i .i64 c, .i .i64 n] => if 0 ≤ c ∧ c < 5 ∧ 0 ≤ o ∧ o < 256 then some (.agg (evC (Nkx c.toNat ⟨t, o.toNat.toUInt8, j, a, b⟩ n))) else none
 | _ => none
theorem NlZ (args : List PV) (r : PV) (h : Ngl args = some r) : ∃ fuel, evP cfgE0 fuel 79 args = some r := by
 unfold Ngl at h
 split at h
 ·rename_i t o j a b c n
  split at h
  ·rename_i hc
   simp only [Sj] at h
   subst h
   obtain ⟨k, rfl⟩ : ∃ k : Nat, c = k := ⟨c.toNat, by omega⟩
   have ho := Ne5 (b := o) ⟨by omega, by omega⟩
   have hw := Njk n
   refine ⟨0 + 1, Na2 rfl rfl (Naw (by kernel_rfl : cfgE0.fn 79 = some m79) ?_)⟩
   unfold m79
   rw [Int.toNat_natCast]
   obtain rfl | rfl | rfl | rfl | rfl : k = 0 ∨ k = 1 ∨ k = 2 ∨ k = 3 ∨ k = 4 := by omega
   all_goals
    simp (disch := first | omega | rfl | assumption) only [Nae, ↓Z0, ↓Xp, ↓Xt, Xq, Xc, Nac, Naa, Nat.reduceAdd, Nat.reduceMul, Nat.reduceLT, Nat.reduceEqDiff, reduceIte, Xm, Nat.reduceLeDiff, Xa, Xn, unP, Nau, Nav, Nao, hw]
    refine ⟨nofun, _, rfl, ?_⟩
    simp only [Naz, ↓Z0, ↓Xp, ↓Xt, Xq, Xc, Nac, Naa, Nat.reduceAdd, Nat.reduceMul, Nat.reduceLT, Nat.reduceEqDiff, reduceIte]
    unfold Nkx evC
    first | rfl | (simp only [ho]; rfl)
  ·simp at h
 ·simp at h
section
variable {cfg : Cfg} {callE : CallE}
theorem Nmd (hx : cfg.ext 17 = some NcV) {w : PV} {a : List UInt8} (hw : inL w = some a) {n : Nat} (hn : n < 18446744073709551616) (hl : a.length + 10 ≤ 140737488355328) : Nag cfg callE 17 [w, .i .u64 (n : Int)] = some (.osl 1 (a ++ Nah n).length (Nab (a ++ Nah n))) := by
 rw [Nad hx]
 unfold NcV
 simp only [hw, Int.toNat_natCast]
 rw [if_pos ⟨by omega, by omega, hl⟩]
theorem Nr1 (hx : cfg.ext 49 = some NgN) {w : PV} {a : List UInt8} (hw : inL w = some a) {n : Int} (hn : NcN n) (hl : a.length + 10 ≤ 140737488355328) : Nag cfg callE 49 [w, .i .i64 n] = some (.osl 1 (a ++ Nah (foldN n)).length (Nab (a ++ Nah (foldN n)))) := by
 rw [Nad hx]
 unfold NcN at hn
 unfold NgN
 simp only [hw]
 rw [if_pos ⟨hn.1, by omega, hl⟩]
theorem NoJ (hx : cfg.ext 35 = some Nd5) {n : Nat} (hn : n < 18446744073709551616) : Nag cfg callE 35 [.i .u64 (n : Int)] = some (.osl 1 (Nah n).length (Nab (Nah n))) := by
 rw [Nad hx]
 unfold Nd5
 simp only [Int.toNat_natCast]
 rw [if_pos ⟨by omega, by omega⟩]
theorem NgD (hx : cfg.ext 16 = some gRSeal) {w : PV} {a : List UInt8} (hw : inL w = some a) (hl : a.length + 4 ≤ 140737488355328) : Nag cfg callE 16 [w] = some (.osl 1 (NaD a).length (Nab (NaD a))) := by
 rw [Nad hx]
 unfold gRSeal
 simp only [hw]
 rw [if_pos hl]
theorem Nm7 (hx : cfg.ext 39 = some NbS) {w1 w2 : PV} {a b : List UInt8} (h1 : inL w1 = some a) (h2 : inL w2 = some b) (hl : a.length + b.length ≤ 140737488355328) : Nag cfg callE 39 [w1, w2] = some (.osl 1 (a ++ b).length (Nab (a ++ b))) := by
 rw [Nad hx]
 unfold NbS
 simp only [h1, h2]
 rw [if_pos hl]
theorem Nlm (hx : cfg.ext 76 = some Nce) {v : PV} {l : List UInt8} (hv : inL v = some l) (hl : l.length ≤ 140737488355327) (st : St) (key : Nat) (a : Int) : Naf (Nag cfg callE 76) false st key [v, .i .i64 a] = some (.tup [.i .u64 ((Nax l a).1 : Int), .i .i64 (Nax l a).2.1, .i .i64 (Nax l a).2.2], st) := by
 refine Nap (by simp only [List.all_cons, Na3 hv, List.all_nil, Bool.and_self, Bool.true_and]; rfl) ?_ rfl
 rw [Nad hx]
 unfold Nce
 simp only [hv]
 rw [if_pos hl]
 rfl
theorem Nqa (hx : cfg.ext 78 = some NdY) {v : PV} {l : List UInt8} (hv : inL v = some l) (hl : l.length ≤ 140737488355327) (st : St) (key : Nat) (a : Int) : Naf (Nag cfg callE 78) false st key [v, .i .i64 a] = some (.tup [.i .i64 (Na5 l a).1, .i .i64 (Na5 l a).2.1, .i .i64 (Na5 l a).2.2], st) := by
 refine Nap (by simp only [List.all_cons, Na3 hv, List.all_nil, Bool.and_self, Bool.true_and]; rfl) ?_ rfl
 rw [Nad hx]
 unfold NdY
 simp only [hv]
 rw [if_pos hl]
 rfl
end
def NdR (l : List UInt8) : PV := if l.length < 4 then .tup [.nsl, .i .i64 11] else if NaD (l.take (l.length - 4)) = l then .tup [.osl 1 (l.length - 4) (Nab (l.take (l.length - 4))), .i .i64 0] else .tup [.nsl, .i .i64 12]
def NdI : List PV → Option PV
 | [v] => match inL v with
   | some l => if l.length ≤ 140737488355000 then some (NdR l) else none
   | none => none
 | _ => none
theorem Nkl {cfg : Cfg} (hf : cfg.fn 52 = some m52) (hx1 : cfg.ext 39 = some NbS) (hx2 : cfg.ext 16 = some gRSeal) {v : PV} {l : List UInt8} (hv : inL v = some l) (hl : l.length ≤ 140737488355000) {fuel : Nat} :
 ∃ r st', NaB cfg (fuel + 1) 52 [v] { sto := .leaf, cnt := 1 } = some (r, st') ∧ Naq st' r = some (NdR l) := by
 refine Naw hf ?_
 unfold m52
 have hlv := Nba hv
 unfold NdR
 by_cases h0 : l.length < 4
 ·rw [if_pos h0]
  simp (disch := first | omega | rfl | assumption) only [Nae, ↓Z0, ↓Xp, ↓Xt, Xq, Xc, Nac, Naa, Nat.reduceAdd, Nat.reduceMul, Nat.reduceLT, Nat.reduceEqDiff, reduceIte, Xm, Nat.reduceLeDiff, Xa, Xn, unP, Nau, Nav, Nao, hlv]
  refine ⟨nofun, _, rfl, ?_⟩
  simp only [Naz, ↓Z0, ↓Xp, ↓Xt, Xq, Xc, Nac, Naa, Nat.reduceAdd, Nat.reduceMul, Nat.reduceLT, Nat.reduceEqDiff, reduceIte]
  rfl
 rw [if_neg h0]
 obtain ⟨n, hn⟩ : ∃ n, l.length - 4 = n := ⟨_, rfl⟩
 have hm : (l.take n).length = n := by rw [List.length_take]; omega
 rw [hn]
 obtain ⟨m, hme⟩ : ∃ m, l.take n = m := ⟨_, rfl⟩
 rw [hme] at hm ⊢
 obtain ⟨w, hsl, hw⟩ := Ng1 hv (a := n) (by omega)
 rw [hme] at hw
 have hsub : ((l.length : Int) - ((4 : Nat) : Int)) = (n : Int) := by omega
 have hwr : IntKind.i64.wrap (n : Int) = (n : Int) := NaK _ ⟨by omega, by omega⟩
 have hcv := fun st => NbA (st := st) hv
 have hbl := NaW l
 (repeat (first | rw [Z0] | simp (maxSteps := 2000000) (disch := first | omega | rfl | assumption) only [↓Xp, ↓Xt, Xq, Xc, Nac, Naa, Nat.reduceAdd, Nat.reduceMul, Nat.reduceLT, Nat.reduceEqDiff, reduceIte, Xa, Xn, unP, Nau, Nav, Nao, Xm, Nat.reduceLeDiff, List.nil_append, List.cons_append, Nae, hlv, hsub, hwr, hsl]))
 refine Nbp (L := m) (NbO (Ncn hw) rfl) (by have := Nm7 (cfg := cfg) (callE := NaB cfg fuel) hx1 hw (show inL .nsl = some [] from rfl) (by simp only [List.length_nil]; omega); rwa [List.append_nil] at this) (by first | omega | (simp only [Z0L_, Nb2, Nat.add_assoc, Nat.reduceAdd]; omega) | (simp only; omega)) ?_
 intro st1 o1 _ c1 f1
 (try simp only [Z0L_] at c1)
 (repeat (first | rw [Z0] | simp (maxSteps := 2000000) (disch := first | omega | rfl | assumption) only [↓Xp, ↓Xt, Xq, Xc, Nac, Naa, Nat.reduceAdd, Nat.reduceMul, Nat.reduceLT, Nat.reduceEqDiff, reduceIte, Xa, Xn, unP, Nau, Nav, Nao, Xm, Nat.reduceLeDiff, List.nil_append, List.cons_append, Nae, hlv]))
 refine NmF (L := NaD m) (NaT (o1.cnt (by omega)).deepV) (NgD hx2 o1.inV (by omega)) (by first | omega | (simp only [Z0L_, Nb2, Nat.add_assoc, Nat.reduceAdd]; omega) | (simp only; omega)) ?_
 intro st2 o2 _ c2 f2
 (try simp only [Z0L_] at c2)
 replace o1 := o1.over f2 rfl (by omega) (by omega)
 have hco := o2.cells
 have hbs := NaW (NaD m)
 by_cases he : NaD m = l
 ·rw [if_pos he]
  have hbe : (NaD m == l) = true := by rw [he]; exact beq_self_eq_true _
  simp (disch := first | omega | rfl | assumption) only [↓Z0, ↓Xp, ↓Xt, Xq, Xc, Nac, Naa, Nat.reduceAdd, Nat.reduceMul, Nat.reduceLT, Nat.reduceEqDiff, reduceIte, Xm, Nat.reduceLeDiff, Xa, Xn, unP, Nau, Nav, Nao, hco, hbs, hcv, hbl, hbe, Option.map_some]
  refine ⟨nofun, _, rfl, ?_⟩
  simp only [Naz, ↓Z0, ↓Xp, ↓Xt, Xq, Xc, Nac, Naa, Nat.reduceAdd, Nat.reduceMul, Nat.reduceLT, Nat.reduceEqDiff, reduceIte]
  rw [← hm]
  exact Nbj (pre := []) (post := [.i .i64 0]) (o1.cnt (by omega)) rfl rfl (Nbh m) (by decide)
 ·rw [if_neg he]
  have hbe : (NaD m == l) = false := by simpa using he
  simp (disch := first | omega | rfl | assumption) only [↓Z0, ↓Xp, ↓Xt, Xq, Xc, Nac, Naa, Nat.reduceAdd, Nat.reduceMul, Nat.reduceLT, Nat.reduceEqDiff, reduceIte, Xm, Nat.reduceLeDiff, Xa, Xn, unP, Nau, Nav, Nao, hco, hbs, hcv, hbl, hbe, Option.map_some]
  refine ⟨nofun, _, rfl, ?_⟩
  simp only [Naz, ↓Z0, ↓Xp, ↓Xt, Xq, Xc, Nac, Naa, Nat.reduceAdd, Nat.reduceMul, Nat.reduceLT, Nat.reduceEqDiff, reduceIte]
  rfl
def NkY : FuncId → Option (List PV → Option PV) := fun f => if f = 39 then some NbS else if f = 16 then some gRSeal else if f = 17 then some NcV else none
noncomputable def cfgR4b : Cfg := { fn := fun f => Nbr f tblL, ext := NkY }
theorem NkV {Gl : Gmap} : ∀ f g, NkY f = some g → NbJ Go.Proofs.Try.prog Gl f g := by
 intro f g h
 unfold NkY at h
 by_cases e : f = 39
 ·subst e; rw [if_pos rfl] at h; cases h
  exact Nam NbG Ne3
 rw [if_neg e] at h; clear e
 by_cases e : f = 16
 ·subst e; rw [if_pos rfl] at h; cases h
  exact Nam New NdA
 rw [if_neg e] at h; clear e
 by_cases e : f = 17
 ·subst e; rw [if_pos rfl] at h; cases h
  exact Nam NcC Nfh
 rw [if_neg e] at h; clear e
 cases h
theorem Ne7 {Gl : Gmap} : CfgOK Go.Proofs.Try.prog Gl cfgR4b := NaP NaQ NkV
theorem Niz (args : List PV) (r : PV) (h : NdI args = some r) : ∃ fuel, evP cfgR4b fuel 52 args = some r := by
 unfold NdI at h
 split at h
 ·split at h
  ·rename_i v l hl
   split at h
   ·rename_i hc
    simp only [Sj] at h
    subst h
    exact ⟨0 + 1, Na2 (by kernel_rfl) (NaH hl) (Nkl (cfg := cfgR4b) (by kernel_rfl) (by kernel_rfl) (by kernel_rfl) hl hc)⟩
   ·simp at h
  ·simp at h
 ·simp at h
theorem Nk8 {cfg : Cfg} (hf : cfg.fn 24 = some m24) (hx1 : cfg.ext 17 = some NcV) (hx2 : cfg.ext 16 = some gRSeal) {first : Int} (hfi : NcN first) {fuel : Nat} :
 ∃ r st', NaB cfg (fuel + 1) 24 [.i .i64 first] { sto := .leaf, cnt := 1 } = some (r, st') ∧ Naq st' r = some (NdT first) := by
 refine Naw hf ?_
 unfold m24
 unfold NdT
 by_cases h1 : first < 0
 ·rw [if_pos (.inl h1)]
  simp (disch := first | omega | rfl | assumption) only [Nae, ↓Z0, ↓Xp, ↓Xt, Xq, Xc, Nac, Naa, Nat.reduceAdd, Nat.reduceMul, Nat.reduceLT, Nat.reduceEqDiff, reduceIte, Xm, Nat.reduceLeDiff, Xa, Xn, unP, Nau, Nav, Nao]
  refine ⟨nofun, _, rfl, ?_⟩
  simp only [Naz, ↓Z0, ↓Xp, ↓Xt, Xq, Xc, Nac, Naa, Nat.reduceAdd, Nat.reduceMul, Nat.reduceLT, Nat.reduceEqDiff, reduceIte]
  rfl
 by_cases h2 : 4611686018427387904 < first
 ·rw [if_pos (.inr h2)]
  simp (disch := first | omega | rfl | assumption) only [Nae, ↓Z0, ↓Xp, ↓Xt, Xq, Xc, Nac, Naa, Nat.reduceAdd, Nat.reduceMul, Nat.reduceLT, Nat.reduceEqDiff, reduceIte, Xm, Nat.reduceLeDiff, Xa, Xn, unP, Nau, Nav, Nao]
  refine ⟨nofun, _, rfl, ?_⟩
  simp only [Naz, ↓Z0, ↓Xp, ↓Xt, Xq, Xc, Nac, Naa, Nat.reduceAdd, Nat.reduceMul, Nat.reduceLT, Nat.reduceEqDiff, reduceIte]
  rfl
 rw [if_neg (by simp only [not_or]; exact ⟨h1, h2⟩)]
 obtain ⟨n, rfl⟩ : ∃ n : Nat, first = n := ⟨first.toNat, by omega⟩
 rw [Int.toNat_natCast]
 have hwn : IntKind.u64.wrap (n : Int) = (n : Int) := Nbm _ ⟨by omega, by omega⟩
 have h65 : ([PV.i .u8 ((65 : Nat) : Int), .i .u8 ((77 : Nat) : Int), .i .u8 ((83 : Nat) : Int), .i .u8 ((49 : Nat) : Int)] : List PV) = Nab ams1 := rfl
 (repeat (first | rw [Z0] | simp (maxSteps := 2000000) (disch := first | omega | rfl | assumption) only [↓Xp, ↓Xt, Xq, Xc, Nac, Naa, Nat.reduceAdd, Nat.reduceMul, Nat.reduceLT, Nat.reduceEqDiff, reduceIte, Xa, Xn, unP, Nau, Nav, Nao, Xm, Nat.reduceLeDiff, List.nil_append, List.cons_append, Nae, hwn, h65]))
 refine ⟨rfl, ?_⟩
 have hvl := NaY n
 have hN9 : n < 18446744073709551616 := by omega
 have oA : ∀ (S : St) (key : Nat), key < S.cnt → Own (S.put key (some (.cells (Nab ams1) false))) 1 (.rsl key 1 0 4) 4 (Nab ams1) := fun S key h => .inr ⟨key, rfl, St.get_putk _ _ _, rfl, h⟩
 have hal : ams1.length = 4 := rfl
 refine Nbp (L := ams1 ++ Nah n) (NbO (oA _ _ (by first | omega | (simp only [Z0L_, Nb2, Nat.add_assoc, Nat.reduceAdd]; omega) | (simp only; omega))).deepV rfl) (Nmd hx1 (oA ⟨.leaf, 121⟩ 65 (by decide)).inV hN9 (by rw [hal]; decide)) (by first | omega | (simp only [Z0L_, Nb2, Nat.add_assoc, Nat.reduceAdd]; omega) | (simp only; omega)) ?_
 intro st1 o1 _ c1 f1
 (try simp only [Z0L_] at c1)
 refine Nbp (L := NgT n) (NaT o1.deepV) (by have := NgD (cfg := cfg) (callE := NaB cfg fuel) hx2 o1.inV (by rw [List.length_append]; omega); exact this) (by omega) ?_
 intro st2 o2 _ c2 f2
 refine ⟨nofun, _, rfl, ?_⟩
 simp only [Naz, ↓Z0, ↓Xp, ↓Xt, Xq, Xc, Nac, Naa, Nat.reduceAdd, Nat.reduceMul, Nat.reduceLT, Nat.reduceEqDiff, reduceIte]
 exact Nbj (pre := []) (post := [.i .i64 0]) o2 rfl rfl (Nbh _) (by decide)
def gRHeadM : List PV → Option PV
 | [.i .i64 n] => if -9223372036854775808 ≤ n ∧ n < 9223372036854775808 then some (NdT n) else none
 | _ => none
theorem Nf0 (args : List PV) (r : PV) (h : gRHeadM args = some r) : ∃ fuel, evP cfgR4b fuel 24 args = some r := by
 unfold gRHeadM at h
 split at h
 ·split at h
  ·rename_i n hc
   simp only [Sj] at h
   subst h
   exact ⟨0 + 1, Na2 (by kernel_rfl) rfl (Nk8 (cfg := cfgR4b) (by kernel_rfl) (by kernel_rfl) (by kernel_rfl) ⟨hc.1, by omega⟩)⟩
  ·simp at h
 ·simp at h
theorem Nns {cfg : Cfg} {callE : CallE} (hx : cfg.ext 24 = some gRHeadM) {n : Nat} (hn : n ≤ 4611686018427387904) : Nag cfg callE 24 [.i .i64 (n : Int)] = some (.tup ([] ++ PV.osl 1 (NgT n).length (Nab (NgT n)) :: [.i .i64 0])) := by
 rw [Nad hx]
 unfold gRHeadM NdT
 simp only []
 rw [if_pos ⟨by omega, by omega⟩, if_neg (by omega), Int.toNat_natCast]; rfl
theorem NhL {a b : List UInt8} (h : a.length ≤ b.length) : a = b.take a.length ↔ ∀ j, j < a.length → b.getD j 0 = a.getD j 0 := by
 constructor
 ·intro e j hj
  rw [List.getD_eq_getElem?_getD, List.getD_eq_getElem?_getD]
  conv => rhs; rw [e]
  rw [List.getElem?_take, if_pos hj]
 ·intro hh
  apply List.ext_getElem (by rw [List.length_take]; omega)
  intro i h1 h2
  have := hh i h1
  rw [List.getElem_take]
  simpa [List.getD_eq_getElem?_getD, List.getElem?_eq_getElem h1, List.getElem?_eq_getElem (show i < b.length by omega)] using this.symm
theorem Ngz {st : St} {l : List UInt8} {i : Nat} (hi : i < l.length) : loadP st 1 (.fptr ((Nab l).drop i)) = some [.i .u8 ((l.getD i 0).toNat : Int)] := by
 have := Ncl (st := st) hi
 rwa [Nat.mul_one] at this
theorem Ngv {st : St} {k : Nat} {fz : Bool} {L : List UInt8} (hk : st.get k = some (.cells (Nab L) fz)) {i : Nat} (hi : i < L.length) : loadP st 1 (.ptr k i) = some [.i .u8 ((L.getD i 0).toNat : Int)] := by
 have := NdW hk hi
 rwa [Nat.zero_add, Nat.mul_one] at this
theorem NdP {a b : List UInt8} {n : Nat} (hn : n ≤ a.length) (hb : n ≤ b.length) : a.take n = b.take n ↔ ∀ j, j < n → a.getD j 0 = b.getD j 0 := by
 have h1 : (a.take n).length = n := by rw [List.length_take]; omega
 have h2 := NhL (a := a.take n) (b := b) (by omega)
 rw [h1] at h2
 rw [h2]
 constructor
 ·intro h j hj
  rw [h j hj]
  simp [List.getD_eq_getElem?_getD, List.getElem?_take, hj]
 ·intro h j hj
  rw [← h j hj]
  simp [List.getD_eq_getElem?_getD, List.getElem?_take, hj]
theorem NiM {l : List UInt8} (hi : l.length < 4) (hp : ∀ j, j < l.length → l.getD j 0 = ams1.getD j 0) : NbM l = (0, 0, 11) := by
 have h4 : l.take 4 = l := List.take_of_length_le (by omega)
 have hal : ams1.length = 4 := rfl
 have h5 := (NdP (a := l) (b := ams1) (Nat.le_refl _) (by omega)).2 hp
 rw [List.take_length] at h5
 unfold NbM
 rw [h4, ← h5, if_neg (by simp), if_pos hi]
theorem Nh6 {l : List UInt8} {i : Nat} (hi : i < 4) (hl : i < l.length) (hne : ¬ l.getD i 0 = ams1.getD i 0) : NbM l = (0, 0, 10) := by
 have hal : ams1.length = 4 := rfl
 unfold NbM
 rw [if_pos]
 simp only [beq_eq_false_iff_ne, ne_eq]
 intro h
 have hm : (l.take 4).length = min 4 l.length := List.length_take
 have h2 : ams1.take (l.take 4).length = l.take (l.take 4).length := by
  rw [h, hm]
  by_cases h4 : l.length < 4
  ·rw [Nat.min_eq_right (by omega), List.take_length, List.take_of_length_le (by omega)]
  ·rw [Nat.min_eq_left (by omega)]
 exact hne ((NdP (by omega) (by omega)).1 h2 i (by omega)).symm
theorem Nnn {l : List UInt8} (hl : 4 ≤ l.length) (hp : ∀ j, j < 4 → l.getD j 0 = ams1.getD j 0) : l.take 4 = ams1 ∧ NbM l = (if (Nax l 4).2.2 = 0 ∧ 4611686018427387904 < (Nax l 4).1 then (0, 0, 10)
 else if (Nax l 4).2.2 ≠ 0 then (0, 0, (Nax l 4).2.2)
 else if (l.length : Int) < (Nax l 4).2.1 + 4 then (0, 0, 11)
 else if NaD (l.take (Nax l 4).2.1.toNat) = l.take ((Nax l 4).2.1.toNat + 4) then ((Nax l 4).1, (Nax l 4).2.1 + 4, 0) else (0, 0, 12)) := by
 have hal : ams1.length = 4 := rfl
 have h5 := (NdP (a := l) (b := ams1) (by omega) (by omega)).2 hp
 have h6 : ams1.take 4 = ams1 := rfl
 rw [h6] at h5
 refine ⟨h5, ?_⟩
 unfold NbM
 rw [h5, if_neg (by simp [hal, h6]), if_neg (by omega)]
theorem Nd7 {cfg : Cfg} {callE : CallE} {n : Nat} {a b : MCode} {x : Now} {Q : MExit → Now → Prop} (R : Now → Prop) (h : WC cfg callE n a x (Nis Q R)) (k : ∀ x', R x' → WC cfg callE n b x' Q) : WC cfg callE n (.seq a b) x Q := by
 rw [Z0]
 refine h.mono ?_
 intro e x' hq
 cases e with
 | nrm => exact k x' hq
 | ex id => exact hq
 | ret => exact hq
theorem Nn5 {cfg : Cfg} (hf : cfg.fn 50 = some m50) (hx1 : cfg.ext 76 = some Nce) (hx2 : cfg.ext 24 = some gRHeadM) {v : PV} {l : List UInt8} (hv : inL v = some l) (hl : l.length ≤ 140737488355000) {fuel : Nat} (hfu : 100 ≤ fuel) :
 ∃ r st', NaB cfg (fuel + 1) 50 [v] { sto := .leaf, cnt := 1 } = some (r, st') ∧ Naq st' r = some (NkE (NbM l)) := by
 refine Naw hf ?_
 unfold m50
 have hlv := Nba hv
 have h65 : ([PV.i .u8 ((65 : Nat) : Int), .i .u8 ((77 : Nat) : Int), .i .u8 ((83 : Nat) : Int), .i .u8 ((49 : Nat) : Int)] : List PV) = Nab ams1 := rfl
 have hcl : ∀ st : St, Naq st (NkE (NbM l)) = some (NkE (NbM l)) := fun st => Nal (vs := [.i .i64 _, .i .i64 _, .i .i64 _]) rfl
 have hA4 : (Nab ams1).length = 4 := rfl
 rw [Z0]
 simp (disch := first | omega | rfl | assumption) only [↓Xp, ↓Xt, Xq, Xc, Nac, Naa, Nat.reduceAdd, Nat.reduceMul, Nat.reduceLT, Nat.reduceEqDiff, reduceIte, Xa, Xn, unP, Nau, Nav, Nao, Xm, Nat.reduceLeDiff, Nae]
 rw [Z0]
 simp (disch := first | omega | rfl | assumption) only [↓Xp, ↓Xt, Xq, Xc, Nac, Naa, Nat.reduceAdd, Nat.reduceMul, Nat.reduceLT, Nat.reduceEqDiff, reduceIte, Xa, Xn, unP, Nau, Nav, Nao, Xm, Nat.reduceLeDiff, h65, hA4, true_and]
 refine Nd7 (fun x => x.env.get 0 = v ∧ 4 ≤ l.length ∧ ∀ j, j < 4 → l.getD j 0 = ams1.getD j 0) ?_ ?_
 ·rw [Z0]
  simp (disch := first | omega | rfl | assumption) only [↓Xp, ↓Xt, Xq, Xc, Nac, Naa, Nat.reduceAdd, Nat.reduceMul, Nat.reduceLT, Nat.reduceEqDiff, reduceIte, Xa, Xn, unP, Nau, Nav, Nao, Xm, Nat.reduceLeDiff, Nae, h65, hA4]
  refine Z9 (k := 4 - 0) (fun d x => ∃ (i q : Nat), d = 4 - i ∧ i ≤ 4 ∧ i ≤ l.length ∧ (∀ j, j < i → l.getD j 0 = ams1.getD j 0) ∧ x.env.get 0 = v ∧ x.env.get 5 = .rsl q 1 0 4 ∧ x.env.get 6 = .i .i64 (i : Int) ∧ x.st.get q = some (.cells (Nab ams1) false)) ?_ ?_ (by omega)
  ·rintro d ⟨env, ⟨sto, c⟩⟩ ⟨i, q, rfl, hi, hil, hp, g0, g5, g6, hq⟩
   simp only at g0 g5 g6
   by_cases hlt : i < 4
   ·by_cases hll : l.length ≤ i
    ·have hre := NiM (l := l) (by omega) (fun j hj => hp j (by omega))
     rw [hre] at hcl
     simp (disch := first | omega | rfl | assumption) only [↓Z0, ↓Xp, ↓Xt, Xq, Xc, Nac, Naa, Nat.reduceAdd, Nat.reduceMul, Nat.reduceLT, Nat.reduceEqDiff, reduceIte, Xm, Nat.reduceLeDiff, Xa, Xn, unP, Nau, Nav, Nao, g0, g5, g6, hlv]
     refine ⟨nofun, _, rfl, ?_⟩
     simp only [Naz, ↓Z0, ↓Xp, ↓Xt, Xq, Xc, Nac, Naa, Nat.reduceAdd, Nat.reduceMul, Nat.reduceLT, Nat.reduceEqDiff, reduceIte]
     rw [hre]
     exact hcl _
    ·have hvc := Nbd hv (fun e => by rw [e] at hll; simp at hll)
     subst hvc
     have hb0 := fun N => Ngz (st := ⟨sto, N⟩) (l := l) (i := i) (by omega)
     have hb1 := fun N => Ngv (st := ⟨sto, N⟩) (L := ams1) hq (i := i) hlt
     by_cases hne : l.getD i 0 = ams1.getD i 0
     ·have hb : (((l.getD i 0).toNat : Int) != ((ams1.getD i 0).toNat : Int)) = false := by rw [hne]; simp
      simp (disch := first | omega | rfl | assumption) only [↓Z0, ↓Xp, ↓Xt, Xq, Xc, Nac, Naa, Nat.reduceAdd, Nat.reduceMul, Nat.reduceLT, Nat.reduceEqDiff, reduceIte, Xl, Nat.reduceLeDiff, Xa, Xn, g0, g5, g6, hlv, hb0, hb1, hb, Nai]
      refine ⟨4 - (i + 1), by omega, i + 1, q, rfl, by omega, by omega, fun j hj => ?_, rfl, rfl, hq⟩
      by_cases hji : j < i
      ·exact hp j hji
      ·have : j = i := by omega
       subst this; exact hne
     ·have hb : (((l.getD i 0).toNat : Int) != ((ams1.getD i 0).toNat : Int)) = true := by
       simp only [bne_iff_ne, ne_eq]
       exact fun e => hne (UInt8.toNat_inj.1 (by omega))
      have hre := Nh6 hlt (by omega) hne
      rw [hre] at hcl
      simp (disch := first | omega | rfl | assumption) only [↓Z0, ↓Xp, ↓Xt, Xq, Xc, Nac, Naa, Nat.reduceAdd, Nat.reduceMul, Nat.reduceLT, Nat.reduceEqDiff, reduceIte, Xl, Nat.reduceLeDiff, Xa, Xn, g0, g5, g6, hlv, hb0, hb1, hb, Nai]
      refine ⟨nofun, _, rfl, ?_⟩
      simp only [Naz, ↓Z0, ↓Xp, ↓Xt, Xq, Xc, Nac, Naa, Nat.reduceAdd, Nat.reduceMul, Nat.reduceLT, Nat.reduceEqDiff, reduceIte]
      rw [hre]
      exact hcl _
   ·have : i = 4 := by omega
    subst this
    simp (disch := first | omega | rfl | assumption) only [↓Z0, ↓Xp, ↓Xt, Xq, Xc, Nac, Naa, Nat.reduceAdd, Nat.reduceMul, Nat.reduceLT, Nat.reduceEqDiff, reduceIte, Xm, Nat.reduceLeDiff, Xa, Xn, unP, Nau, Nav, Nao, g0, g5, g6]
    exact hp
  ·refine ⟨0, 25, rfl, by omega, by omega, fun j hj => by omega, ?_⟩
   simp only [Env.get_put, Nat.reduceEqDiff, if_false, if_true]
   exact ⟨trivial, trivial, trivial, by rw [Nh3]; exact St.get_putk _ _ _⟩
 rintro ⟨env, ⟨sto, c⟩⟩ ⟨g0, h4, hp⟩
 simp only at g0
 obtain ⟨ht4, hre⟩ := Nnn h4 hp
 have cu := fun st key a => Nlm (cfg := cfg) (callE := NaB cfg fuel) hx1 hv (by omega) st key a
 rw [hre] at hcl ⊢
 clear hre
 have hok := @NbY l 4
 have hbad := @Njw l 4
 have hlt := Nbx l 4
 obtain ⟨N, hN⟩ : ∃ N, (Nax l 4).1 = N := ⟨_, rfl⟩
 obtain ⟨e, he⟩ : ∃ e, (Nax l 4).2.2 = e := ⟨_, rfl⟩
 obtain ⟨nx, hnx⟩ : ∃ nx, (Nax l 4).2.1 = nx := ⟨_, rfl⟩
 rw [hN, he, hnx] at hcl ⊢
 rw [he] at hbad hok
 have cu4 := fun st key => cu st key ((4 : Nat) : Int)
 have e4 : Nax l ((4 : Nat) : Int) = Nax l 4 := rfl
 simp only [e4, hN, he, hnx] at cu4
 by_cases h0 : e = 0
 ·subst h0
  by_cases h1 : 4611686018427387904 < N
  ·rw [if_pos ⟨rfl, h1⟩] at hcl ⊢
   simp (disch := first | omega | rfl | assumption) only [↓Z0, ↓Xp, ↓Xt, Xq, Xc, Nac, Naa, Nat.reduceAdd, Nat.reduceMul, Nat.reduceLT, Nat.reduceEqDiff, reduceIte, Xm, Nat.reduceLeDiff, Xa, Xn, unP, Nau, Nav, Nao, g0, cu4]
   refine ⟨nofun, _, rfl, ?_⟩
   simp only [Naz, ↓Z0, ↓Xp, ↓Xt, Xq, Xc, Nac, Naa, Nat.reduceAdd, Nat.reduceMul, Nat.reduceLT, Nat.reduceEqDiff, reduceIte]
   exact hcl _
  rw [if_neg (by simp [h1]), if_neg (by simp)] at hcl ⊢
  by_cases h2 : (l.length : Int) < nx + 4
  ·rw [if_pos h2] at hcl ⊢
   simp (disch := first | omega | rfl | assumption) only [↓Z0, ↓Xp, ↓Xt, Xq, Xc, Nac, Naa, Nat.reduceAdd, Nat.reduceMul, Nat.reduceLT, Nat.reduceEqDiff, reduceIte, Xm, Nat.reduceLeDiff, Xa, Xn, unP, Nau, Nav, Nao, g0, cu4, hlv]
   refine ⟨nofun, _, rfl, ?_⟩
   simp only [Naz, ↓Z0, ↓Xp, ↓Xt, Xq, Xc, Nac, Naa, Nat.reduceAdd, Nat.reduceMul, Nat.reduceLT, Nat.reduceEqDiff, reduceIte]
   exact hcl _
  rw [if_neg h2] at hcl ⊢
  obtain ⟨_, _, rest, hd, hn, hle⟩ := hok rfl
  rw [hN, show ((4 : Int)).toNat = 4 from rfl] at hd
  rw [hN, hnx] at hn
  rw [hnx] at hle
  obtain ⟨k, hk⟩ : ∃ k, 4 + (Nah N).length = k := ⟨_, rfl⟩
  have hnk : nx = (k : Int) := by omega
  subst hnk
  have hkl : k + 4 ≤ l.length := by omega
  have htk : l.take k = ams1 ++ Nah N := by
   rw [← hk, List.take_add, ht4, hd, List.take_left]
  rw [Int.toNat_natCast, htk] at hcl ⊢
  obtain ⟨H, hH⟩ : ∃ H, NgT N = H := ⟨_, rfl⟩
  have hHs : NaD (ams1 ++ Nah N) = H := hH
  have hHl : H.length = k + 4 := by rw [← hHs, Nb8, List.length_append, ← hk]; rfl
  rw [hHs, ← hHl] at hcl ⊢
  have hsame := NhL (a := H) (b := l) (by omega)
  have hwN : IntKind.i64.wrap (N : Int) = (N : Int) := NaK _ ⟨by omega, by omega⟩
  have hvc := Nbd hv (fun e => by rw [e] at h4; simp at h4)
  subst hvc
  have hz : ((k : Int) + 4) = (H.length : Int) := by omega
  rw [hz] at hcl ⊢
  (repeat (first | rw [Z0] | simp (maxSteps := 2000000) (disch := first | omega | rfl | assumption) only [↓Xp, ↓Xt, Xq, Xc, Nac, Naa, Nat.reduceAdd, Nat.reduceMul, Nat.reduceLT, Nat.reduceEqDiff, reduceIte, Xa, Xn, unP, Nau, Nav, Nao, Xm, Nat.reduceLeDiff, List.nil_append, List.cons_append, g0, cu4, hlv, hwN]))
  refine Nbs (NaA rfl) (Nns hx2 (n := N) (by omega)) (OutV.osl _ _ _) rfl rfl (Nbh _) (by rw [Nai, Nat.mul_one]) (by first | omega | (simp only [Z0L_, Nb2, Nat.add_assoc, Nat.reduceAdd]; omega) | (simp only; omega)) ?_
  intro w st1 o1 _ c1 f1
  (try simp only [Z0L_] at c1)
  rw [hH] at o1
  have hw0 : ¬ H.length = 0 := by omega
  obtain ⟨q, rfl, hq, _, hqc⟩ := o1.obj hw0
  simp (disch := first | omega | rfl | assumption) only [↓Xp, ↓Xt, Xq, Xc, Nac, Naa, Nat.reduceAdd, Nat.reduceMul, Nat.reduceLT, Nat.reduceEqDiff, reduceIte, Xa, Xn, unP, Nau, Nav, Nao, Xl, Nat.reduceLeDiff, g0, List.nil_append]
  refine Nd7 (fun x => x.env.get 7 = .i .u64 (N : Int) ∧ x.env.get 10 = .rsl q 1 0 H.length ∧ H = l.take H.length) ?_ ?_
  ·rw [Z0]
   simp (disch := first | omega | rfl | assumption) only [↓Xp, ↓Xt, Xq, Xc, Nac, Naa, Nat.reduceAdd, Nat.reduceMul, Nat.reduceLT, Nat.reduceEqDiff, reduceIte, Xa, Xn, unP, Nau, Nav, Nao, Xl, Nat.reduceLeDiff, g0]
   refine Z9 (k := H.length - 0) (fun d x => ∃ (i : Nat), d = H.length - i ∧ i ≤ H.length ∧ (∀ j, j < i → l.getD j 0 = H.getD j 0) ∧ x.env.get 0 = .fsl l.length (Nab l) ∧ x.env.get 7 = .i .u64 (N : Int) ∧ x.env.get 10 = .rsl q 1 0 H.length ∧ x.env.get 12 = .i .i64 (i : Int) ∧ x.st.get q = some (.cells (Nab H) false)) ?_ ?_ (by have := NaY N; omega)
   ·clear g0
    rintro d ⟨env, ⟨sto, c⟩⟩ ⟨i, rfl, hi, hp2, g0, g7, g10, g12, hq⟩
    simp only at g0 g7 g10 g12
    by_cases hlt : i < H.length
    ·have hb0 := fun N => Ngz (st := ⟨sto, N⟩) (l := l) (i := i) (by omega)
     have hb1 := fun N => Ngv (st := ⟨sto, N⟩) (L := H) hq (i := i) hlt
     by_cases hne : l.getD i 0 = H.getD i 0
     ·have hb : (((l.getD i 0).toNat : Int) != ((H.getD i 0).toNat : Int)) = false := by rw [hne]; simp
      simp (disch := first | omega | rfl | assumption) only [↓Z0, ↓Xp, ↓Xt, Xq, Xc, Nac, Naa, Nat.reduceAdd, Nat.reduceMul, Nat.reduceLT, Nat.reduceEqDiff, reduceIte, Xl, Nat.reduceLeDiff, Xa, Xn, Nao, g0, g7, g10, g12, hb0, hb1, hb, Nai]
      refine ⟨H.length - (i + 1), by omega, i + 1, rfl, by omega, fun j hj => ?_, rfl, hq⟩
      by_cases hji : j < i
      ·exact hp2 j hji
      ·have : j = i := by omega
       subst this; exact hne
     ·have hb : (((l.getD i 0).toNat : Int) != ((H.getD i 0).toNat : Int)) = true := by
       simp only [bne_iff_ne, ne_eq]
       exact fun e => hne (UInt8.toNat_inj.1 (by omega))
      have hno : ¬ H = l.take H.length := fun e => hne (hsame.1 e i hlt)
      rw [if_neg hno] at hcl
      simp (disch := first | omega | rfl | assumption) only [↓Z0, ↓Xp, ↓Xt, Xq, Xc, Nac, Naa, Nat.reduceAdd, Nat.reduceMul, Nat.reduceLT, Nat.reduceEqDiff, reduceIte, Xl, Nat.reduceLeDiff, Xa, Xn, Nao, g0, g7, g10, g12, hb0, hb1, hb, Nai]
      refine ⟨nofun, _, rfl, ?_⟩
      simp only [Naz, ↓Z0, ↓Xp, ↓Xt, Xq, Xc, Nac, Naa, Nat.reduceAdd, Nat.reduceMul, Nat.reduceLT, Nat.reduceEqDiff, reduceIte]
      rw [if_neg hno]
      exact hcl _
    ·have : i = H.length := by omega
     subst this
     simp (disch := first | omega | rfl | assumption) only [↓Z0, ↓Xp, ↓Xt, Xq, Xc, Nac, Naa, Nat.reduceAdd, Nat.reduceMul, Nat.reduceLT, Nat.reduceEqDiff, reduceIte, Xl, Nat.reduceLeDiff, Xa, Xn, Nao, g0, g7, g10, g12]
     exact hsame.2 hp2
   ·refine ⟨0, rfl, by omega, fun j hj => by omega, ?_⟩
    simp only [Env.get_put, Nat.reduceEqDiff, if_false, if_true, g0]
    exact ⟨trivial, trivial, trivial, trivial, hq⟩
  clear g0
  rintro ⟨env, ⟨sto, c⟩⟩ ⟨g7, g10, hse⟩
  simp only at g7 g10
  rw [if_pos hse] at hcl ⊢
  simp (disch := first | omega | rfl | assumption) only [↓Z0, ↓Xp, ↓Xt, Xq, Xc, Nac, Naa, Nat.reduceAdd, Nat.reduceMul, Nat.reduceLT, Nat.reduceEqDiff, reduceIte, Xm, Nat.reduceLeDiff, Xa, Xn, unP, Nau, Nav, Nao, g7, g10, hwN]
  refine ⟨nofun, _, rfl, ?_⟩
  simp only [Naz, ↓Z0, ↓Xp, ↓Xt, Xq, Xc, Nac, Naa, Nat.reduceAdd, Nat.reduceMul, Nat.reduceLT, Nat.reduceEqDiff, reduceIte]
  exact hcl _
 ·rw [if_neg (by simp [h0]), if_pos h0] at hcl ⊢
  simp (disch := first | omega | rfl | assumption) only [↓Z0, ↓Xp, ↓Xt, Xq, Xc, Nac, Naa, Nat.reduceAdd, Nat.reduceMul, Nat.reduceLT, Nat.reduceEqDiff, reduceIte, Xm, Nat.reduceLeDiff, Xa, Xn, unP, Nau, Nav, Nao, g0, cu4]
  refine ⟨nofun, _, rfl, ?_⟩
  simp only [Naz, ↓Z0, ↓Xp, ↓Xt, Xq, Xc, Nac, Naa, Nat.reduceAdd, Nat.reduceMul, Nat.reduceLT, Nat.reduceEqDiff, reduceIte]
  exact hcl _
def NeT : List PV → Option PV
 | [v] => match inL v with
   | some l => if l.length ≤ 140737488355000 then some (NkE (NbM l)) else none
   | none => none
 | _ => none
def Npv : FuncId → Option (List PV → Option PV) := fun f => if f = 76 then some Nce else if f = 24 then some gRHeadM else none
noncomputable def cfgR9 : Cfg := { fn := fun f => Nbr f tblL, ext := Npv }
theorem NnW {Gl : Gmap} : ∀ f g, Npv f = some g → NbJ Go.Proofs.Try.prog Gl f g := by
 intro f g h
 unfold Npv at h
 by_cases e : f = 76
 ·subst e; rw [if_pos rfl] at h; cases h
  exact Nam NcC NdX
 rw [if_neg e] at h; clear e
 by_cases e : f = 24
 ·subst e; rw [if_pos rfl] at h; cases h
  exact Nam Ne7 Nf0
 rw [if_neg e] at h; clear e
 cases h
theorem NnH {Gl : Gmap} : CfgOK Go.Proofs.Try.prog Gl cfgR9 := NaP NaQ NnW
theorem Nlb (args : List PV) (r : PV) (h : NeT args = some r) : ∃ fuel, evP cfgR9 fuel 50 args = some r := by
 unfold NeT at h
 split at h
 ·split at h
  ·rename_i v l hl
   split at h
   ·rename_i hc
    simp only [Sj] at h
    subst h
    exact ⟨100 + 1, Na2 (by kernel_rfl) (NaH hl) (Nn5 (cfg := cfgR9) (by kernel_rfl) (by kernel_rfl) (by kernel_rfl) hl hc (Nat.le_refl _))⟩
   ·simp at h
  ·simp at h
 ·simp at h
theorem NmY {cfg : Cfg} (hf : cfg.fn 26 = some m26) (hx1 : cfg.ext 50 = some NeT) (hx2 : cfg.ext 51 = some Ngm) {v : PV} {b : List UInt8} (hv : inL v = some b) (hb : b.length ≤ 1000000000000) {fuel : Nat} (hfu : b.length + 5 ≤ fuel) :
 ∃ r st', NaB cfg (fuel + 1) 26 [v] { sto := .leaf, cnt := 1 } = some (r, st') ∧ Naq st' r = some (NfK b) := by
 refine Naw hf ?_
 unfold m26
 have ch : ∀ (st : St) (key : Nat), Naf (Nag cfg (NaB cfg fuel) 50) false st key [v] = some (.tup [.i .i64 ((NbM b).1 : Int), .i .i64 (NbM b).2.1, .i .i64 (NbM b).2.2], st) := by
  intro st key
  refine Nap (by simp only [List.all_cons, Na3 hv, List.all_nil, Bool.and_self]) ?_ rfl
  rw [Nad hx1]
  unfold NeT
  simp only [hv]
  rw [if_pos (by omega)]
  rfl
 have hdv : ∀ st a, NaU st [v, .i .i64 a] = some [v, .i .i64 a] := fun st a => NaA (by simp only [List.all_cons, Na3 hv, List.all_nil, Bool.and_self, Bool.true_and]; rfl)
 unfold NfK Nn0
 have hhead := @Njp b
 generalize NbM b = H at ch hhead ⊢
 obtain ⟨n, a0, e⟩ := H
 simp only at ch hhead ⊢
 by_cases h1 : e ≠ 0
 ·rw [if_pos h1]
  simp (disch := first | omega | rfl | assumption) only [Nae, ↓Z0, ↓Xp, ↓Xt, Xq, Xc, Nac, Naa, Nat.reduceAdd, Nat.reduceMul, Nat.reduceLT, Nat.reduceEqDiff, reduceIte, Xm, Nat.reduceLeDiff, Xa, Xn, ch]
  refine ⟨nofun, _, rfl, ?_⟩
  simp only [Naz, ↓Z0, ↓Xp, ↓Xt, Xq, Xc, Nac, Naa, Nat.reduceAdd, Nat.reduceMul, Nat.reduceLT, Nat.reduceEqDiff, reduceIte]
  exact Nal rfl
 rw [if_neg h1]
 have h1' : e = 0 := by simpa using h1
 obtain ⟨p, rfl, hpb⟩ := hhead h1'
 simp only
 refine Za (fun x => x.env.get 0 = v) ?_ ?_
 ·simp (disch := first | omega | rfl | assumption) only [↓Z0, ↓Xp, ↓Xt, Xq, Xc, Nac, Naa, Nat.reduceAdd, Nat.reduceMul, Nat.reduceLT, Nat.reduceEqDiff, reduceIte, Xm, Nat.reduceLeDiff, Xa, Xn, Nae]
  (repeat' (first | exact True.intro | rfl | assumption | omega | apply And.intro | exact St.get_putk _ _ _ | refine ⟨_, rfl, ?_⟩))
 rintro ⟨env, ⟨sto, c⟩⟩ g0
 simp only at g0
 refine Za (fun x => x.env.get 0 = v ∧ x.env.get 6 = .i .i64 (n : Int) ∧ x.env.get 7 = .i .i64 (p : Int) ∧ x.env.get 8 = .i .i64 e) ?_ ?_
 ·simp (disch := first | omega | rfl | assumption) only [↓Z0, ↓Xp, ↓Xt, Xq, Xc, Nac, Naa, Nat.reduceAdd, Nat.reduceMul, Nat.reduceLT, Nat.reduceEqDiff, reduceIte, Xm, Nat.reduceLeDiff, Xa, Xn, g0, ch]
  (repeat' (first | exact True.intro | rfl | assumption | omega | apply And.intro | exact St.get_putk _ _ _ | refine ⟨_, rfl, ?_⟩))
 clear g0
 rintro ⟨env, ⟨sto, c⟩⟩ ⟨g0, g6, g7, g8⟩
 simp only at g0 g6 g7 g8
 refine Za (fun x => x.env.get 0 = v ∧ x.env.get 6 = .i .i64 (n : Int) ∧ x.env.get 7 = .i .i64 (p : Int)) ?_ ?_
 ·simp (disch := first | omega | rfl | assumption) only [↓Z0, ↓Xp, ↓Xt, Xq, Xc, Nac, Naa, Nat.reduceAdd, Nat.reduceMul, Nat.reduceLT, Nat.reduceEqDiff, reduceIte, Xm, Nat.reduceLeDiff, Xa, Xn, g0, g6, g7, g8]
  (repeat' (first | exact True.intro | rfl | assumption | omega | apply And.intro | exact St.get_putk _ _ _ | refine ⟨_, rfl, ?_⟩))
 clear g0 g6 g7 g8
 rintro ⟨env, ⟨sto, c⟩⟩ ⟨g0, g6, g7⟩
 simp only at g0 g6 g7
 refine Za (fun x => x.env.get 0 = v ∧ x.env.get 6 = .i .i64 (n : Int) ∧ x.env.get 7 = .i .i64 (p : Int) ∧ x.env.get 9 = .nsl) ?_ ?_
 ·simp (disch := first | omega | rfl | assumption) only [↓Z0, ↓Xp, ↓Xt, Xq, Xc, Nac, Naa, Nat.reduceAdd, Nat.reduceMul, Nat.reduceLT, Nat.reduceEqDiff, reduceIte, Xm, Nat.reduceLeDiff, Xa, Xn, g0, g6, g7]
  (repeat' (first | exact True.intro | rfl | assumption | omega | apply And.intro | exact St.get_putk _ _ _ | refine ⟨_, rfl, ?_⟩))
 clear g0 g6 g7
 rintro ⟨env, ⟨sto, c⟩⟩ ⟨g0, g6, g7, g9⟩
 simp only at g0 g6 g7 g9
 obtain ⟨RES, hRES⟩ : ∃ R, Nbw b (b.length + 1) (p : Int) [] = R := ⟨_, rfl⟩
 rw [hRES]
 rw [Z2]
 refine Z9 (k := b.length - p) (fun d x => ∃ (a : Nat) (L : List Ev) (w : PV), a ≤ b.length ∧ d = b.length - a ∧ Nbw b (b.length + 1) (a : Int) L = RES ∧ L.length ≤ a ∧ (L = [] → w = .nsl) ∧ x.env.get 0 = v ∧ x.env.get 6 = .i .i64 (n : Int) ∧ x.env.get 7 = .i .i64 (a : Int) ∧ x.env.get 9 = w ∧ Own x.st 5 w L.length (Nay L)) ?_ ⟨p, [], .nsl, hpb, rfl, hRES, by simp, fun _ => rfl, g0, g6, g7, g9, Own.nil _ _⟩ (by omega)
 clear g0 g6 g7 g9
 rintro d ⟨env, ⟨sto, c⟩⟩ ⟨a, L, w, ha, rfl, hR, hLl, hLn, g0, g6, g7, g9, o9⟩
 simp only at g0 g6 g7 g9
 rw [show Nbw b (b.length + 1) (a : Int) L = _ from rfl] at hR
 unfold Nbw at hR
 cases hr : Nfx b (a : Int) with
 | inr e2 =>
   rw [hr] at hR
   simp only at hR
   have he2 := Nhm hr
   have cr : ∀ (st : St) (key : Nat), Naf (Nag cfg (NaB cfg fuel) 51) false st key [v, .i .i64 (a : Int)] = some (.tup [.nsl, .i .i64 0, .i .i64 e2], st) := by
    intro st key
    refine Nas (r := .tup [.nsl, .i .i64 0, .i .i64 e2]) (hdv st _) ?_ rfl
    rw [Nad hx2]
    unfold Ngm
    simp only [hv]
    rw [if_pos (by omega)]
    unfold NfD
    rw [hr]
   simp (disch := first | omega | rfl | assumption) only [↓Z0, ↓Xp, ↓Xt, Xq, Xc, Nac, Naa, Nat.reduceAdd, Nat.reduceMul, Nat.reduceLT, Nat.reduceEqDiff, reduceIte, Xm, Nat.reduceLeDiff, Xa, Xn, g0, g6, g7, g9, cr]
   refine ⟨nofun, _, rfl, ?_⟩
   simp only [Naz, ↓Z0, ↓Xp, ↓Xt, Xq, Xc, Nac, Naa, Nat.reduceAdd, Nat.reduceMul, Nat.reduceLT, Nat.reduceEqDiff, reduceIte]
   subst hR
   have hcl := Nbj (st := ⟨sto, c + 152⟩) (pre := [.i .i64 (n : Int)]) (post := [.i .i64 (a : Int), .i .i64 0]) (o9.cnt (by omega)) rfl rfl (NbQ L) (by decide)
   have ho : NrE w 5 L.length (Nay L) = Not L := by
    rcases o9 with ⟨rfl, h0, _⟩ | ⟨k, rfl, _⟩
    ·rw [List.length_eq_zero_iff.1 h0]; rfl
    ·have hne : L ≠ [] := fun e => by have := hLn e; simp at this
     unfold NrE Not
     rw [if_neg hne]
   rw [ho] at hcl
   exact hcl
 | inl q =>
   obtain ⟨l, a'⟩ := q
   rw [hr] at hR
   simp only at hR
   obtain ⟨a1, rest, q1, q2, q3, q4, _, q6, rfl⟩ := NdJ hr
   have q1' : a1 = a := by omega
   subst q1'
   have hp := Nfa l
   have hge := Njs l
   have hle := Ne6 q6 q2
   have gr : Nag cfg (NaB cfg fuel) 51 [v, .i .i64 (a1 : Int)] = some (.tup ([] ++ PV.osl 5 l.length (Nay l) :: [.i .i64 ((a1 + (Ncw l).length : Nat) : Int), .i .i64 0])) := by
    rw [Nad hx2]
    unfold Ngm
    simp only [hv]
    rw [if_pos (by omega)]
    unfold NfD
    rw [hr]
    rfl
   simp (disch := first | omega | rfl | assumption) only [↓Z0, ↓Xp, ↓Xt, Xq, Xc, Nac, Naa, Nat.reduceAdd, Nat.reduceMul, Nat.reduceLT, Nat.reduceEqDiff, reduceIte, Xa, Xn, g0, g6, g7, g9]
   refine Nbs (hdv _ _) gr (OutV.osl _ _ _) rfl rfl (NbQ l) (NaI l) (by first | omega | (simp only [Z0L_, Nb2, Nat.add_assoc, Nat.reduceAdd]; omega) | (simp only; omega)) ?_
   intro v' st1 o1 k1 c1 f1
   simp only at c1
   have hoc := fun n => (show Own ⟨st1.sto, st1.cnt + n⟩ 5 v' l.length (Nay l) from o1.move (by simp only; omega) (fun _ _ _ => rfl)).cells
   have h1e := NjS l
   simp (disch := first | omega | rfl | assumption) only [↓Z0, ↓Xp, ↓Xt, Xq, Xc, Nac, Naa, Nat.reduceAdd, Nat.reduceMul, Nat.reduceLT, Nat.reduceEqDiff, reduceIte, Xm, Nat.reduceLeDiff, Xa, Xn, g0, g6, g7, g9, List.nil_append, hoc, h1e]
   have hwl : ∀ j, j ∈ keyOf w → j < c := fun j hj => o9.lt j hj
   have hkk : c + 16 = c + 16 := rfl
   refine NcO (o9.move (by simp only; omega) ?_) (by first | omega | (simp only [Z0L_, Nb2, Nat.add_assoc, Nat.reduceAdd]; omega) | (simp only; omega)) ?_ (NaI l) (by decide) (by unfold maxBytes; omega) ?_
   ·intro j hj hc
    simp only at hc
    show st1.get j = _
    rw [f1 j (by omega)]; rfl
   ·intro h
    have := hwl _ h
    omega
   intro v2 st2 o2 c2 _ _
   (try simp only [Z0L_] at c2)
   refine ⟨b.length - (a1 + (Ncw l).length), by omega, a1 + (Ncw l).length, L ++ l, v2, hle, rfl, ?_, ?_, ?_, rfl, rfl, ?_⟩
   ·rw [← NcX b b.length (b.length + 1) _ _ (by omega) (by omega) hle]; exact hR
   ·rw [List.length_append]; omega
   ·intro h
    have := congrArg List.length h
    rw [List.length_append, List.length_nil] at this
    omega
   ·rw [List.length_append, Ndq]; exact o2.cnt (by omega)
def NlO : FuncId → Option (List PV → Option PV) := fun f => if f = 50 then some NeT else if f = 51 then some Ngm else none
noncomputable def cfgR10 : Cfg := { fn := fun f => Nbr f tblL, ext := NlO }
theorem Nlh {Gl : Gmap} : ∀ f g, NlO f = some g → NbJ Go.Proofs.Try.prog Gl f g := by
 intro f g h
 unfold NlO at h
 by_cases e : f = 50
 ·subst e; rw [if_pos rfl] at h; cases h
  exact Nam NnH Nlb
 rw [if_neg e] at h; clear e
 by_cases e : f = 51
 ·subst e; rw [if_pos rfl] at h; cases h
  exact Nam Nod Nk7
 rw [if_neg e] at h; clear e
 cases h
theorem Nmz {Gl : Gmap} : CfgOK Go.Proofs.Try.prog Gl cfgR10 := NaP NaQ Nlh
def gRScan : List PV → Option PV
 | [v] => match inL v with
   | some l => if l.length ≤ 1000000000000 then some (NfK l) else none
   | none => none
 | _ => none
theorem Nk6 (args : List PV) (r : PV) (h : gRScan args = some r) : ∃ fuel, evP cfgR10 fuel 26 args = some r := by
 unfold gRScan at h
 split at h
 ·split at h
  ·rename_i v l hl
   split at h
   ·rename_i hc
    simp only [Sj] at h
    subst h
    exact ⟨l.length + 5 + 1, Na2 (by kernel_rfl) (NaH hl) (NmY (cfg := cfgR10) (by kernel_rfl) (by kernel_rfl) (by kernel_rfl) hl hc (Nat.le_refl _))⟩
   ·simp at h
  ·simp at h
 ·simp at h
end Go.Pe
