/-
  BytesPages, by the interpreter of plain data. No condition.
-/
import Derived.Test.YtmjoneiagfegdaaBytI
import Derived.Test.YtmjoneiagfegdaaPeL9
import Derived.Test.YtmjoneiagfegdaaView
set_option linter.unusedVariables false
set_option linter.unusedSimpArgs false
namespace Go.Pe
open Go Go.Am Go.RowKit

theorem turns_any (args : List PV) (r : PV) (h : gTurns args = some r) : ∃ fuel, evP cfgP2 fuel 34 args = some r := by
  unfold gTurns at h
  split at h
  · split at h
    · rename_i w _ l hl
      split at h
      · rename_i hc
        cases h
        obtain ⟨q1, q2⟩ := inEn_cases hl
        by_cases hn : l = []
        · subst hn
          refine ⟨60, ?_⟩
          rw [← fvP_eq]
          rcases q1 with ⟨rfl, _⟩ | rfl
          · exact turns0
          · exact turns1
        · rcases q1 with ⟨_, h⟩ | rfl
          · exact absurd h hn
          · exact turns_ev q2 hc hn
      · cases h
    · cases h
  · cases h
def extP3 : FuncId → Option (List PV → Option PV) := fun f => if f = 35 then some gPage else if f = 33 then some gLike else if f = 34 then some gTurns else if f = 10 then some gAwakeB else none
noncomputable def cfgP3 : Cfg := { fn := fun f => lookT f tblL, ext := extP3 }
theorem extP3_ok {Gl : Gmap} : ∀ f g, extP3 f = some g → PureOK Go.Proofs.Try.prog Gl f g := by
  intro f g h
  unfold extP3 at h
  by_cases e : f = 35
  · subst e; rw [if_pos rfl] at h; cases h
    exact pure_of cfgP1_ok page_any
  rw [if_neg e] at h; clear e
  by_cases e : f = 33
  · subst e; rw [if_pos rfl] at h; cases h
    exact pure_of cfgE0_ok' like_any
  rw [if_neg e] at h; clear e
  by_cases e : f = 34
  · subst e; rw [if_pos rfl] at h; cases h
    exact pure_of cfgP2_ok turns_any
  rw [if_neg e] at h; clear e
  by_cases e : f = 10
  · subst e; rw [if_pos rfl] at h; cases h
    exact pure_of cfgG_ok bawake_any
  rw [if_neg e] at h; clear e
  cases h
theorem cfgP3_ok {Gl : Gmap} : CfgOK Go.Proofs.Try.prog Gl cfgP3 := cfg_okt tbl_all extP3_ok
theorem hxP3_gPage : extP3 35 = some gPage := by kernel_rfl
theorem hxP3_gLike : extP3 33 = some gLike := by kernel_rfl
theorem hxP3_gTurns : extP3 34 = some gTurns := by kernel_rfl
theorem hxP3_gAwakeB : extP3 10 = some gAwakeB := by kernel_rfl

noncomputable def cfgL9 : Cfg := { fn := fun f => lookT f tblX9, ext := extP3 }
theorem cfgL9_ok {Gl : Gmap} : CfgOK Go.Proofs.Try.prog Gl cfgL9 := cfg_okt tbl_all9 extP3_ok
def yOf (O : List En) (P : List Bool) (i : Nat) (x : En) : En := if i < O.length ∧ i < P.length ∧ P.getD i false = true ∧ (O.getD i .none).B.length ≤ 100 then ⟨x.K, (O.getD i .none).N, (O.getD i .none).B⟩ else x
theorem yOf_K (O : List En) (P : List Bool) (i : Nat) (x : En) : (yOf O P i x).K = x.K := by unfold yOf; split <;> rfl
def ys (O : List En) (P : List Bool) (L : List En) (i : Nat) : List En := (List.range i).map fun j => yOf O P j (L.getD j .none)
theorem ys_succ (O : List En) (P : List Bool) (L : List En) (i : Nat) : ys O P L (i + 1) = ys O P L i ++ [yOf O P i (L.getD i .none)] := by
  unfold ys
  rw [List.range_succ, List.map_append]; rfl
def sames (O : List En) (P : List Bool) (L : List En) (i : Nat) : Bool := (List.range i).all fun j => likeE (L.getD j .none) (yOf O P j (L.getD j .none))
theorem sames_succ (O : List En) (P : List Bool) (L : List En) (i : Nat) : sames O P L (i + 1) = (sames O P L i && likeE (L.getD i .none) (yOf O P i (L.getD i .none))) := by
  unfold sames
  rw [List.range_succ, List.all_append]; simp
theorem slice_ens {L : List En} {m : Nat} (hm : m ≤ L.length) : sliceP 3 none (some (.i .i64 (m : Int))) (.fsl L.length (ensC L)) = some (.fsl m (ensC (L.take m))) := by
  have h1 : (ensC L).take (m * 3) = ensC (L.take m) := by
    have : L = L.take m ++ L.drop m := (List.take_append_drop m L).symm
    conv => lhs; rw [this, ensC_app]
    rw [List.take_append_of_le_length (by rw [ensC_len, List.length_take]; omega), List.take_of_length_le (by rw [ensC_len, List.length_take]; omega)]
  have h2 := ensC_len L
  unfold sliceP
  simp only [bound]
  rw [if_pos ⟨by omega, by omega⟩]
  simp only [Int.toNat_natCast]
  rw [if_pos h2, Nat.zero_mul, List.drop_zero, Nat.sub_zero, h1]
theorem zip_range {M : List En} {f : Nat → En} : M.zip ((List.range M.length).map f) = (List.range M.length).map fun j => (M.getD j .none, f j) := by
  apply List.ext_getElem
  · simp
  · intro j h1 h2
    have hj : j < M.length := by simp at h2; exact h2
    rw [List.getElem_zip, List.getElem_map, List.getElem_map, List.getElem_range, getD_lt hj]
theorem WV_callqV {g : List PV → Option PV} {st : St} {key sz n : Nat} {ps ps' cs : List PV} {r : PV} {Q : PV → St → Prop} (hd : deepL st ps = some ps') (hg : g ps' = some r) (ho : OutV r sz n cs) (hc : clO cs = true) (hl : cs.length = n * sz) (hk : key < st.cnt)
    (q : ∀ v' st', Own st' sz v' n cs → (∀ j, j ∈ keyOf v' → j = key) → st'.cnt = st.cnt → (∀ j, j ≠ key → st'.get j = st.get j) → Q v' st') :
    WV (match deepL st ps with
      | some l => match g l with
        | some r => if r.closedB then recvRes st key r else none
        | none => none
      | none => none) Q := by
  rcases ho with ⟨rfl, rfl, rfl⟩ | rfl
  · refine ⟨_, st, ?_, q .nsl st (Own.nil _ _) (fun j hj => by simp [keyOf] at hj) rfl (fun _ _ => rfl)⟩
    simp only [hd, hg, recvRes]
    simp only [show PV.nsl.closedB = true from rfl, if_true]
  · have hcl : (PV.osl sz n cs).closedB = true := closed_clO hc 10
    refine ⟨_, st.put key (some (.cells cs false)), ?_, q (.rsl key sz 0 n) _ (.inr ⟨key, rfl, St.get_putk _ _ _, hl, hk⟩) (fun j hj => by simpa [keyOf] using hj) rfl (fun j hj => St.get_put_ne fun e => hj e.symm)⟩
    simp only [hd, hg, hcl, if_true, recvRes]
theorem Own.deepEn {st : St} {n : Nat} {v : PV} {L : List En} (h : Own st 3 v n (ensC L)) (hn : n = L.length) (hE : ∀ e ∈ L, EnIn e) : Go.Pe.deep st 12 v = some (valO v L.length (ensC L)) ∧ inEn (valO v L.length (ensC L)) = some L := by
  subst hn
  refine ⟨h.deepO (ensC_flat L), ?_⟩
  rcases h with ⟨rfl, h1, h2⟩ | ⟨k, rfl, _⟩
  · have : L = [] := List.length_eq_zero_iff.1 h1
    subst this; rfl
  · exact inEn_fsl hE
theorem WC_hold9 {cfg : Cfg} {callE : CallE} {n : Nat} {a b : MCode} {x : Now} {Q : MExit → Now → Prop} (h : ∀ K : Now → Prop, (∀ x', WC cfg callE n b x' Q → K x') → WC cfg callE n a x (thenQ Q K)) : WC cfg callE n (.seq a b) x Q := by
  rw [Z0]
  exact h _ fun _ h => h
theorem load_en1 {st : St} {l : List En} {i : Nat} (hi : i < l.length) : loadP st 1 (.fptr (((ensC l).drop (i * 3)).drop 1)) = some [.i .u64 ((l.getD i .none).N : Int)] := by
  have h := ens_at hi
  have h2 := congrArg (fun x => (x.drop 1).take 1) h
  simp only [List.drop_take, List.take_take] at h2
  show cut? _ 0 1 = _
  unfold cut?
  rw [if_pos (by rw [List.length_drop, List.length_drop, ensC_len]; omega), List.drop_zero]
  exact congrArg some h2
theorem load_en2 {st : St} {l : List En} {i : Nat} (hi : i < l.length) : loadP st 1 (.fptr (((ensC l).drop (i * 3)).drop 2)) = some [.fsl (l.getD i .none).B.length (ofBytes (l.getD i .none).B)] := by
  have h := ens_at hi
  have h2 := congrArg (fun x => (x.drop 2).take 1) h
  simp only [List.drop_take, List.take_take] at h2
  show cut? _ 0 1 = _
  unfold cut?
  rw [if_pos (by rw [List.length_drop, List.length_drop, ensC_len]; omega), List.drop_zero]
  exact congrArg some h2
theorem load_b {st : St} {P : List Bool} {i : Nat} (hi : i < P.length) : loadP st 1 (.fptr ((P.map PV.b).drop i)) = some [.b (P.getD i false)] := by
  show cut? _ 0 1 = _
  unfold cut?
  rw [if_pos (by rw [List.length_drop, List.length_map]; omega), List.drop_zero, List.drop_eq_getElem_cons (by rw [List.length_map]; exact hi), getD_lt hi, List.getElem_map]
  rfl
set_option maxHeartbeats 8000000 in
set_option maxRecDepth 100000 in
theorem pages_ev {L O : List En} {P : List Bool} (hL : ∀ e ∈ L, e.N < 18446744073709551616) (hO : ∀ e ∈ O, e.N < 18446744073709551616) : ∃ fuel, evP cfgL9 fuel 9 [.fsl L.length (ensC L), .fsl O.length (ensC O), .fsl P.length (P.map .b)] = some (.b true) := by
  refine ⟨60 + 1, ev_flat rfl rfl (fun _ => rfl) (evFn_W (by kernel_rfl : cfgL9.fn 9 = some m9) ?_)⟩
  unfold m9
  have aw : ∀ (st : St) (key : Nat), callStep (runPure cfgL9 (evFn cfgL9 60) 10) false st key [] = some (.b true, st) := fun st key => callStep_flat rfl (by rw [runPure_ext (show cfgL9.ext 10 = some gAwakeB from hxP3_gAwakeB)]; rfl) rfl
  have hmin : minP (.i .i64 (L.length : Int)) [.i .i64 ((25 : Nat) : Int)] = some (.i .i64 ((min L.length 25 : Nat) : Int)) := by
    unfold minP
    rw [if_pos rfl]
    unfold minP
    congr 2
    split <;> omega
  have hsl := slice_ens (L := L) (m := min L.length 25) (by omega)
  obtain ⟨M, hM⟩ : ∃ M, L.take (min L.length 25) = M := ⟨_, rfl⟩
  have lM : M.length = min L.length 25 := by rw [← hM, List.length_take]; omega
  rw [hM, ← lM] at hsl
  rw [← lM] at hmin
  simp only [putArgs]
  (try rw [Z0])
  (try simp (maxSteps := 2000000) (disch := first | omega | rfl | assumption) only [↓Xp, ↓Xt, Xq, Xc, binP, ofCells, Nat.reduceAdd, Nat.reduceMul, Nat.reduceLT, Nat.reduceEqDiff, reduceIte, Xa, Xn, unP, len_f, len_n, len_r, Xm, Nat.reduceLeDiff, List.nil_append, List.cons_append, hmin, hsl])
  (try rw [Z0])
  (try simp (maxSteps := 2000000) (disch := first | omega | rfl | assumption) only [↓Xp, ↓Xt, Xq, Xc, binP, ofCells, Nat.reduceAdd, Nat.reduceMul, Nat.reduceLT, Nat.reduceEqDiff, reduceIte, Xa, Xn, unP, len_f, len_n, len_r, Xm, Nat.reduceLeDiff, List.nil_append, List.cons_append, hmin, hsl])
  (try rw [Z0])
  (try simp (maxSteps := 2000000) (disch := first | omega | rfl | assumption) only [↓Xp, ↓Xt, Xq, Xc, binP, ofCells, Nat.reduceAdd, Nat.reduceMul, Nat.reduceLT, Nat.reduceEqDiff, reduceIte, Xa, Xn, unP, len_f, len_n, len_r, Xm, Nat.reduceLeDiff, List.nil_append, List.cons_append, hmin, hsl])
  (try rw [Z0])
  (try simp (maxSteps := 2000000) (disch := first | omega | rfl | assumption) only [↓Xp, ↓Xt, Xq, Xc, binP, ofCells, Nat.reduceAdd, Nat.reduceMul, Nat.reduceLT, Nat.reduceEqDiff, reduceIte, Xa, Xn, unP, len_f, len_n, len_r, Xm, Nat.reduceLeDiff, List.nil_append, List.cons_append, hmin, hsl])
  have hM25 : M.length ≤ 25 := by omega
  have hMN : ∀ e ∈ M, e.N < 18446744073709551616 := fun e he => hL e (by rw [← hM] at he; exact List.mem_of_mem_take he)
  refine WC_hold9 fun K hK => ?_
  rw [Z0]
  simp (disch := first | omega | rfl | assumption) only [↓Xp, ↓Xt, Xq, Xc, binP, ofCells, Nat.reduceAdd, Nat.reduceMul, Nat.reduceLT, Nat.reduceEqDiff, reduceIte, Xa, Xn, unP, len_f, len_n, len_r, Xm, Nat.reduceLeDiff]
  refine Z9 (k := M.length - 0) (fun d x => ∃ (i : Nat) (w : PV), d = M.length - i ∧ i ≤ M.length ∧ x.env.get 0 = .fsl M.length (ensC M) ∧ x.env.get 1 = .fsl O.length (ensC O) ∧ x.env.get 2 = .fsl P.length (P.map .b) ∧ x.env.get 7 = w ∧ x.env.get 8 = .b (sames O P M i) ∧ x.env.get 17 = .fsl M.length (ensC M) ∧ x.env.get 18 = .i .i64 (M.length : Int) ∧ x.env.get 19 = .i .i64 (i : Int) ∧ Own x.st 3 w i (ensC (ys O P M i)) ∧ ∀ j, j < i → (M.getD j .none).B.length ≤ 100) ?_ ?_ (by omega)
  · rintro d ⟨env, ⟨sto, c⟩⟩ ⟨i, w, rfl, hi, g0, g1, g2, g7, g8, g17, g18, g19, oo, hB⟩
    simp only at g0 g1 g2 g7 g8 g17 g18 g19
    by_cases hlt : i < M.length
    · obtain ⟨e, he⟩ : ∃ e, M.getD i .none = e := ⟨_, rfl⟩
      have hld : ∀ st, loadP st 3 (.fptr ((ensC M).drop (i * 3))) = some [.i .u8 (e.K.toNat : Int), .i .u64 (e.N : Int), .fsl e.B.length (ofBytes e.B)] := fun st => by rw [load_en hlt, he]; rfl
      have hszM := ensC_len M
      have hszO := ensC_len O
      have hszP : (P.map PV.b).length = P.length := List.length_map _
      have hlB := len_f e.B.length (ofBytes e.B)
      by_cases h100 : 100 < e.B.length
      · skip
        (try rw [Z0])
        (try simp (maxSteps := 2000000) (disch := first | omega | rfl | assumption) only [↓Xp, ↓Xt, Xq, Xc, binP, ofCells, Nat.reduceAdd, Nat.reduceMul, Nat.reduceLT, Nat.reduceEqDiff, reduceIte, Xa, Xn, unP, len_f, len_n, len_r, Xm, Nat.reduceLeDiff, List.nil_append, List.cons_append, g0, g1, g2, g7, g8, g17, g18, g19, hld, hszM, aw, hlB])
        (try rw [Z0])
        (try simp (maxSteps := 2000000) (disch := first | omega | rfl | assumption) only [↓Xp, ↓Xt, Xq, Xc, binP, ofCells, Nat.reduceAdd, Nat.reduceMul, Nat.reduceLT, Nat.reduceEqDiff, reduceIte, Xa, Xn, unP, len_f, len_n, len_r, Xm, Nat.reduceLeDiff, List.nil_append, List.cons_append, g0, g1, g2, g7, g8, g17, g18, g19, hld, hszM, aw, hlB])
        (try rw [Z0])
        (try simp (maxSteps := 2000000) (disch := first | omega | rfl | assumption) only [↓Xp, ↓Xt, Xq, Xc, binP, ofCells, Nat.reduceAdd, Nat.reduceMul, Nat.reduceLT, Nat.reduceEqDiff, reduceIte, Xa, Xn, unP, len_f, len_n, len_r, Xm, Nat.reduceLeDiff, List.nil_append, List.cons_append, g0, g1, g2, g7, g8, g17, g18, g19, hld, hszM, aw, hlB])
        (try rw [Z0])
        (try simp (maxSteps := 2000000) (disch := first | omega | rfl | assumption) only [↓Xp, ↓Xt, Xq, Xc, binP, ofCells, Nat.reduceAdd, Nat.reduceMul, Nat.reduceLT, Nat.reduceEqDiff, reduceIte, Xa, Xn, unP, len_f, len_n, len_r, Xm, Nat.reduceLeDiff, List.nil_append, List.cons_append, g0, g1, g2, g7, g8, g17, g18, g19, hld, hszM, aw, hlB])
        (try rw [Z0])
        (try simp (maxSteps := 2000000) (disch := first | omega | rfl | assumption) only [↓Xp, ↓Xt, Xq, Xc, binP, ofCells, Nat.reduceAdd, Nat.reduceMul, Nat.reduceLT, Nat.reduceEqDiff, reduceIte, Xa, Xn, unP, len_f, len_n, len_r, Xm, Nat.reduceLeDiff, List.nil_append, List.cons_append, g0, g1, g2, g7, g8, g17, g18, g19, hld, hszM, aw, hlB])
        (try rw [Z0])
        (try simp (maxSteps := 2000000) (disch := first | omega | rfl | assumption) only [↓Xp, ↓Xt, Xq, Xc, binP, ofCells, Nat.reduceAdd, Nat.reduceMul, Nat.reduceLT, Nat.reduceEqDiff, reduceIte, Xa, Xn, unP, len_f, len_n, len_r, Xm, Nat.reduceLeDiff, List.nil_append, List.cons_append, g0, g1, g2, g7, g8, g17, g18, g19, hld, hszM, aw, hlB])
        (try rw [Z0])
        (try simp (maxSteps := 2000000) (disch := first | omega | rfl | assumption) only [↓Xp, ↓Xt, Xq, Xc, binP, ofCells, Nat.reduceAdd, Nat.reduceMul, Nat.reduceLT, Nat.reduceEqDiff, reduceIte, Xa, Xn, unP, len_f, len_n, len_r, Xm, Nat.reduceLeDiff, List.nil_append, List.cons_append, g0, g1, g2, g7, g8, g17, g18, g19, hld, hszM, aw, hlB])
        refine ⟨nofun, _, rfl, ?_⟩
        simp only [tupV, ↓Z0, ↓Xp, ↓Xt, Xq, Xc, binP, ofCells, Nat.reduceAdd, Nat.reduceMul, Nat.reduceLT, Nat.reduceEqDiff, reduceIte]
      · skip
        (try rw [Z0])
        (try simp (maxSteps := 2000000) (disch := first | omega | rfl | assumption) only [↓Xp, ↓Xt, Xq, Xc, binP, ofCells, Nat.reduceAdd, Nat.reduceMul, Nat.reduceLT, Nat.reduceEqDiff, reduceIte, Xa, Xn, unP, len_f, len_n, len_r, Xm, Nat.reduceLeDiff, List.nil_append, List.cons_append, g0, g1, g2, g7, g8, g17, g18, g19, hld, hszM, aw, hlB])
        (try rw [Z0])
        (try simp (maxSteps := 2000000) (disch := first | omega | rfl | assumption) only [↓Xp, ↓Xt, Xq, Xc, binP, ofCells, Nat.reduceAdd, Nat.reduceMul, Nat.reduceLT, Nat.reduceEqDiff, reduceIte, Xa, Xn, unP, len_f, len_n, len_r, Xm, Nat.reduceLeDiff, List.nil_append, List.cons_append, g0, g1, g2, g7, g8, g17, g18, g19, hld, hszM, aw, hlB])
        (try rw [Z0])
        (try simp (maxSteps := 2000000) (disch := first | omega | rfl | assumption) only [↓Xp, ↓Xt, Xq, Xc, binP, ofCells, Nat.reduceAdd, Nat.reduceMul, Nat.reduceLT, Nat.reduceEqDiff, reduceIte, Xa, Xn, unP, len_f, len_n, len_r, Xm, Nat.reduceLeDiff, List.nil_append, List.cons_append, g0, g1, g2, g7, g8, g17, g18, g19, hld, hszM, aw, hlB])
        (try rw [Z0])
        (try simp (maxSteps := 2000000) (disch := first | omega | rfl | assumption) only [↓Xp, ↓Xt, Xq, Xc, binP, ofCells, Nat.reduceAdd, Nat.reduceMul, Nat.reduceLT, Nat.reduceEqDiff, reduceIte, Xa, Xn, unP, len_f, len_n, len_r, Xm, Nat.reduceLeDiff, List.nil_append, List.cons_append, g0, g1, g2, g7, g8, g17, g18, g19, hld, hszM, aw, hlB])
        (try rw [Z0])
        (try simp (maxSteps := 2000000) (disch := first | omega | rfl | assumption) only [↓Xp, ↓Xt, Xq, Xc, binP, ofCells, Nat.reduceAdd, Nat.reduceMul, Nat.reduceLT, Nat.reduceEqDiff, reduceIte, Xa, Xn, unP, len_f, len_n, len_r, Xm, Nat.reduceLeDiff, List.nil_append, List.cons_append, g0, g1, g2, g7, g8, g17, g18, g19, hld, hszM, aw, hlB])
        (try rw [Z0])
        (try simp (maxSteps := 2000000) (disch := first | omega | rfl | assumption) only [↓Xp, ↓Xt, Xq, Xc, binP, ofCells, Nat.reduceAdd, Nat.reduceMul, Nat.reduceLT, Nat.reduceEqDiff, reduceIte, Xa, Xn, unP, len_f, len_n, len_r, Xm, Nat.reduceLeDiff, List.nil_append, List.cons_append, g0, g1, g2, g7, g8, g17, g18, g19, hld, hszM, aw, hlB])
        (try rw [Z0])
        (try simp (maxSteps := 2000000) (disch := first | omega | rfl | assumption) only [↓Xp, ↓Xt, Xq, Xc, binP, ofCells, Nat.reduceAdd, Nat.reduceMul, Nat.reduceLT, Nat.reduceEqDiff, reduceIte, Xa, Xn, unP, len_f, len_n, len_r, Xm, Nat.reduceLeDiff, List.nil_append, List.cons_append, g0, g1, g2, g7, g8, g17, g18, g19, hld, hszM, aw, hlB])
        refine WC_gen (fun x => ∃ ka kb : Nat, x.env.get 0 = .fsl M.length (ensC M) ∧ x.env.get 1 = .fsl O.length (ensC O) ∧ x.env.get 2 = .fsl P.length (P.map .b) ∧ x.env.get 7 = w ∧ x.env.get 8 = .b (sames O P M i) ∧ x.env.get 9 = .i .i64 (i : Int) ∧ x.env.get 10 = .ptr ka 0 ∧ x.env.get 11 = .ptr kb 0 ∧ x.env.get 17 = .fsl M.length (ensC M) ∧ x.env.get 18 = .i .i64 (M.length : Int) ∧ x.env.get 19 = .i .i64 (i : Int) ∧ x.st.get ka = some (.cells [.i .u8 (e.K.toNat : Int), .i .u64 (e.N : Int), .fsl e.B.length (ofBytes e.B)] false) ∧ x.st.get kb = some (.cells [.i .u8 (e.K.toNat : Int), .i .u64 (e.N : Int), .fsl e.B.length (ofBytes e.B)] false) ∧ Own x.st 3 w i (ensC (ys O P M i)) ∧ ka ≠ kb ∧ (∀ j, j ∈ keyOf w → j ≠ ka ∧ j ≠ kb) ∧ ka < x.st.cnt ∧ kb < x.st.cnt) ?_ ?_
        · refine ⟨c + 32, c + 96, ?_⟩
          simp (disch := first | omega | rfl | assumption) only [Env.get_put, Nat.reduceEqDiff, reduceIte, g0, g1, g2, g7, g8, g17, g18, g19, Z0J_, Z0H_, Z0I_, true_and]
          refine ⟨oo.move (by show c ≤ c + 112; omega) (fun j hj hlt => ?_), by omega, fun j hj => ?_, by simp only [Z0L_]; omega, by simp only [Z0L_]; omega⟩
          · have hlt : j < c := hlt
            simp (disch := first | omega | rfl | assumption) only [Z0J_, Z0I_]
            rfl
          · have hlt : j < c := oo.lt j hj
            omega
        rintro ⟨env, ⟨sto, c'⟩⟩ ⟨ka, kb, g0, g1, g2, g7, g8, g9, g10, g11, g17, g18, g19, kx, ky, oo, hab, ok, hca, hcb⟩
        simp only at g0 g1 g2 g7 g8 g9 g10 g11 g17 g18 g19 hca hcb
        replace kx : ∀ n, St.get ⟨sto, n⟩ ka = some (.cells [.i .u8 (e.K.toNat : Int), .i .u64 (e.N : Int), .fsl e.B.length (ofBytes e.B)] false) := fun _ => kx
        replace ky : ∀ n, St.get ⟨sto, n⟩ kb = some (.cells [.i .u8 (e.K.toNat : Int), .i .u64 (e.N : Int), .fsl e.B.length (ofBytes e.B)] false) := fun _ => ky
        refine Za (fun x => ∃ y, yOf O P i e = y ∧ x.env.get 0 = .fsl M.length (ensC M) ∧ x.env.get 1 = .fsl O.length (ensC O) ∧ x.env.get 2 = .fsl P.length (P.map .b) ∧ x.env.get 7 = w ∧ x.env.get 8 = .b (sames O P M i) ∧ x.env.get 10 = .ptr ka 0 ∧ x.env.get 11 = .ptr kb 0 ∧ x.env.get 17 = .fsl M.length (ensC M) ∧ x.env.get 18 = .i .i64 (M.length : Int) ∧ x.env.get 19 = .i .i64 (i : Int) ∧ x.st.get ka = some (.cells [.i .u8 (e.K.toNat : Int), .i .u64 (e.N : Int), .fsl e.B.length (ofBytes e.B)] false) ∧ x.st.get kb = some (.cells [.i .u8 (y.K.toNat : Int), .i .u64 (y.N : Int), .fsl y.B.length (ofBytes y.B)] false) ∧ Own x.st 3 w i (ensC (ys O P M i)) ∧ ka < x.st.cnt ∧ kb < x.st.cnt) ?_ ?_
        · by_cases hc : i < O.length ∧ i < P.length ∧ P.getD i false = true ∧ (O.getD i .none).B.length ≤ 100
          · obtain ⟨h1, h2, h3, h4⟩ := hc
            obtain ⟨o, ho⟩ : ∃ o, O.getD i .none = o := ⟨_, rfl⟩
            have hy : yOf O P i e = ⟨e.K, o.N, o.B⟩ := by unfold yOf; rw [ho] at h4 ⊢; rw [if_pos ⟨h1, h2, h3, h4⟩]
            rw [ho] at h4
            have l1 : ∀ st, loadP st 1 (.fptr (((ensC O).drop (i * 3)).drop 1)) = some [.i .u64 (o.N : Int)] := fun st => by rw [load_en1 h1, ho]
            have l2 : ∀ st, loadP st 1 (.fptr (((ensC O).drop (i * 3)).drop 2)) = some [.fsl o.B.length (ofBytes o.B)] := fun st => by rw [load_en2 h1, ho]
            have l3 : ∀ st, loadP st 1 (.fptr ((P.map PV.b).drop i)) = some [.b true] := fun st => by rw [load_b h2, h3]
            have hlo := len_f o.B.length (ofBytes o.B)
            (try rw [Z0])
            (try simp (maxSteps := 2000000) (disch := first | omega | rfl | assumption) only [↓Xp, ↓Xt, Xq, Xc, binP, ofCells, Nat.reduceAdd, Nat.reduceMul, Nat.reduceLT, Nat.reduceEqDiff, reduceIte, Xa, Xn, unP, len_f, len_n, len_r, Xm, Nat.reduceLeDiff, List.nil_append, List.cons_append, g0, g1, g2, g7, g8, g9, g10, g11, g17, g18, g19, l1, l2, l3, hszO, hszP, hlo, kx, ky])
            (try rw [Z0])
            (try simp (maxSteps := 2000000) (disch := first | omega | rfl | assumption) only [↓Xp, ↓Xt, Xq, Xc, binP, ofCells, Nat.reduceAdd, Nat.reduceMul, Nat.reduceLT, Nat.reduceEqDiff, reduceIte, Xa, Xn, unP, len_f, len_n, len_r, Xm, Nat.reduceLeDiff, List.nil_append, List.cons_append, g0, g1, g2, g7, g8, g9, g10, g11, g17, g18, g19, l1, l2, l3, hszO, hszP, hlo, kx, ky])
            exact ⟨_, hy, rfl, (oo.cnt (by omega)).put (fun h => (ok _ h).2 rfl)⟩
          · have hy : yOf O P i e = e := by unfold yOf; rw [if_neg hc]
            by_cases h1 : i < O.length
            · obtain ⟨o, ho⟩ : ∃ o, O.getD i .none = o := ⟨_, rfl⟩
              have l1 : ∀ st, loadP st 1 (.fptr (((ensC O).drop (i * 3)).drop 1)) = some [.i .u64 (o.N : Int)] := fun st => by rw [load_en1 h1, ho]
              have l2 : ∀ st, loadP st 1 (.fptr (((ensC O).drop (i * 3)).drop 2)) = some [.fsl o.B.length (ofBytes o.B)] := fun st => by rw [load_en2 h1, ho]
              have hlo := len_f o.B.length (ofBytes o.B)
              by_cases h2 : i < P.length
              · by_cases h3 : P.getD i false = true
                · have l3 : ∀ st, loadP st 1 (.fptr ((P.map PV.b).drop i)) = some [.b true] := fun st => by rw [load_b h2, h3]
                  have h4 : ¬ o.B.length ≤ 100 := fun h => hc ⟨h1, h2, h3, by rw [ho]; exact h⟩
                  (try rw [Z0])
                  (try simp (maxSteps := 2000000) (disch := first | omega | rfl | assumption) only [↓Xp, ↓Xt, Xq, Xc, binP, ofCells, Nat.reduceAdd, Nat.reduceMul, Nat.reduceLT, Nat.reduceEqDiff, reduceIte, Xa, Xn, unP, len_f, len_n, len_r, Xm, Nat.reduceLeDiff, List.nil_append, List.cons_append, g0, g1, g2, g7, g8, g9, g10, g11, g17, g18, g19, l1, l2, l3, hszO, hszP, hlo, kx, ky])
                  (try rw [Z0])
                  (try simp (maxSteps := 2000000) (disch := first | omega | rfl | assumption) only [↓Xp, ↓Xt, Xq, Xc, binP, ofCells, Nat.reduceAdd, Nat.reduceMul, Nat.reduceLT, Nat.reduceEqDiff, reduceIte, Xa, Xn, unP, len_f, len_n, len_r, Xm, Nat.reduceLeDiff, List.nil_append, List.cons_append, g0, g1, g2, g7, g8, g9, g10, g11, g17, g18, g19, l1, l2, l3, hszO, hszP, hlo, kx, ky])
                  exact ⟨_, hy, rfl, oo.cnt (by omega)⟩
                · have l3 : ∀ st, loadP st 1 (.fptr ((P.map PV.b).drop i)) = some [.b false] := fun st => by
                    rw [load_b h2]
                    cases h : P.getD i false <;> first | rfl | exact absurd h h3
                  (try rw [Z0])
                  (try simp (maxSteps := 2000000) (disch := first | omega | rfl | assumption) only [↓Xp, ↓Xt, Xq, Xc, binP, ofCells, Nat.reduceAdd, Nat.reduceMul, Nat.reduceLT, Nat.reduceEqDiff, reduceIte, Xa, Xn, unP, len_f, len_n, len_r, Xm, Nat.reduceLeDiff, List.nil_append, List.cons_append, g0, g1, g2, g7, g8, g9, g10, g11, g17, g18, g19, l1, l2, l3, hszO, hszP, hlo, kx, ky])
                  (try rw [Z0])
                  (try simp (maxSteps := 2000000) (disch := first | omega | rfl | assumption) only [↓Xp, ↓Xt, Xq, Xc, binP, ofCells, Nat.reduceAdd, Nat.reduceMul, Nat.reduceLT, Nat.reduceEqDiff, reduceIte, Xa, Xn, unP, len_f, len_n, len_r, Xm, Nat.reduceLeDiff, List.nil_append, List.cons_append, g0, g1, g2, g7, g8, g9, g10, g11, g17, g18, g19, l1, l2, l3, hszO, hszP, hlo, kx, ky])
                  exact ⟨_, hy, rfl, oo.cnt (by omega)⟩
              · skip
                (try rw [Z0])
                (try simp (maxSteps := 2000000) (disch := first | omega | rfl | assumption) only [↓Xp, ↓Xt, Xq, Xc, binP, ofCells, Nat.reduceAdd, Nat.reduceMul, Nat.reduceLT, Nat.reduceEqDiff, reduceIte, Xa, Xn, unP, len_f, len_n, len_r, Xm, Nat.reduceLeDiff, List.nil_append, List.cons_append, g0, g1, g2, g7, g8, g9, g10, g11, g17, g18, g19])
                (try rw [Z0])
                (try simp (maxSteps := 2000000) (disch := first | omega | rfl | assumption) only [↓Xp, ↓Xt, Xq, Xc, binP, ofCells, Nat.reduceAdd, Nat.reduceMul, Nat.reduceLT, Nat.reduceEqDiff, reduceIte, Xa, Xn, unP, len_f, len_n, len_r, Xm, Nat.reduceLeDiff, List.nil_append, List.cons_append, g0, g1, g2, g7, g8, g9, g10, g11, g17, g18, g19])
                exact ⟨_, hy, kx _, ky _, oo.cnt (by omega)⟩
            · skip
              (try rw [Z0])
              (try simp (maxSteps := 2000000) (disch := first | omega | rfl | assumption) only [↓Xp, ↓Xt, Xq, Xc, binP, ofCells, Nat.reduceAdd, Nat.reduceMul, Nat.reduceLT, Nat.reduceEqDiff, reduceIte, Xa, Xn, unP, len_f, len_n, len_r, Xm, Nat.reduceLeDiff, List.nil_append, List.cons_append, g0, g1, g2, g7, g8, g9, g10, g11, g17, g18, g19])
              (try rw [Z0])
              (try simp (maxSteps := 2000000) (disch := first | omega | rfl | assumption) only [↓Xp, ↓Xt, Xq, Xc, binP, ofCells, Nat.reduceAdd, Nat.reduceMul, Nat.reduceLT, Nat.reduceEqDiff, reduceIte, Xa, Xn, unP, len_f, len_n, len_r, Xm, Nat.reduceLeDiff, List.nil_append, List.cons_append, g0, g1, g2, g7, g8, g9, g10, g11, g17, g18, g19])
              exact ⟨_, hy, kx _, ky _, oo.cnt (by omega)⟩
        clear kx ky g0 g1 g2 g7 g8 g9 g10 g11 g17 g18 g19 oo ok hca hcb
        rintro ⟨env, ⟨sto, c'⟩⟩ ⟨y, hy, g0, g1, g2, g7, g8, g10, g11, g17, g18, g19, kx, ky, oo, hca, hcb⟩
        simp only at g0 g1 g2 g7 g8 g10 g11 g17 g18 g19 hca hcb
        replace kx : ∀ n, St.get ⟨sto, n⟩ ka = some (.cells [.i .u8 (e.K.toNat : Int), .i .u64 (e.N : Int), .fsl e.B.length (ofBytes e.B)] false) := fun _ => kx
        replace ky : ∀ n, St.get ⟨sto, n⟩ kb = some (.cells [.i .u8 (y.K.toNat : Int), .i .u64 (y.N : Int), .fsl y.B.length (ofBytes y.B)] false) := fun _ => ky
        have hyK : y.K = e.K := by rw [← hy]; exact yOf_K _ _ _ _
        have lk : ∀ st key, callStep (runPure cfgL9 (evFn cfgL9 60) 33) false st key [.agg [.i .u8 (e.K.toNat : Int), .i .u64 (e.N : Int), .fsl e.B.length (ofBytes e.B)], .agg [.i .u8 (y.K.toNat : Int), .i .u64 (y.N : Int), .fsl y.B.length (ofBytes y.B)]] = some (.b (likeE e y), st) := fun st key => by
          refine call_deepb (deepL_two rfl rfl) ?_ rfl rfl
          rw [hyK]
          exact like_g (show cfgL9.ext 33 = some gLike from hxP3_gLike) hyK.symm (in_fsl _) (in_fsl _)
        have hss := sames_succ O P M i
        have hys := ys_succ O P M i
        rw [he, hy] at hss hys
        have cO : ∀ (S : St) (k : Nat), cellsOf (S.put k (some (.cells [.i .u8 (y.K.toNat : Int), .i .u64 (y.N : Int), .fsl y.B.length (ofBytes y.B)] false))) 3 (.rsl k 3 0 1) = some (1, [.i .u8 (y.K.toNat : Int), .i .u64 (y.N : Int), .fsl y.B.length (ofBytes y.B)]) := fun S k => by
          rw [cells_putL]; rfl
        refine Za (fun x => x.env.get 0 = .fsl M.length (ensC M) ∧ x.env.get 1 = .fsl O.length (ensC O) ∧ x.env.get 2 = .fsl P.length (P.map .b) ∧ x.env.get 7 = w ∧ x.env.get 8 = .b (sames O P M (i + 1)) ∧ x.env.get 11 = .ptr kb 0 ∧ x.env.get 17 = .fsl M.length (ensC M) ∧ x.env.get 18 = .i .i64 (M.length : Int) ∧ x.env.get 19 = .i .i64 (i : Int) ∧ x.st = ⟨sto, x.st.cnt⟩ ∧ c' ≤ x.st.cnt) ?_ ?_
        · by_cases hs : sames O P M i = true
          · rw [hs] at g8 hss
            rw [Bool.true_and] at hss
            rw [hss]
            (try rw [Z0])
            (try simp (maxSteps := 2000000) (disch := first | omega | rfl | assumption) only [↓Xp, ↓Xt, Xq, Xc, binP, ofCells, Nat.reduceAdd, Nat.reduceMul, Nat.reduceLT, Nat.reduceEqDiff, reduceIte, Xa, Xn, unP, len_f, len_n, len_r, Xm, Nat.reduceLeDiff, List.nil_append, List.cons_append, g0, g1, g2, g7, g8, g10, g11, g17, g18, g19, kx, ky, lk])
            (try rw [Z0])
            (try simp (maxSteps := 2000000) (disch := first | omega | rfl | assumption) only [↓Xp, ↓Xt, Xq, Xc, binP, ofCells, Nat.reduceAdd, Nat.reduceMul, Nat.reduceLT, Nat.reduceEqDiff, reduceIte, Xa, Xn, unP, len_f, len_n, len_r, Xm, Nat.reduceLeDiff, List.nil_append, List.cons_append, g0, g1, g2, g7, g8, g10, g11, g17, g18, g19, kx, ky, lk])
          · have hs : sames O P M i = false := by simpa using hs
            rw [hs] at g8 hss
            rw [Bool.false_and] at hss
            rw [hss]
            (try rw [Z0])
            (try simp (maxSteps := 2000000) (disch := first | omega | rfl | assumption) only [↓Xp, ↓Xt, Xq, Xc, binP, ofCells, Nat.reduceAdd, Nat.reduceMul, Nat.reduceLT, Nat.reduceEqDiff, reduceIte, Xa, Xn, unP, len_f, len_n, len_r, Xm, Nat.reduceLeDiff, List.nil_append, List.cons_append, g0, g1, g2, g7, g8, g10, g11, g17, g18, g19])
            (try rw [Z0])
            (try simp (maxSteps := 2000000) (disch := first | omega | rfl | assumption) only [↓Xp, ↓Xt, Xq, Xc, binP, ofCells, Nat.reduceAdd, Nat.reduceMul, Nat.reduceLT, Nat.reduceEqDiff, reduceIte, Xa, Xn, unP, len_f, len_n, len_r, Xm, Nat.reduceLeDiff, List.nil_append, List.cons_append, g0, g1, g2, g7, g8, g10, g11, g17, g18, g19])
        clear g0 g1 g2 g7 g8 g10 g11 g17 g18 g19
        rintro ⟨env, ⟨sto2, c2⟩⟩ ⟨g0, g1, g2, g7, g8, g11, g17, g18, g19, hst, hc2⟩
        simp only at g0 g1 g2 g7 g8 g11 g17 g18 g19 hst hc2
        obtain rfl : sto2 = sto := by cases hst; rfl
        clear hst
        (try rw [Z0])
        (try simp (maxSteps := 2000000) (disch := first | omega | rfl | assumption) only [↓Xp, ↓Xt, Xq, Xc, binP, ofCells, Nat.reduceAdd, Nat.reduceMul, Nat.reduceLT, Nat.reduceEqDiff, reduceIte, Xa, Xn, unP, len_f, len_n, len_r, Xm, Nat.reduceLeDiff, List.nil_append, List.cons_append, g0, g1, g2, g7, g8, g11, g17, g18, g19, kx, ky])
        (try rw [Z0])
        (try simp (maxSteps := 2000000) (disch := first | omega | rfl | assumption) only [↓Xp, ↓Xt, Xq, Xc, binP, ofCells, Nat.reduceAdd, Nat.reduceMul, Nat.reduceLT, Nat.reduceEqDiff, reduceIte, Xa, Xn, unP, len_f, len_n, len_r, Xm, Nat.reduceLeDiff, List.nil_append, List.cons_append, g0, g1, g2, g7, g8, g11, g17, g18, g19, kx, ky])
        rw [cO]
        simp only [List.all_cons, Z0W_, Z10_, List.all_nil, Bool.and_self, if_true]
        have okc : ∀ j, j ∈ keyOf w → j < c' := fun j hj => oo.lt j hj
        refine WV_appO ((oo.cnt (c' := c2 + 40) (by omega)).put (fun h => by have := okc _ h; omega)) (by show c2 + 24 < c2 + 40; omega) (fun h => by have := okc _ h; omega) rfl (by decide) (by unfold maxBytes; omega) ?_
        intro v' st' o' q1 q2 q3
        refine ⟨M.length - (i + 1), by omega, i + 1, v', rfl, by omega, rfl, rfl, rfl, ?_, fun j hj => ?_⟩
        · rw [hys, ensC_app]
          exact o'.cnt (by omega)
        · by_cases hji : j = i
          · rw [hji, he]; omega
          · exact hB j (by omega)
    · simp (disch := first | omega | rfl | assumption) only [↓Z0, ↓Xp, ↓Xt, Xq, Xc, binP, ofCells, Nat.reduceAdd, Nat.reduceMul, Nat.reduceLT, Nat.reduceEqDiff, reduceIte, Xm, Nat.reduceLeDiff, Xa, Xn, unP, len_f, len_n, len_r, g0, g1, g2, g7, g8, g17, g18, g19]
      obtain rfl : i = M.length := by omega
      refine hK _ ?_
      clear hK K
      obtain ⟨Y, hY⟩ : ∃ Y, ys O P M M.length = Y := ⟨_, rfl⟩
      have lY : Y.length = M.length := by rw [← hY]; unfold ys; rw [List.length_map, List.length_range]
      have hMr : M = (List.range M.length).map fun j => M.getD j .none := by
        apply List.ext_getElem
        · simp
        · intro j h1 h2
          rw [List.getElem_map, List.getElem_range, getD_lt h1]
      have eM : ∀ e ∈ M, EnIn e := by
        intro e he
        obtain ⟨j, hj, rfl⟩ := List.getElem_of_mem he
        have h1 := hB j hj
        rw [getD_lt hj] at h1
        exact ⟨hMN _ he, by omega⟩
      have eY : ∀ e ∈ Y, EnIn e := by
        intro e he
        rw [← hY] at he
        unfold ys at he
        obtain ⟨j, hj, rfl⟩ := List.mem_map.1 he
        have hj := List.mem_range.1 hj
        have h1 := eM _ (by rw [getD_lt hj]; exact List.getElem_mem hj : M.getD j .none ∈ M)
        unfold yOf
        split
        · rename_i hc
          have h2 := hO (O.getD j .none) (by rw [getD_lt hc.1]; exact List.getElem_mem _)
          exact ⟨h2, by show (O.getD j .none).B.length ≤ _; omega⟩
        · exact h1
      have hK : M.map En.K = Y.map En.K := by
        rw [← hY]
        unfold ys
        conv => lhs; rw [hMr]
        rw [List.map_map, List.map_map]
        apply List.map_congr_left
        intro j _
        exact (yOf_K _ _ _ _).symm
      have hpg := page_inj hK eM eY
      have hsm : ((M.zip Y).all fun p => likeE p.1 p.2) = sames O P M M.length := by
        rw [← hY]
        unfold ys sames
        rw [zip_range, List.all_map]
        rfl
      rw [hsm] at hpg
      rw [hY] at oo
      rw [← hpg] at g8
      have gT : ∀ {v : PV} {l : List En}, inEn v = some l → l.length ≤ 25 → runPure cfgL9 (evFn cfgL9 60) 34 [v] = some (.b true) := fun {v l} hv hl => by
        rw [runPure_ext (show cfgL9.ext 34 = some gTurns from hxP3_gTurns)]
        unfold gTurns
        simp only [hv]
        rw [if_pos hl]
      have gP : ∀ {v : PV} {l : List En}, inEn v = some l → l.length ≤ 25 → runPure cfgL9 (evFn cfgL9 60) 35 [v] = some (pageV l) := fun {v l} hv hl => by
        rw [runPure_ext (show cfgL9.ext 35 = some gPage from hxP3_gPage)]
        unfold gPage
        simp only [hv]
        rw [if_pos hl]
      have hdM : ∀ st, Go.Pe.deep st 12 (.fsl M.length (ensC M)) = some (.fsl M.length (ensC M)) := fun st => deep_some 11 rfl
      have iM := inEn_fsl eM
      have dY := fun N (hN : c ≤ N) => (oo.cnt (c' := N) hN).deepEn lY.symm eY
      have tM := gT iM hM25
      have tY := gT (oo.deepEn lY.symm eY).2 (by omega)
      have pM := gP iM hM25
      have pY := gP (oo.deepEn lY.symm eY).2 (by omega)
      have hdM' : ∀ st, deepL st [.fsl M.length (ensC M)] = some [.fsl M.length (ensC M)] := fun st => deepL_one (hdM st)
      have dYp : ∀ N (o : Option PObj) (k : Nat), c ≤ N → c ≤ k → deepL ((⟨sto, N⟩ : St).put k o) [w] = some [valO w Y.length (ensC Y)] := fun N o k hN hk => deepL_one (((oo.cnt (c' := N) hN).put (fun h => by have : k < c := oo.lt _ h; omega)).deepEn lY.symm eY).1
      have dY' : ∀ N, c ≤ N → deepL ⟨sto, N⟩ [w] = some [valO w Y.length (ensC Y)] := fun N hN => deepL_one (dY N hN).1
      obtain ⟨vY, hvY⟩ : ∃ v, valO w Y.length (ensC Y) = v := ⟨_, rfl⟩
      rw [hvY] at tY pY dY' dYp
      have cb : PV.closedB (.b true) = true := rfl
      have cn : PV.closedB .nsl = true := rfl
      have rb : ∀ (st : St) (key : Nat), recvRes st key (.b true) = some (.b true, st) := fun _ _ => rfl
      have rn : ∀ (st : St) (key : Nat), recvRes st key .nsl = some (.nsl, st) := fun _ _ => rfl
      have ro : ∀ (st : St) (key n : Nat) (cs : List PV), recvRes st key (.osl 1 n cs) = some (.rsl key 1 0 n, st.put key (some (.cells cs false))) := fun _ _ _ _ => rfl
      have b0 : ∀ st : St, cellsOf st 1 .nsl = some (0, []) := fun _ => rfl
      have b00 : bytesOf? [] = some [] := rfl
      have d0 : ∀ st : St, deepL st [] = some [] := fun _ => rfl
      have aw0 : runPure cfgL9 (evFn cfgL9 60) 10 [] = some (.b true) := by rw [runPure_ext (show cfgL9.ext 10 = some gAwakeB from hxP3_gAwakeB)]; rfl
      by_cases hM0 : M = []
      · have hY0 : Y = [] := List.length_eq_zero_iff.1 (by rw [lY, hM0]; rfl)
        have e1 : pageV M = .nsl := by rw [hM0]; rfl
        have e2 : pageV Y = .nsl := by rw [hY0]; rfl
        have e3 : pageL M = [] := by rw [hM0]; rfl
        have e4 : pageL Y = [] := by rw [hY0]; rfl
        rw [e1] at pM
        rw [e2] at pY
        rw [e3, e4] at g8
        have e5 : (([] : List UInt8) == []) = true := rfl
        rw [e5] at g8
        rw [Z0]
        simp (maxSteps := 2000000) (disch := first | omega | rfl | assumption) only [↓Xp, ↓Xt, Xq, Xc, binP, ofCells, Nat.reduceAdd, Nat.reduceMul, Nat.reduceLT, Nat.reduceEqDiff, reduceIte, Xa, Xn, unP, len_f, len_n, len_r, Xm, Nat.reduceLeDiff, g0, g7, g8, hdM', dY', tM, tY, pM, pY, cb, cn, rb, rn, b0, b00, d0, aw0, Option.map_some, e5, eqb_same]
        refine ⟨nofun, _, rfl, ?_⟩
        simp only [tupV, ↓Z0, ↓Xp, ↓Xt, Xq, Xc, binP, ofCells, Nat.reduceAdd, Nat.reduceMul, Nat.reduceLT, Nat.reduceEqDiff, reduceIte]
      · have hY0 : Y ≠ [] := fun h => hM0 (List.length_eq_zero_iff.1 (by rw [← lY, h]; rfl))
        have e1 : pageV M = .osl 1 (pageL M).length (ofBytes (pageL M)) := by unfold pageV; rw [if_neg hM0]
        have e2 : pageV Y = .osl 1 (pageL Y).length (ofBytes (pageL Y)) := by unfold pageV; rw [if_neg hY0]
        rw [e1] at pM
        rw [e2] at pY
        have b1 := bytesOf_of (pageL M)
        have b2 := bytesOf_of (pageL Y)
        have cl : ∀ (S : St) (k : Nat) (p : List UInt8), cellsOf (S.put k (some (.cells (ofBytes p) false))) 1 (.rsl k 1 0 p.length) = some (p.length, ofBytes p) := fun S k p => by
          rw [cells_putL, Nat.mul_one, if_pos (by rw [len_ofBytes]; omega), ← len_ofBytes p, List.take_length]
        rw [Z0]
        simp (maxSteps := 2000000) (disch := first | omega | rfl | assumption) only [↓Xp, ↓Xt, Xq, Xc, binP, ofCells, Nat.reduceAdd, Nat.reduceMul, Nat.reduceLT, Nat.reduceEqDiff, reduceIte, Xa, Xn, unP, len_f, len_n, len_r, Xm, Nat.reduceLeDiff, g0, g7, g8, hdM', dY', dYp, tM, tY, pM, pY, cb, closed_osl, rb, ro, cl, b1, b2, d0, aw0, Option.map_some, eqb_same]
        refine ⟨nofun, _, rfl, ?_⟩
        simp only [tupV, ↓Z0, ↓Xp, ↓Xt, Xq, Xc, binP, ofCells, Nat.reduceAdd, Nat.reduceMul, Nat.reduceLT, Nat.reduceEqDiff, reduceIte]
  · refine ⟨0, .nsl, rfl, by omega, rfl, rfl, rfl, rfl, rfl, rfl, rfl, rfl, Own.nil _ _, fun j hj => by omega⟩
def enSh : Sh := .st (.cons (.i .u8) (.cons (.i .u64) (.cons (.sl (.i .u8)) .nil)))
theorem u64_wf {x : Int} (h : (Lit.int .u64 x).wf = true) : 0 ≤ x ∧ x < 18446744073709551616 := by
  simp [Lit.wf, IntKind.min, IntKind.max, IntKind.signed, IntKind.bits] at h
  omega
theorem u8_wf9 {x : Int} (h : (Lit.int .u8 x).wf = true) : 0 ≤ x ∧ x < 256 := by
  simp [Lit.wf, IntKind.min, IntKind.max, IntKind.signed, IntKind.bits] at h
  omega
theorem is_bytes9 : ∀ {n : Nat} {ps : List PV}, ps.length = n * 1 → (∀ j, j < n → (Sh.i .u8).Is ((ps.drop (j * 1)).take 1)) → ∃ l : List UInt8, ps = ofBytes l ∧ l.length = n
  | 0, ps, hl, _ => ⟨[], by have : ps = [] := List.length_eq_zero_iff.1 (by omega); rw [this]; rfl, rfl⟩
  | n + 1, ps, hl, h => by
    obtain ⟨x, h1, h2⟩ := h 0 (by omega)
    obtain ⟨l, q1, q2⟩ := is_bytes9 (n := n) (ps := ps.drop 1) (by rw [List.length_drop]; omega) (fun j hj => by
      have := h (j + 1) (by omega)
      rw [List.drop_drop, show 1 + j * 1 = (j + 1) * 1 by omega]
      exact this)
    have hu := u8_wf9 h2
    refine ⟨UInt8.ofNat x.toNat :: l, ?_, by simp [q2]⟩
    have h3 : (((UInt8.ofNat x.toNat).toNat : Nat) : Int) = x := by
      rw [UInt8.toNat_ofNat']; omega
    show ps = .i .u8 ((UInt8.ofNat x.toNat).toNat : Int) :: ofBytes l
    rw [h3, ← q1]
    have : ps = ps.take 1 ++ ps.drop 1 := (List.take_append_drop 1 ps).symm
    rw [Nat.zero_mul, List.drop_zero] at h1
    rw [this, h1]
    rfl
theorem is_bools : ∀ {n : Nat} {ps : List PV}, ps.length = n * 1 → (∀ j, j < n → Sh.b.Is ((ps.drop (j * 1)).take 1)) → ∃ l : List Bool, ps = l.map .b ∧ l.length = n
  | 0, ps, hl, _ => ⟨[], by have : ps = [] := List.length_eq_zero_iff.1 (by omega); rw [this]; rfl, rfl⟩
  | n + 1, ps, hl, h => by
    obtain ⟨x, h1⟩ := h 0 (by omega)
    obtain ⟨l, q1, q2⟩ := is_bools (n := n) (ps := ps.drop 1) (by rw [List.length_drop]; omega) (fun j hj => by
      have := h (j + 1) (by omega)
      rw [List.drop_drop, show 1 + j * 1 = (j + 1) * 1 by omega]
      exact this)
    refine ⟨x :: l, ?_, by simp [q2]⟩
    show ps = .b x :: l.map .b
    rw [← q1]
    have : ps = ps.take 1 ++ ps.drop 1 := (List.take_append_drop 1 ps).symm
    rw [Nat.zero_mul, List.drop_zero] at h1
    rw [this, h1]
    rfl
theorem is_en {cs : List PV} (h : enSh.Is cs) : ∃ e : En, cs = enC e ∧ e.N < 18446744073709551616 := by
  obtain ⟨⟨t, h1, w1⟩, ⟨o, h2, w2⟩, ⟨n, ps, h3, h4, _, h5⟩, h6⟩ := h
  simp only [Sh.width] at h1 h2 h3 h4 h5 h6
  have q1 := congrArg (fun l => l[0]?) h1
  have q2 := congrArg (fun l => l[0]?) h2
  have q3 := congrArg (fun l => l[0]?) h3
  have q6 := congrArg List.length h6
  simp only [List.getElem?_take, List.getElem?_drop, List.getElem?_cons_zero, List.length_drop, List.length_nil] at q1 q2 q3 q6
  match cs, q1, q2, q3, q6 with
  | [x0, x1, x2], q1, q2, q3, _ =>
    simp at q1 q2 q3
    subst q1 q2 q3
    have hu := u8_wf9 w1
    have hw := u64_wf w2
    obtain ⟨l, rfl, rfl⟩ := is_bytes9 h4 h5
    refine ⟨⟨UInt8.ofNat t.toNat, o.toNat, l⟩, ?_, by show o.toNat < _; omega⟩
    have h2 : (((UInt8.ofNat t.toNat).toNat : Nat) : Int) = t := by
      rw [UInt8.toNat_ofNat']; omega
    unfold enC
    simp only [h2, show ((o.toNat : Nat) : Int) = o by omega]
  | [], q1, _, _, _ => simp at q1
  | [_], _, q2, _, _ => simp at q2
  | [_, _], _, _, q3, _ => simp at q3
  | _ :: _ :: _ :: _ :: _, _, _, _, q6 => simp at q6
theorem is_ens : ∀ {n : Nat} {ps : List PV}, ps.length = n * 3 → (∀ j, j < n → enSh.Is ((ps.drop (j * 3)).take 3)) → ∃ l : List En, ps = ensC l ∧ l.length = n ∧ ∀ e ∈ l, e.N < 18446744073709551616
  | 0, ps, hl, _ => ⟨[], by have : ps = [] := List.length_eq_zero_iff.1 (by omega); rw [this]; rfl, rfl, by simp⟩
  | n + 1, ps, hl, h => by
    obtain ⟨e, h1, h2⟩ := is_en (h 0 (by omega))
    obtain ⟨l, q1, q2, q3⟩ := is_ens (n := n) (ps := ps.drop 3) (by rw [List.length_drop]; omega) (fun j hj => by
      have := h (j + 1) (by omega)
      rw [List.drop_drop, show 3 + j * 3 = (j + 1) * 3 by omega]
      exact this)
    refine ⟨e :: l, ?_, by simp [q2], ?_⟩
    · show ps = enC e ++ ensC l
      rw [← h1, ← q1, Nat.zero_mul, List.drop_zero, List.take_append_drop]
    · intro x hx
      rcases List.mem_cons.1 hx with rfl | hx
      · exact h2
      · exact q3 x hx
theorem pages_law (n1 : Nat) (p1 : List PV) (l1 : p1.length = n1 * enSh.width) (_ : n1 ≤ reachBytes) (h1 : ∀ j, j < n1 → enSh.Is ((p1.drop (j * enSh.width)).take enSh.width)) (n2 : Nat) (p2 : List PV) (l2 : p2.length = n2 * enSh.width) (_ : n2 ≤ reachBytes) (h2 : ∀ j, j < n2 → enSh.Is ((p2.drop (j * enSh.width)).take enSh.width)) (n3 : Nat) (p3 : List PV) (l3 : p3.length = n3 * Sh.b.width) (_ : n3 ≤ reachBytes) (h3 : ∀ j, j < n3 → Sh.b.Is ((p3.drop (j * Sh.b.width)).take Sh.b.width)) :
    ∃ fuel, evP cfgL9 fuel 9 [.fsl n1 p1, .fsl n2 p2, .fsl n3 p3] = some (.b true) := by
  obtain ⟨L, rfl, rfl, hL⟩ := is_ens l1 h1
  obtain ⟨O, rfl, rfl, hO⟩ := is_ens l2 h2
  obtain ⟨P, rfl, rfl⟩ := is_bools l3 h3
  exact pages_ev hL hO
end Go.Pe
