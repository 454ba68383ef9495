/-
  Pages: page, like and turns by the interpreter of plain data. No condition.
-/
import Derived.Test.YtmjoneiagfegdaaBytG
set_option linter.unusedVariables false
set_option linter.unusedSimpArgs false
namespace Go.Pe
open Go Go.Am Go.RowKit

theorem getD_lt {α : Type} {l : List α} {i : Nat} {d : α} (h : i < l.length) : l.getD i d = l[i] := by
  simp [List.getD, h]
theorem h30 : (((3 : Nat) : Int) = 0) = False := by simp
theorem likeE_ev {cfg : Cfg} (hf : cfg.fn 33 = some m33) {fuel : Nat} {st : St} {x y : En} {vx vy : PV} (hk : x.K = y.K) (hx : inL vx = some x.B) (hy : inL vy = some y.B) :
    ∃ r st', evFn cfg (fuel + 1) 33 [.agg [.i .u8 (x.K.toNat : Int), .i .u64 (x.N : Int), vx], .agg [.i .u8 (y.K.toNat : Int), .i .u64 (y.N : Int), vy]] st = some (r, st') ∧ r = .b (likeE x y) := by
  refine evFn_W hf ?_
  unfold m33
  have o1 : vx.one = true := by cases vx <;> first | rfl | simp [inL] at hx
  have o2 : vy.one = true := by cases vy <;> first | rfl | simp [inL] at hy
  have q1 : vx.cells = [vx] := by cases vx <;> first | rfl | simp [inL] at hx
  have q2 : vy.cells = [vy] := by cases vy <;> first | rfl | simp [inL] at hy
  have c1 := fun st => cells_in (st := st) hx
  have c2 := fun st => cells_in (st := st) hy
  have b1 := bytesOf_of x.B
  have b2 := bytesOf_of y.B
  unfold likeE
  by_cases h : x.K.toNat % 3 = 2
  · rw [if_pos h]
    simp (disch := first | omega | rfl | assumption) only [putArgs, ↓Z0, ↓Xp, ↓Xt, Xq, Xc, binP, ofCells, Nat.reduceAdd, Nat.reduceMul, Nat.reduceLT, Nat.reduceEqDiff, reduceIte, Xm, Nat.reduceLeDiff, Xa, Xn, unP, len_f, len_n, len_r, o1, o2, q1, q2, h30, c1, c2, b1, b2, Option.map_some]
    refine ⟨nofun, _, rfl, ?_⟩
    simp only [tupV, ↓Z0, ↓Xp, ↓Xt, Xq, Xc, binP, ofCells, Nat.reduceAdd, Nat.reduceMul, Nat.reduceLT, Nat.reduceEqDiff, reduceIte]
  · rw [if_neg h]
    simp (disch := first | omega | rfl | assumption) only [putArgs, ↓Z0, ↓Xp, ↓Xt, Xq, Xc, binP, ofCells, Nat.reduceAdd, Nat.reduceMul, Nat.reduceLT, Nat.reduceEqDiff, reduceIte, Xm, Nat.reduceLeDiff, Xa, Xn, unP, len_f, len_n, len_r, o1, o2, q1, q2, h30, c1, c2, b1, b2, Option.map_some]
    refine ⟨nofun, _, rfl, ?_⟩
    simp only [tupV, ↓Z0, ↓Xp, ↓Xt, Xq, Xc, binP, ofCells, Nat.reduceAdd, Nat.reduceMul, Nat.reduceLT, Nat.reduceEqDiff, reduceIte]
    congr 1
    rw [Bool.eq_iff_iff]
    simp only [beq_iff_eq]
    omega
theorem page_ev {cfg : Cfg} (hf : cfg.fn 35 = some m35) (hx1 : cfg.ext 11 = some gUint) (hx2 : cfg.ext 14 = some gInt) (hx3 : cfg.ext 31 = some gBlob) {v : PV} {l : List En} (hv : inEn v = some l) (hl : l.length ≤ 25) {fuel : Nat} (hfu : 30 ≤ fuel) :
    ∃ r st', evFn cfg (fuel + 1) 35 [v] { sto := .leaf, cnt := 1 } = some (r, st') ∧ OutOK st' r (pageL l) ∧ (l = [] → r = .nsl) := by
  refine evFn_W hf ?_
  unfold m35
  obtain ⟨hvc, hE⟩ := inEn_cases hv
  have hlen : lenP v = some (.i .i64 (l.length : Nat)) := by
    rcases hvc with ⟨rfl, rfl⟩ | rfl <;> rfl
  simp (disch := first | omega | rfl | assumption) only [putArgs, ↓Z0, ↓Xp, ↓Xt, Xq, Xc, binP, ofCells, Nat.reduceAdd, Nat.reduceMul, Nat.reduceLT, Nat.reduceEqDiff, reduceIte, Xm, Nat.reduceLeDiff, Xa, Xn, unP, len_f, len_n, len_r, hlen]
  refine Z9 (k := l.length - 0) (fun d x => ∃ (i : Nat) (w : PV), d = l.length - i ∧ i ≤ l.length ∧ x.env.get 3 = w ∧ x.env.get 6 = v ∧ x.env.get 7 = .i .i64 (l.length : Int) ∧ x.env.get 8 = .i .i64 (i : Int) ∧ OutOK x.st w (pageL (l.take i)) ∧ (i = 0 → w = .nsl)) ?_ ?_ (by omega)
  · rintro d ⟨env, ⟨sto, c⟩⟩ ⟨i, w, rfl, hi, g3, g6, g7, g8, o3, wn⟩
    simp only at g3 g6 g7 g8
    by_cases hlt : i < l.length
    · rcases hvc with ⟨rfl, rfl⟩ | rfl
      · simp at hlt
      obtain ⟨e, he⟩ : ∃ e, l.getD i .none = e := ⟨_, rfl⟩
      have hld : ∀ st, loadP st 3 (.fptr ((ensC l).drop (i * 3))) = some [.i .u8 (e.K.toNat : Int), .i .u64 (e.N : Int), .fsl e.B.length (ofBytes e.B)] := fun st => by rw [load_en hlt, he]; rfl
      have hel : e ∈ l := by
        rw [← he, getD_lt hlt]; exact List.getElem_mem _
      have hee := hE e hel
      have htk : pageL (l.take (i + 1)) = pageL (l.take i) ++ item e := by
        rw [List.take_succ_eq_append_getElem hlt]
        unfold pageL
        rw [List.flatMap_append, ← he, getD_lt hlt]
        simp
      have hpl := pageL_len (l := l.take i) fun e he => hE e (List.mem_of_mem_take he)
      rw [List.length_take] at hpl
      have hsz := ensC_len l
      have hu := e.K.toNat_lt
      have ow : ∀ c', c + 40 ≤ c' → OutOK ⟨(((⟨sto, c + 40⟩ : St).put (c + 24) (some (PObj.cells [PV.i IntKind.u8 ((0 : Nat) : Int), PV.i IntKind.u64 ((0 : Nat) : Int), PV.nsl] false))).put (c + 24) (some (PObj.cells [PV.i IntKind.u8 (e.K.toNat : Int), PV.i IntKind.u64 (e.N : Int), PV.fsl e.B.length (ofBytes e.B)] false))).sto, c'⟩ w (pageL (l.take i)) := fun c' hc' =>
        o3.mono (fun k hk => by
          have hk : k < c := hk
          rw [Z0J_, St.get_put_ne (by omega), St.get_put_ne (by omega)]; rfl) (by show c ≤ c'; omega)
      have hit := item_len e
      have heB := hee.2
      have hwl : (pageL (l.take i) ++ item e).length ≤ maxBytes := by rw [List.length_append]; unfold maxBytes; omega
      have hNN := hee.1
      by_cases k0 : e.K.toNat % 3 = 0
      · have hi0 : item e = varint e.N := by unfold item; rw [if_pos k0]
        simp (disch := first | omega | rfl | assumption) only [↓Z0, ↓Xp, ↓Xt, Xq, Xc, binP, ofCells, Nat.reduceAdd, Nat.reduceMul, Nat.reduceLT, Nat.reduceEqDiff, reduceIte, Xm, Nat.reduceLeDiff, Xa, Xn, unP, len_f, len_n, len_r, g3, g6, g7, g8, hld, hsz, h30]
        refine WV_callOut (l' := pageL (l.take i) ++ item e) (ow _ (by omega)) rfl (fun v' hv' => ?_) (by first | omega | (simp only [Z0L_, Z0M_, Nat.add_assoc, Nat.reduceAdd]; omega) | (simp only; omega)) ?_
        · rw [runPure_ext hx1]
          unfold gUint
          simp only [hv', Int.toNat_natCast]
          rw [if_pos ⟨by omega, by omega, by unfold maxBytes; omega⟩, hi0]
        intro st' o' c' f'
        exact ⟨l.length - (i + 1), by omega, i + 1, _, rfl, by omega, rfl, rfl, by rw [htk]; exact o'.mono (fun _ _ => rfl) (by show st'.cnt ≤ st'.cnt + 16; omega), fun h => by omega⟩
      by_cases k1 : e.K.toNat % 3 = 1
      · have hi0 : item e = varint (foldN (IntKind.i64.wrap (e.N : Int))) := by unfold item; rw [if_neg k0, if_pos k1]
        have hwi := wrapN_in e.N
        unfold in64 at hwi
        obtain ⟨q, hq⟩ : ∃ q, IntKind.i64.wrap (e.N : Int) = q := ⟨_, rfl⟩
        rw [hq] at hi0 hwi
        simp (disch := first | omega | rfl | assumption) only [↓Z0, ↓Xp, ↓Xt, Xq, Xc, binP, ofCells, Nat.reduceAdd, Nat.reduceMul, Nat.reduceLT, Nat.reduceEqDiff, reduceIte, Xm, Nat.reduceLeDiff, Xa, Xn, unP, len_f, len_n, len_r, g3, g6, g7, g8, hld, hsz, h30, hq]
        refine WV_callOut (l' := pageL (l.take i) ++ item e) (ow _ (by omega)) rfl (fun v' hv' => ?_) (by first | omega | (simp only [Z0L_, Z0M_, Nat.add_assoc, Nat.reduceAdd]; omega) | (simp only; omega)) ?_
        · rw [runPure_ext hx2]
          unfold gInt
          simp only [hv']
          rw [if_pos ⟨by omega, by omega, by unfold maxBytes; omega⟩, hi0]
        intro st' o' c' f'
        exact ⟨l.length - (i + 1), by omega, i + 1, _, rfl, by omega, rfl, rfl, by rw [htk]; exact o'.mono (fun _ _ => rfl) (by show st'.cnt ≤ st'.cnt + 16; omega), fun h => by omega⟩
      · have hi0 : item e = varint e.B.length ++ e.B := by unfold item; rw [if_neg k0, if_neg k1]
        simp (disch := first | omega | rfl | assumption) only [↓Z0, ↓Xp, ↓Xt, Xq, Xc, binP, ofCells, Nat.reduceAdd, Nat.reduceMul, Nat.reduceLT, Nat.reduceEqDiff, reduceIte, Xm, Nat.reduceLeDiff, Xa, Xn, unP, len_f, len_n, len_r, g3, g6, g7, g8, hld, hsz, h30]
        refine WV_callOut (l' := pageL (l.take i) ++ item e) (ow _ (by omega)) rfl (fun v' hv' => ?_) (by first | omega | (simp only [Z0L_, Z0M_, Nat.add_assoc, Nat.reduceAdd]; omega) | (simp only; omega)) ?_
        · rw [runPure_ext hx3]
          unfold gBlob
          simp only [hv', in_fsl]
          rw [if_pos (by omega), hi0, List.append_assoc]
        intro st' o' c' f'
        exact ⟨l.length - (i + 1), by omega, i + 1, _, rfl, by omega, rfl, rfl, by rw [htk]; exact o'.mono (fun _ _ => rfl) (by show st'.cnt ≤ st'.cnt + 16; omega), fun h => by omega⟩
    · simp (disch := first | omega | rfl | assumption) only [↓Z0, ↓Xp, ↓Xt, Xq, Xc, binP, ofCells, Nat.reduceAdd, Nat.reduceMul, Nat.reduceLT, Nat.reduceEqDiff, reduceIte, Xm, Nat.reduceLeDiff, Xa, Xn, unP, len_f, len_n, len_r, g3, g6, g7, g8]
      have : l.take i = l := List.take_of_length_le (by omega)
      rw [this] at o3
      refine ⟨nofun, _, rfl, ?_⟩
      simp only [tupV, ↓Z0, ↓Xp, ↓Xt, Xq, Xc, binP, ofCells, Nat.reduceAdd, Nat.reduceMul, Nat.reduceLT, Nat.reduceEqDiff, reduceIte]
      refine ⟨o3.mono (fun _ _ => rfl) (by show c ≤ c + 24; omega), fun h => wn ?_⟩
      subst h; simp at hi; exact hi
  · exact ⟨0, .nsl, rfl, by omega, rfl, rfl, rfl, rfl, .inl ⟨rfl, rfl⟩, fun _ => rfl⟩
def pageV (l : List En) : PV := if l = [] then .nsl else .osl 1 (pageL l).length (ofBytes (pageL l))
theorem pageL_nil {l : List En} : pageL l = [] ↔ l = [] := by
  cases l with
  | nil => simp [pageL]
  | cons e r =>
    have h := (item_len e).1
    constructor
    · intro h2
      have : item e ++ pageL r = [] := h2
      rw [(List.append_eq_nil_iff.1 this).1] at h
      simp at h
    · intro h2; cases h2
theorem pageV_out (l : List En) : OutV (pageV l) 1 (pageL l).length (ofBytes (pageL l)) := by
  unfold pageV
  split
  · rename_i h; subst h; exact OutV.nil 1
  · exact OutV.osl _ _ _
def gPage : List PV → Option PV
  | [v] => match inEn v with
    | some l => if l.length ≤ 25 then some (pageV l) else none
    | none => none
  | _ => none
def extP1 : FuncId → Option (List PV → Option PV) := fun f => if f = 11 then some gUint else if f = 14 then some gInt else if f = 31 then some gBlob else none
noncomputable def cfgP1 : Cfg := { fn := fun f => lookT f tblL, ext := extP1 }
theorem extP1_ok {Gl : Gmap} : ∀ f g, extP1 f = some g → PureOK Go.Proofs.Try.prog Gl f g := by
  intro f g h
  unfold extP1 at h
  by_cases e : f = 11
  · subst e; rw [if_pos rfl] at h; cases h
    exact pure_of cfgE0_ok' uint_any
  rw [if_neg e] at h; clear e
  by_cases e : f = 14
  · subst e; rw [if_pos rfl] at h; cases h
    exact pure_of cfgE1_ok' int_any
  rw [if_neg e] at h; clear e
  by_cases e : f = 31
  · subst e; rw [if_pos rfl] at h; cases h
    exact pure_of cfgB2_ok blob_any
  rw [if_neg e] at h; clear e
  cases h
theorem cfgP1_ok {Gl : Gmap} : CfgOK Go.Proofs.Try.prog Gl cfgP1 := cfg_okt tbl_all extP1_ok
theorem hxP1_gUint : extP1 11 = some gUint := by kernel_rfl
theorem hxP1_gInt : extP1 14 = some gInt := by kernel_rfl
theorem hxP1_gBlob : extP1 31 = some gBlob := by kernel_rfl

theorem page_any (args : List PV) (r : PV) (h : gPage args = some r) : ∃ fuel, evP cfgP1 fuel 35 args = some r := by
  unfold gPage at h
  split at h
  · split at h
    · rename_i w _ l hl
      split at h
      · rename_i hc
        cases h
        obtain ⟨q1, q2⟩ := inEn_cases hl
        have ho : openArgs [w] = ([w], { sto := .leaf, cnt := 1 }) := by
          rcases q1 with ⟨rfl, _⟩ | rfl <;> rfl
        refine ⟨30 + 1, evP_of (by kernel_rfl) ho ?_⟩
        obtain ⟨r, st', h1, h2, h3⟩ := page_ev (cfg := cfgP1) (by kernel_rfl) (by kernel_rfl) (by kernel_rfl) (by kernel_rfl) hl hc (fuel := 30) (Nat.le_refl _)
        refine ⟨r, st', h1, ?_⟩
        unfold pageV
        by_cases hn : l = []
        · rw [if_pos hn, h3 hn]; rfl
        · rw [if_neg hn]
          rcases h2 with ⟨rfl, h2⟩ | ⟨k, rfl, hk, _⟩
          · exact absurd (pageL_nil.1 h2) hn
          · exact close_bytes hk
      · cases h
    · cases h
  · cases h
end Go.Pe
