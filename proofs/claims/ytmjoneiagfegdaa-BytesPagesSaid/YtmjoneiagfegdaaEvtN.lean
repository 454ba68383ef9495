/-
  Bytes: numbers read, by the interpreter of plain data. No condition.
-/
import Derived.Test.YtmjoneiagfegdaaEvtS
set_option linter.unusedVariables false
set_option linter.unusedSimpArgs false
namespace Go.Pe
open Go Go.Am Go.RowKit

theorem all_bytes {p : UInt8 → Bool} (h : ((List.range 256).all fun i => p (UInt8.ofNat i)) = true) (c : UInt8) : p c = true := by
  rw [List.all_eq_true] at h
  have := h c.toNat (by have := c.toNat_lt; simp; omega)
  simpa using this
theorem drop_cons {text : List UInt8} {i : Nat} (h : i < text.length) : text.drop i = text.getD i 0 :: text.drop (i + 1) := by
  rw [List.drop_eq_getElem_cons h]
  simp [List.getD_eq_getElem?_getD, List.getElem?_eq_getElem h]
theorem ibits_and8 (a b : Nat) (ha : a < 256) (hb : b < 256) : ibits .and .u8 (a : Int) (b : Int) = some (.i .u8 ((a &&& b : Nat) : Int)) := by
  rw [← u8_and_nat a b ha hb]; rfl
theorem low7 (c : UInt8) : ibits .and .u8 (c.toNat : Int) (Int.ofNat 127) = some (.i .u8 ((c.toNat % 128 : Nat) : Int)) := by
  have h := ibits_and8 c.toNat 127 c.toNat_lt (by decide)
  rw [nat_mask7] at h
  exact h
theorem high1 (c : UInt8) : ∃ x : Nat, ibits .and .u8 (c.toNat : Int) (Int.ofNat 128) = some (.i .u8 (x : Int)) ∧ ((x : Int) != Int.ofNat 0) = decide (128 ≤ c.toNat) := by
  refine ⟨c.toNat &&& 128, ibits_and8 c.toNat 128 c.toNat_lt (by decide), ?_⟩
  have := all_bytes (p := fun c => (((c.toNat &&& 128 : Nat) : Int) != Int.ofNat 0) == decide (128 ≤ c.toNat)) (by decide +kernel) c
  simpa using this
theorem in_len {v : PV} {l : List UInt8} (h : inL v = some l) : lenP v = some (.i .i64 l.length) := by
  unfold inL at h
  split at h
  · simp only [Option.some.injEq] at h
    subst h; rfl
  · split at h
    · rename_i n cs l' hl
      split at h
      · rename_i hn
        simp only [Option.some.injEq] at h
        subst h
        subst hn
        rfl
      · simp at h
    · simp at h
  · simp at h
theorem in_cons {v : PV} {l : List UInt8} (h : inL v = some l) (hl : l ≠ []) : v = .fsl l.length (ofBytes l) := by
  unfold inL at h
  split at h
  · simp only [Option.some.injEq] at h
    exact absurd h.symm hl
  · split at h
    · rename_i n cs l' hl'
      split at h
      · rename_i hn
        simp only [Option.some.injEq] at h
        subst h
        rw [of_bytesOf hl', hn]
      · simp at h
    · simp at h
  · simp at h
theorem load_in {st : St} {l : List UInt8} {i : Nat} (hi : i < l.length) : loadP st 1 (.fptr ((ofBytes l).drop (i * 1))) = some [.i .u8 ((l.getD i 0).toNat : Int)] := by
  show cut? ((ofBytes l).drop (i * 1)) 0 1 = _
  rw [Nat.mul_one, drop_ofBytes, drop_cons hi]
  unfold cut?
  rw [if_pos (by simp [ofBytes])]
  rfl
theorem slice_in {v : PV} {l : List UInt8} (h : inL v = some l) {a : Nat} (ha : a ≤ l.length) : ∃ v', sliceP 1 (some (.i .i64 (a : Int))) none v = some v' ∧ inL v' = some (l.drop a) := by
  by_cases hl : l = []
  · subst hl
    simp only [List.length_nil] at ha
    have a0 : a = 0 := by omega
    subst a0
    unfold inL at h
    split at h
    · exact ⟨.nsl, rfl, rfl⟩
    · split at h
      · rename_i n cs l' hl'
        split at h
        · rename_i hn
          simp only [Option.some.injEq] at h
          have := of_bytesOf hl'
          subst this
          subst h
          subst hn
          exact ⟨.fsl 0 [], rfl, rfl⟩
        · simp at h
      · simp at h
    · simp at h
  · rw [in_cons h hl]
    refine ⟨.fsl (l.length - a) (ofBytes (l.drop a)), ?_, ?_⟩
    · unfold sliceP
      simp only [Z0B_, bound_ok (show 0 ≤ (a : Int) ∧ (a : Int) ≤ (l.length : Int) by omega), Int.toNat_natCast, len_ofBytes, Nat.mul_one, if_true]
      rw [drop_ofBytes, take_ofBytes, List.take_of_length_le (by simp)]
    · have := in_fsl (l.drop a)
      rwa [List.length_drop] at this
def numT (p : Nat × Int) : PV := .tup [.i .u64 (p.1 : Int), .i .i64 p.2]
set_option maxHeartbeats 4000000 in
theorem number_ev {cfg : Cfg} (hf : cfg.fn 37 = some m37) {fuel : Nat} (hfu : 12 ≤ fuel) {st : St} {v : PV} {l : List UInt8} (hv : inL v = some l) (hll : l.length ≤ 140737488355328) :
    ∃ r st', evFn cfg (fuel + 1) 37 [v] st = some (r, st') ∧ r = numT (parse l) := by
  refine evFn_W hf ?_
  unfold m37
  have hlen := in_len hv
  simp only [putArgs, ↓Z0, ↓Xp, ↓Xt, Xq, Xc, binP, ofCells, Nat.reduceAdd, Nat.reduceMul, Nat.reduceLT, Nat.reduceEqDiff, reduceIte, hlen]
  refine Z9 (k := 10 - 0) (fun d x => ∃ i n : Nat, i ≤ l.length ∧ i ≤ 9 ∧ d = 10 - i ∧ n < 18446744073709551616 ∧ numF i n (l.drop i) = parse l ∧ x.env.get 7 = v ∧ x.env.get 8 = .i .i64 l.length ∧ x.env.get 9 = .i .i64 i ∧ x.env.get 4 = .i .u64 n) ?_ ⟨0, 0, Nat.zero_le _, by omega, rfl, by omega, rfl, ?_⟩ (by omega)
  · rintro d ⟨env, st1⟩ ⟨i, n, hi, hi9, rfl, hn, hp, g7, g8, g9, g4⟩
    simp only at g7 g8 g9 g4
    by_cases hlt : i < l.length
    · have hne : l ≠ [] := by intro e; rw [e] at hlt; simp at hlt
      rw [in_cons hv hne] at g7
      rw [drop_cons hlt] at hp
      have hld := fun c => load_in (st := ⟨st1.sto, c⟩) hlt
      obtain ⟨c, hc⟩ : ∃ c, l.getD i 0 = c := ⟨_, rfl⟩
      rw [hc] at hp
      simp only [hc] at hld
      have hlti : ((i : Nat) : Int) < ((l.length : Nat) : Int) := by omega
      have hlen1 : (ofBytes l).length = l.length * 1 := by rw [len_ofBytes, Nat.mul_one]
      have hwi : IntKind.i64.wrap ((i : Int) + Int.ofNat 1) = ((i + 1 : Nat) : Int) := by
        rw [wr_i64 _ ⟨by show _ ≤ (i : Int) + 1; omega, by show (i : Int) + 1 < _; omega⟩]; rfl
      have hb := c.toNat_lt
      have h7 := low7 c
      have hw7 : IntKind.u64.wrap ((c.toNat % 128 : Nat) : Int) = ((c.toNat % 128 : Nat) : Int) := wr_u64 _ ⟨by omega, by omega⟩
      have hm7 : IntKind.i64.wrap (Int.ofNat 7 * (i : Int)) = ((7 * i : Nat) : Int) := by rw [wr_i64 _ ⟨by show _ ≤ (7 : Int) * i; omega, by show (7 : Int) * i < _; omega⟩]; rfl
      have hn7 : ¬ (((7 * i : Nat) : Int) < 0) := by omega
      have hmin : min (7 * i) IntKind.u64.bits = 7 * i := by
        show min (7 * i) 64 = _
        omega
      have hsh : IntKind.u64.wrap (((c.toNat % 128 : Nat) : Int) * 2 ^ (7 * i)) = ((c.toNat % 128 * 2 ^ (7 * i) % 18446744073709551616 : Nat) : Int) := by
        have e : ((c.toNat % 128 : Nat) : Int) * 2 ^ (7 * i) = ((c.toNat % 128 * 2 ^ (7 * i) : Nat) : Int) := by push_cast; rfl
        rw [e, IntKind.wrap_u64]
        generalize c.toNat % 128 * 2 ^ (7 * i) = x
        omega
      have hadd : IntKind.u64.wrap ((n : Int) + ((c.toNat % 128 * 2 ^ (7 * i) % 18446744073709551616 : Nat) : Int)) = (((n + c.toNat % 128 * 2 ^ (7 * i)) % 18446744073709551616 : Nat) : Int) := by
        rw [IntKind.wrap_u64]
        generalize c.toNat % 128 * 2 ^ (7 * i) = x
        omega
      have hn2 : (n + c.toNat % 128 * 2 ^ (7 * i)) % 18446744073709551616 < 18446744073709551616 := Nat.mod_lt _ (by omega)
      have eN : numF i n (c :: l.drop (i + 1)) = if i = 9 ∧ 1 < c.toNat then (0, -1)
        else if 128 ≤ c.toNat then numF (i + 1) ((n + c.toNat % 128 * 2 ^ (7 * i)) % 18446744073709551616) (l.drop (i + 1))
        else if c.toNat = 0 ∧ 0 < i then (0, -1)
        else ((n + c.toNat % 128 * 2 ^ (7 * i)) % 18446744073709551616, (i : Int) + 1) := by rw [numF]
      rw [eN] at hp
      generalize (n + c.toNat % 128 * 2 ^ (7 * i)) % 18446744073709551616 = n2 at *
      obtain ⟨x, hx1, hx2⟩ := high1 c
      have h0i : 0 ≤ ((i : Nat) : Int) := by omega
      by_cases ha : i = 9 ∧ 1 < c.toNat
      · rw [if_pos ha] at hp
        have e1 : (((i : Nat) : Int) == Int.ofNat 9) = true := by rw [ha.1]; rfl
        have e2 : ((c.toNat : Nat) : Int) > Int.ofNat 1 := by show ((c.toNat : Nat) : Int) > 1; omega
        simp only [↓Z0, ↓Xp, ↓Xt, Xq, Xc, binP, ofCells, Nat.reduceAdd, Nat.reduceMul, Nat.reduceLT, Nat.reduceEqDiff, reduceIte, g7, g8, g9, g4, hlti, hlen1, h0i, hld, h7, hw7, hm7, hn7, hmin, hsh, hadd, e1, e2]
        refine ⟨nofun, _, rfl, ?_⟩
        simp only [tupV, ← hp, numT, ↓Z0, ↓Xp, ↓Xt, Xq, Xc, binP, ofCells, Nat.reduceAdd, Nat.reduceMul, Nat.reduceLT, Nat.reduceEqDiff, reduceIte]
        rfl
      rw [if_neg ha] at hp
      -- the first test is false
      have t1 : (((i : Nat) : Int) == Int.ofNat 9) = false ∨ ((((i : Nat) : Int) == Int.ofNat 9) = true ∧ ¬ ((c.toNat : Nat) : Int) > Int.ofNat 1) := by
        by_cases h9 : i = 9
        · right
          refine ⟨by rw [h9]; rfl, ?_⟩
          show ¬ ((c.toNat : Nat) : Int) > 1
          omega
        · left
          simp only [beq_eq_false_iff_ne, ne_eq]
          intro e
          have : ((i : Nat) : Int) = ((9 : Nat) : Int) := e
          omega
      by_cases hh : 128 ≤ c.toNat
      · rw [if_pos hh] at hp
        have e3 : decide (128 ≤ c.toNat) = true := by simpa using hh
        rw [e3] at hx2
        have hi9' : i ≠ 9 := fun e => ha ⟨e, by omega⟩
        rcases t1 with e1 | ⟨e1, e2⟩
        · simp only [↓Z0, ↓Xp, ↓Xt, Xq, Xc, binP, ofCells, Nat.reduceAdd, Nat.reduceMul, Nat.reduceLT, Nat.reduceEqDiff, reduceIte, g7, g8, g9, g4, hlti, hlen1, h0i, hld, h7, hw7, hm7, hn7, hmin, hsh, hadd, e1, hx1, hx2, hwi]
          refine ⟨10 - (i + 1), by omega, i + 1, n2, ?_⟩
          rw [in_cons hv hne]
          (repeat' (first | exact True.intro | rfl | assumption | omega | apply And.intro))
        · exfalso
          have : ((i : Nat) : Int) = ((9 : Nat) : Int) := by simpa using e1
          omega
      · rw [if_neg hh] at hp
        have e3 : decide (128 ≤ c.toNat) = false := by simpa using hh
        rw [e3] at hx2
        by_cases hz : c.toNat = 0 ∧ 0 < i
        · rw [if_pos hz] at hp
          have e4 : (((c.toNat : Nat) : Int) == Int.ofNat 0) = true := by rw [hz.1]; rfl
          have e5 : ((i : Nat) : Int) > Int.ofNat 0 := by show ((i : Nat) : Int) > 0; omega
          rcases t1 with e1 | ⟨e1, e2⟩
          · simp only [↓Z0, ↓Xp, ↓Xt, Xq, Xc, binP, ofCells, Nat.reduceAdd, Nat.reduceMul, Nat.reduceLT, Nat.reduceEqDiff, reduceIte, g7, g8, g9, g4, hlti, hlen1, h0i, hld, h7, hw7, hm7, hn7, hmin, hsh, hadd, e1, hx1, hx2, e4, e5]
            refine ⟨nofun, _, rfl, ?_⟩
            simp only [tupV, ← hp, numT, ↓Z0, ↓Xp, ↓Xt, Xq, Xc, binP, ofCells, Nat.reduceAdd, Nat.reduceMul, Nat.reduceLT, Nat.reduceEqDiff, reduceIte]
            rfl
          · simp only [↓Z0, ↓Xp, ↓Xt, Xq, Xc, binP, ofCells, Nat.reduceAdd, Nat.reduceMul, Nat.reduceLT, Nat.reduceEqDiff, reduceIte, g7, g8, g9, g4, hlti, hlen1, h0i, hld, h7, hw7, hm7, hn7, hmin, hsh, hadd, e1, e2, hx1, hx2, e4, e5]
            refine ⟨nofun, _, rfl, ?_⟩
            simp only [tupV, ← hp, numT, ↓Z0, ↓Xp, ↓Xt, Xq, Xc, binP, ofCells, Nat.reduceAdd, Nat.reduceMul, Nat.reduceLT, Nat.reduceEqDiff, reduceIte]
            rfl
        · rw [if_neg hz] at hp
          have t4 : (((c.toNat : Nat) : Int) == Int.ofNat 0) = false ∨ ((((c.toNat : Nat) : Int) == Int.ofNat 0) = true ∧ ¬ ((i : Nat) : Int) > Int.ofNat 0) := by
            by_cases h0 : c.toNat = 0
            · right
              refine ⟨by rw [h0]; rfl, ?_⟩
              show ¬ ((i : Nat) : Int) > 0
              omega
            · left
              simp only [beq_eq_false_iff_ne, ne_eq]
              intro e
              have : ((c.toNat : Nat) : Int) = 0 := e
              omega
          rcases t1 with e1 | ⟨e1, e2⟩
          · rcases t4 with e4 | ⟨e4, e5⟩
            · simp only [↓Z0, ↓Xp, ↓Xt, Xq, Xc, binP, ofCells, Nat.reduceAdd, Nat.reduceMul, Nat.reduceLT, Nat.reduceEqDiff, reduceIte, g7, g8, g9, g4, hlti, hlen1, h0i, hld, h7, hw7, hm7, hn7, hmin, hsh, hadd, e1, hx1, hx2, e4, hwi]
              refine ⟨nofun, _, rfl, ?_⟩
              simp only [tupV, ← hp, numT, ↓Z0, ↓Xp, ↓Xt, Xq, Xc, binP, ofCells, Nat.reduceAdd, Nat.reduceMul, Nat.reduceLT, Nat.reduceEqDiff, reduceIte]
              rfl
            · simp only [↓Z0, ↓Xp, ↓Xt, Xq, Xc, binP, ofCells, Nat.reduceAdd, Nat.reduceMul, Nat.reduceLT, Nat.reduceEqDiff, reduceIte, g7, g8, g9, g4, hlti, hlen1, h0i, hld, h7, hw7, hm7, hn7, hmin, hsh, hadd, e1, hx1, hx2, e4, e5, hwi]
              refine ⟨nofun, _, rfl, ?_⟩
              simp only [tupV, ← hp, numT, ↓Z0, ↓Xp, ↓Xt, Xq, Xc, binP, ofCells, Nat.reduceAdd, Nat.reduceMul, Nat.reduceLT, Nat.reduceEqDiff, reduceIte]
              rfl
          · rcases t4 with e4 | ⟨e4, e5⟩
            · simp only [↓Z0, ↓Xp, ↓Xt, Xq, Xc, binP, ofCells, Nat.reduceAdd, Nat.reduceMul, Nat.reduceLT, Nat.reduceEqDiff, reduceIte, g7, g8, g9, g4, hlti, hlen1, h0i, hld, h7, hw7, hm7, hn7, hmin, hsh, hadd, e1, e2, hx1, hx2, e4, hwi]
              refine ⟨nofun, _, rfl, ?_⟩
              simp only [tupV, ← hp, numT, ↓Z0, ↓Xp, ↓Xt, Xq, Xc, binP, ofCells, Nat.reduceAdd, Nat.reduceMul, Nat.reduceLT, Nat.reduceEqDiff, reduceIte]
              rfl
            · simp only [↓Z0, ↓Xp, ↓Xt, Xq, Xc, binP, ofCells, Nat.reduceAdd, Nat.reduceMul, Nat.reduceLT, Nat.reduceEqDiff, reduceIte, g7, g8, g9, g4, hlti, hlen1, h0i, hld, h7, hw7, hm7, hn7, hmin, hsh, hadd, e1, e2, hx1, hx2, e4, e5, hwi]
              refine ⟨nofun, _, rfl, ?_⟩
              simp only [tupV, ← hp, numT, ↓Z0, ↓Xp, ↓Xt, Xq, Xc, binP, ofCells, Nat.reduceAdd, Nat.reduceMul, Nat.reduceLT, Nat.reduceEqDiff, reduceIte]
              rfl
    · have hie : i = l.length := by omega
      subst hie
      simp only [↓Z0, ↓Xp, ↓Xt, Xq, Xc, binP, ofCells, Nat.reduceAdd, Nat.reduceMul, Nat.reduceLT, Nat.reduceEqDiff, reduceIte, g7, g8, g9, g4, Int.lt_irrefl]
      refine ⟨nofun, _, rfl, ?_⟩
      rw [List.drop_length] at hp
      simp only [tupV, ← hp, numF, ↓Z0, ↓Xp, ↓Xt, Xq, Xc, binP, ofCells, Nat.reduceAdd, Nat.reduceMul, Nat.reduceLT, Nat.reduceEqDiff, reduceIte]
      rfl
  · simp [Env.get_put]
def gNumber : List PV → Option PV
  | [v] => match inL v with
    | some l => if l.length ≤ 140737488355328 then some (numT (parse l)) else none
    | none => none
  | _ => none
theorem numT_close (st : St) (p : Nat × Int) : closeRes st (numT p) = some (numT p) := closeRes_tup (vs := [.i .u64 (p.1 : Int), .i .i64 p.2]) rfl
theorem number_any (args : List PV) (r : PV) (h : gNumber args = some r) : ∃ fuel, evP cfgE0 fuel 37 args = some r := by
  unfold gNumber at h
  split at h
  · split at h
    · rename_i l hl
      split at h
      · rename_i hc
        simp only [Option.some.injEq] at h
        subst h
        exact ⟨12 + 1, ev_flat rfl (open_in hl) (fun st => numT_close st _) (number_ev (cfg := cfgE0) (by kernel_rfl) (by omega) hl hc)⟩
      · simp at h
    · simp at h
  · simp at h
def getT (p : Nat × Int × Int) : PV := .tup [.i .u64 (p.1 : Int), .i .i64 p.2.1, .i .i64 p.2.2]
theorem getu_ev {cfg : Cfg} (hf : cfg.fn 12 = some m12) (hx : cfg.ext 37 = some gNumber) {fuel : Nat} {st : St} {v : PV} {l : List UInt8} (hv : inL v = some l) (hll : l.length ≤ 140737488355328) {a : Int} :
    ∃ r st', evFn cfg (fuel + 1) 12 [v, .i .i64 a] st = some (r, st') ∧ r = getT (getU l a) := by
  refine evFn_W hf ?_
  unfold m12
  have hlen := in_len hv
  by_cases h1 : a < 0
  · have h1' : a < Int.ofNat 0 := h1
    simp only [putArgs, ↓Z0, ↓Xp, ↓Xt, Xq, Xc, binP, ofCells, Nat.reduceAdd, Nat.reduceMul, Nat.reduceLT, Nat.reduceEqDiff, reduceIte, Xm, Nat.reduceLeDiff, h1']
    refine ⟨nofun, _, rfl, ?_⟩
    have : getU l a = (0, 0, 2) := by unfold getU; rw [if_pos (.inl h1)]
    simp only [tupV, this, getT, ↓Z0, ↓Xp, ↓Xt, Xq, Xc, binP, ofCells, Nat.reduceAdd, Nat.reduceMul, Nat.reduceLT, Nat.reduceEqDiff, reduceIte]
    rfl
  have h1' : ¬ a < Int.ofNat 0 := h1
  by_cases h2 : a > (l.length : Int)
  · simp only [putArgs, ↓Z0, ↓Xp, ↓Xt, Xq, Xc, binP, ofCells, Nat.reduceAdd, Nat.reduceMul, Nat.reduceLT, Nat.reduceEqDiff, reduceIte, Xm, Nat.reduceLeDiff, h1', hlen, h2]
    refine ⟨nofun, _, rfl, ?_⟩
    have : getU l a = (0, 0, 2) := by unfold getU; rw [if_pos (.inr h2)]
    simp only [tupV, this, getT, ↓Z0, ↓Xp, ↓Xt, Xq, Xc, binP, ofCells, Nat.reduceAdd, Nat.reduceMul, Nat.reduceLT, Nat.reduceEqDiff, reduceIte]
    rfl
  obtain ⟨k, hk⟩ : ∃ k : Nat, a = k := ⟨a.toNat, by omega⟩
  subst hk
  obtain ⟨v', hs, hv'⟩ := slice_in hv (a := k) (by omega)
  have hc : ∀ (st : St) (key : Nat), callStep (runPure cfg (evFn cfg fuel) 37) false st key [v'] = some (numT (parse (l.drop k)), st) := by
    intro st key
    have hfl : v'.flat = true := by
      unfold inL at hv'
      split at hv'
      · rfl
      · rfl
      · simp at hv'
    refine callStep_flat (by simp only [List.all_cons, hfl, List.all_nil, Bool.and_self]) ?_ rfl
    rw [runPure_ext hx]
    unfold gNumber
    simp only [hv']
    rw [if_pos (by simp; omega)]
  have hpl := parse_le (l.drop k)
  simp only [List.length_drop] at hpl
  have eU : getU l (k : Int) = if (parse (l.drop k)).2 = 0 then (0, 0, 11) else if (parse (l.drop k)).2 < 0 then (0, 0, 10) else ((parse (l.drop k)).1, (k : Int) + (parse (l.drop k)).2, 0) := by
    unfold getU
    rw [if_neg (by omega), Int.toNat_natCast]
  rw [eU]
  unfold numT at hc
  generalize parse (l.drop k) = p at *
  by_cases h3 : p.2 = 0
  · have e3 : (p.2 == Int.ofNat 0) = true := by rw [h3]; rfl
    simp only [putArgs, ↓Z0, ↓Xp, ↓Xt, Xq, Xc, binP, ofCells, Nat.reduceAdd, Nat.reduceMul, Nat.reduceLT, Nat.reduceEqDiff, reduceIte, Xm, Nat.reduceLeDiff, h1', hlen, h2, hs, hc, e3]
    refine ⟨nofun, _, rfl, ?_⟩
    rw [if_pos h3]
    simp only [tupV, getT, ↓Z0, ↓Xp, ↓Xt, Xq, Xc, binP, ofCells, Nat.reduceAdd, Nat.reduceMul, Nat.reduceLT, Nat.reduceEqDiff, reduceIte]
    rfl
  have e3 : (p.2 == Int.ofNat 0) = false := by simpa using h3
  by_cases h4 : p.2 < 0
  · have e4 : p.2 < Int.ofNat 0 := h4
    simp only [putArgs, ↓Z0, ↓Xp, ↓Xt, Xq, Xc, binP, ofCells, Nat.reduceAdd, Nat.reduceMul, Nat.reduceLT, Nat.reduceEqDiff, reduceIte, Xm, Nat.reduceLeDiff, h1', hlen, h2, hs, hc, e3, e4]
    refine ⟨nofun, _, rfl, ?_⟩
    rw [if_neg h3, if_pos h4]
    simp only [tupV, getT, ↓Z0, ↓Xp, ↓Xt, Xq, Xc, binP, ofCells, Nat.reduceAdd, Nat.reduceMul, Nat.reduceLT, Nat.reduceEqDiff, reduceIte]
    rfl
  · have e4 : ¬ p.2 < Int.ofNat 0 := h4
    have hw : IntKind.i64.wrap ((k : Int) + p.2) = (k : Int) + p.2 := wr_i64 _ (by omega)
    simp only [putArgs, ↓Z0, ↓Xp, ↓Xt, Xq, Xc, binP, ofCells, Nat.reduceAdd, Nat.reduceMul, Nat.reduceLT, Nat.reduceEqDiff, reduceIte, Xm, Nat.reduceLeDiff, h1', hlen, h2, hs, hc, e3, e4, hw]
    refine ⟨nofun, _, rfl, ?_⟩
    rw [if_neg h3, if_neg h4]
    simp only [tupV, getT, ↓Z0, ↓Xp, ↓Xt, Xq, Xc, binP, ofCells, Nat.reduceAdd, Nat.reduceMul, Nat.reduceLT, Nat.reduceEqDiff, reduceIte]
    rfl
def gGetU : List PV → Option PV
  | [v, .i .i64 a] => match inL v with
    | some l => if l.length ≤ 140737488355328 then some (getT (getU l a)) else none
    | none => none
  | _ => none
theorem opened_ev {cfg : Cfg} (hf : cfg.fn 38 = some m38) {fuel : Nat} {st : St} {n : Nat} (hn : n < 18446744073709551616) :
    ∃ r st', evFn cfg (fuel + 1) 38 [.i .u64 n] st = some (r, st') ∧ r = .i .i64 (openI n) := by
  refine evFn_W hf ?_
  unfold m38
  have h10 : ¬ (Int.ofNat 1 < 0) := by decide
  have e1 : (2 : Int) ^ (min (Int.ofNat 1).toNat IntKind.u64.bits) = 2 := by rfl
  have hd : (n : Int).fdiv 2 = ((n / 2 : Nat) : Int) := by rw [Int.fdiv_eq_ediv_of_nonneg _ (by decide)]; omega
  have hw : IntKind.i64.wrap ((n / 2 : Nat) : Int) = ((n / 2 : Nat) : Int) := wr_i64 _ ⟨by omega, by omega⟩
  have ha : ibits .and .u64 (n : Int) (Int.ofNat 1) = some (.i .u64 ((n % 2 : Nat) : Int)) := by
    have := ibits_and64 n 1 hn (by decide)
    rw [Nat.and_one_is_mod] at this
    exact this
  have hw2 : IntKind.i64.wrap ((n % 2 : Nat) : Int) = ((n % 2 : Nat) : Int) := wr_i64 _ ⟨by omega, by omega⟩
  by_cases h : n % 2 = 0
  · have hneg : IntKind.i64.wrap (0 - ((n % 2 : Nat) : Int)) = 0 := by rw [h]; rfl
    have hx : ibits .xor .i64 ((n / 2 : Nat) : Int) 0 = some (.i .i64 (openI n)) := by
      have e : ibits .xor .i64 ((n / 2 : Nat) : Int) 0 = some (.i .i64 (bits .xor .i64 ((n / 2 : Nat) : Int) 0)) := rfl
      rw [e]
      congr 2
      unfold openI
      rw [if_pos h]
      have hz : bits .xor .i64 ((n / 2 : Nat) : Int) 0 = IntKind.i64.wrap ((BitVec.ofInt 64 ((n / 2 : Nat) : Int)).toNat : Int) := by
        show IntKind.i64.wrap (((BitVec.ofInt 64 ((n / 2 : Nat) : Int)) ^^^ (BitVec.ofInt 64 0)).toNat : Int) = _
        rw [show BitVec.ofInt 64 0 = 0#64 from rfl, BitVec.xor_zero]
      rw [hz, BitVec.toNat_ofInt]
      rw [IntKind.wrap_i64]
      omega
    simp only [putArgs, ↓Z0, ↓Xp, ↓Xt, Xq, Xc, binP, ofCells, Nat.reduceAdd, Nat.reduceMul, Nat.reduceLT, Nat.reduceEqDiff, reduceIte, Xm, Nat.reduceLeDiff, h10, e1, hd, hw, ha, hw2, unP, hneg, hx]
    refine ⟨nofun, _, rfl, ?_⟩
    simp only [tupV, ↓Z0, ↓Xp, ↓Xt, Xq, Xc, binP, ofCells, Nat.reduceAdd, Nat.reduceMul, Nat.reduceLT, Nat.reduceEqDiff, reduceIte]
  · have hneg : IntKind.i64.wrap (0 - ((n % 2 : Nat) : Int)) = -1 := by rw [show n % 2 = 1 by omega]; rfl
    have hx : ibits .xor .i64 ((n / 2 : Nat) : Int) (-1) = some (.i .i64 (openI n)) := by
      have e : ibits .xor .i64 ((n / 2 : Nat) : Int) (-1) = some (.i .i64 (bits .xor .i64 (-1) ((n / 2 : Nat) : Int))) := by
        show some (PV.i .i64 (IntKind.i64.wrap (((BitVec.ofInt 64 ((n / 2 : Nat) : Int)) ^^^ (BitVec.ofInt 64 (-1))).toNat : Int))) = some (PV.i .i64 (IntKind.i64.wrap (((BitVec.ofInt 64 (-1)) ^^^ (BitVec.ofInt 64 ((n / 2 : Nat) : Int))).toNat : Int)))
        rw [BitVec.xor_comm]
      rw [e]
      congr 2
      rw [Lib.i64_not (n / 2) (by omega)]
      unfold openI
      rw [if_neg h]
    simp only [putArgs, ↓Z0, ↓Xp, ↓Xt, Xq, Xc, binP, ofCells, Nat.reduceAdd, Nat.reduceMul, Nat.reduceLT, Nat.reduceEqDiff, reduceIte, Xm, Nat.reduceLeDiff, h10, e1, hd, hw, ha, hw2, unP, hneg, hx]
    refine ⟨nofun, _, rfl, ?_⟩
    simp only [tupV, ↓Z0, ↓Xp, ↓Xt, Xq, Xc, binP, ofCells, Nat.reduceAdd, Nat.reduceMul, Nat.reduceLT, Nat.reduceEqDiff, reduceIte]
def gOpened : List PV → Option PV
  | [.i .u64 n] => if 0 ≤ n ∧ n < 18446744073709551616 then some (.i .i64 (openI n.toNat)) else none
  | _ => none
def getIT (p : Int × Int × Int) : PV := .tup [.i .i64 p.1, .i .i64 p.2.1, .i .i64 p.2.2]
theorem geti_ev {cfg : Cfg} (hf : cfg.fn 13 = some m13) (hx1 : cfg.ext 12 = some gGetU) (hx2 : cfg.ext 38 = some gOpened) {fuel : Nat} {st : St} {v : PV} {l : List UInt8} (hv : inL v = some l) (hll : l.length ≤ 140737488355328) {a : Int} :
    ∃ r st', evFn cfg (fuel + 1) 13 [v, .i .i64 a] st = some (r, st') ∧ r = getIT (getI l a) := by
  refine evFn_W hf ?_
  unfold m13
  have hfl : v.flat = true := by
    unfold inL at hv
    split at hv
    · rfl
    · rfl
    · simp at hv
  have hlt := getU_lt l a
  have c1 : ∀ (st : St) (key : Nat), callStep (runPure cfg (evFn cfg fuel) 12) false st key [v, .i .i64 a] = some (getT (getU l a), st) := by
    intro st key
    refine callStep_flat (by simp only [List.all_cons, hfl, List.all_nil, Bool.and_self, Bool.true_and]; rfl) ?_ rfl
    rw [runPure_ext hx1]
    unfold gGetU
    simp only [hv]
    rw [if_pos hll]
  unfold getI
  unfold getT at c1
  generalize getU l a = p at *
  have c2 : ∀ (st : St) (key : Nat), callStep (runPure cfg (evFn cfg fuel) 38) false st key [.i .u64 (p.1 : Int)] = some (.i .i64 (openI p.1), st) := by
    intro st key
    refine callStep_flat rfl ?_ rfl
    rw [runPure_ext hx2]
    unfold gOpened
    simp only [Int.toNat_natCast]
    rw [if_pos (by omega)]
  by_cases h : p.2.2 = 0
  · have e : (p.2.2 != Int.ofNat 0) = false := by rw [h]; rfl
    rw [if_pos h]
    simp only [putArgs, ↓Z0, ↓Xp, ↓Xt, Xq, Xc, binP, ofCells, Nat.reduceAdd, Nat.reduceMul, Nat.reduceLT, Nat.reduceEqDiff, reduceIte, Xm, Nat.reduceLeDiff, c1, e, c2]
    refine ⟨nofun, _, rfl, ?_⟩
    simp only [tupV, getIT, ↓Z0, ↓Xp, ↓Xt, Xq, Xc, binP, ofCells, Nat.reduceAdd, Nat.reduceMul, Nat.reduceLT, Nat.reduceEqDiff, reduceIte]
    rfl
  · have e : (p.2.2 != Int.ofNat 0) = true := by simpa using h
    rw [if_neg h]
    simp only [putArgs, ↓Z0, ↓Xp, ↓Xt, Xq, Xc, binP, ofCells, Nat.reduceAdd, Nat.reduceMul, Nat.reduceLT, Nat.reduceEqDiff, reduceIte, Xm, Nat.reduceLeDiff, c1, e]
    refine ⟨nofun, _, rfl, ?_⟩
    simp only [tupV, getIT, ↓Z0, ↓Xp, ↓Xt, Xq, Xc, binP, ofCells, Nat.reduceAdd, Nat.reduceMul, Nat.reduceLT, Nat.reduceEqDiff, reduceIte]
    rfl
def gGetI : List PV → Option PV
  | [v, .i .i64 a] => match inL v with
    | some l => if l.length ≤ 140737488355328 then some (getIT (getI l a)) else none
    | none => none
  | _ => none
end Go.Pe
