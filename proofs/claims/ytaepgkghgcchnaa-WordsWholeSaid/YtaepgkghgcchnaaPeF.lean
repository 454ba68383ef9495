/-
  The interpreter of plain data once more, quick for the kernel; it answers the same. No condition; nothing of the program. (Printed by gen_fast.py.)
-/
import Derived.Test.YtaepgkghgcchnaaPeTop
set_option linter.unusedVariables false
set_option linter.unusedSimpArgs false
namespace Go.Pe
open Go
noncomputable section
abbrev FArm := Cfg → CallE → (Arg → PV) → St → Nat → Option (PV × St)
def f_mv (x : Arg) : FArm := fun cfg callE ρ st key => some (ρ x, st)
def f_pick (c a b : Arg) : FArm := fun cfg callE ρ st key => match ρ c with
    | .b x => some (if x then ρ a else ρ b, st)
    | _ => none
def f_alloc (zero : List PV) : FArm := fun cfg callE ρ st key => some (.ptr key 0, st.put key (some (.cells zero false)))
def f_box (x : Arg) : FArm := fun cfg callE ρ st key => if (ρ x).cells.all PV.one then some (.ptr key 0, st.put key (some (.cells (ρ x).cells false))) else none
def f_build (zero : List PV) (parts : List (Nat × Nat × Arg)) : FArm := fun cfg callE ρ st key => (fillP zero (parts.map fun p => (p.1, p.2.1, ρ p.2.2))).map fun cs => (.agg cs, st)
def f_bslice (len sz : Nat) (zero : List PV) (parts : List (Nat × Nat × Arg)) : FArm := fun cfg callE ρ st key => match fillP zero (parts.map fun p => (p.1, p.2.1, ρ p.2.2)) with
    | some cs => if 0 < sz ∧ cs.length = len * sz then some (.rsl key sz 0 len, st.put key (some (.cells cs false))) else none
    | none => none
def f_load (agg : Bool) (n : Nat) (a : Arg) : FArm := fun cfg callE ρ st key => match loadP st n (ρ a) with
    | some cs => (ofCells agg cs).map (·, st)
    | none => none
def f_store (n : Nat) (a x : Arg) : FArm := fun cfg callE ρ st key => (storeP st n (ρ a) (ρ x)).map (.tup [], ·)
def f_nilck (x : Arg) : FArm := fun cfg callE ρ st key => match ρ x with
    | .ptr k o => some (.ptr k o, st)
    | .fptr cs => some (.fptr cs, st)
    | _ => none
def f_bin (op : BinOp) (x y : Arg) : FArm := fun cfg callE ρ st key => (binP op (ρ x) (ρ y)).map (·, st)
def f_eqb (neg : Bool) (x y : Arg) : FArm := fun cfg callE ρ st key => (eqbP neg (ρ x) (ρ y)).map (·, st)
def f_eqn (kd : Nat) (neg : Bool) (x y : Arg) : FArm := fun cfg callE ρ st key => (eqnP kd neg (ρ x) (ρ y)).map (·, st)
def f_eqs (neg : Bool) (fs : List (Nat × Nat)) (x y : Arg) : FArm := fun cfg callE ρ st key => match ρ x, ρ y with
    | .agg ps, .agg qs => (eqsP fs ps qs).map fun b => (.b (b != neg), st)
    | _, _ => none
def f_mkmap  : FArm := fun cfg callE ρ st key => some (.mp key, st.put key (some (.map [])))
def f_lookup (ck : Nat) (ok : Bool) (zero : PV) (m k : Arg) : FArm := fun cfg callE ρ st key => match ρ m with
    | .nmp => some (if ok then .tup [zero, .b false] else zero, st)
    | .mp j => match st.get j with
      | some (.map es) => (mapget ck (ρ k) es).map fun r => (if ok then .tup [r.getD zero, .b r.isSome] else r.getD zero, st)
      | _ => none
    | _ => none
def f_mapup (ck : Nat) (m k v : Arg) : FArm := fun cfg callE ρ st key => match ρ m with
    | .mp j => match st.get j with
      | some (.map es) => (mapput ck (ρ k) (ρ v) es).map fun es' => (.tup [], st.put j (some (.map es')))
      | _ => none
    | _ => none
def f_mlen (m : Arg) : FArm := fun cfg callE ρ st key => match ρ m with
    | .nmp => some (.i .i64 0, st)
    | .mp j => match st.get j with
      | some (.map es) => some (.i .i64 es.length, st)
      | _ => none
    | _ => none
def f_srange (x : Arg) : FArm := fun cfg callE ρ st key => match ρ x with
    | .s l => some (.ptr key 0, st.put key (some (.iter l 0)))
    | _ => none
def f_snext (x : Arg) : FArm := fun cfg callE ρ st key => match ρ x with
    | .ptr k 0 => match st.get k with
      | some (.iter l p) => if p < l.length then some (.tup [.b true, .i .i64 p, .i .i32 (Utf8.decode ⟨l.toArray⟩ p).1], st.put k (some (.iter l (p + (Utf8.decode ⟨l.toArray⟩ p).2)))) else some (.tup [.b false], st)
      | _ => none
    | _ => none
def f_mark (x : Arg) : FArm := fun cfg callE ρ st key => match ρ x with
    | .rsl k z off n => match st.get k with
      | some (.cells _ _) => some (.rsl k z off n, st)
      | _ => none
    | _ => none
def f_bad  : FArm := fun cfg callE ρ st key => none
def f_un (op : UnOp) (x : Arg) : FArm := fun cfg callE ρ st key => (unP op (ρ x)).map (·, st)
def f_conv (c : Cv) (x : Arg) : FArm := fun cfg callE ρ st key => match c, ρ x with
    | .int k, .i _ n => some (.i k (k.wrap n), st)
    | .same, .s l => some (.s l, st)
    | .s2b, .s l => if l.length ≤ maxBytes then some (.rsl key 1 0 l.length, st.put key (some (.cells (ofBytes l) false))) else none
    | .b2s, v => match cellsOf st 1 v with
      | some (_, cs) => (bytesOf? cs).map fun l => (.s l, st)
      | none => none
    | _, _ => none
def f_mkfn (f : FuncId) (cap : List Arg) : FArm := fun cfg callE ρ st key => some (.fn f (cap.map ρ), st)
def f_mkbfn (f : FuncId) (pre : List Arg) : FArm := fun cfg callE ρ st key => some (.bfn f (pre.map ρ), st)
def f_mkslice (sz bytes : Nat) (zero : List PV) (l : Arg) : FArm := fun cfg callE ρ st key => match ρ l with
    | .i .i64 n => if 0 ≤ n ∧ n.toNat * bytes ≤ maxBytes ∧ 0 < bytes ∧ zero.length = sz ∧ 0 < sz then some (.rsl key sz 0 n.toNat, st.put key (some (.cells (List.flatten (List.replicate n.toNat zero)) false))) else none
    | _ => none
def f_slice (arr : Option Nat) (sz : Nat) (x : Arg) (lo hi : Option Arg) : FArm := fun cfg callE ρ st key => match arr with
  | some N => match ρ x with
      | .ptr k off => match bound (hi.map ρ) N N, st.get k with
        | some h, some (.cells cs _) => match bound (lo.map ρ) 0 h with
          | some l => if l < N ∧ 0 < sz ∧ off + N * sz ≤ cs.length ∧ N < 4294967296 then some (.rsl k sz (off + l * sz) (h - l), st) else none
          | none => none
        | _, _ => none
      | _ => none
  | none => (sliceP sz (lo.map ρ) (hi.map ρ) (ρ x)).map (·, st)
def f_substr (x : Arg) (lo hi : Option Arg) : FArm := fun cfg callE ρ st key => match ρ x with
    | .s l => match bound (hi.map ρ) l.length l.length with
      | some h => match bound (lo.map ρ) 0 h with
        | some k => some (.s ((l.drop k).take (h - k)), st)
        | none => none
      | none => none
    | _ => none
def f_fieldAddr (off : Nat) (x : Arg) : FArm := fun cfg callE ρ st key => match ρ x with
    | .ptr k o => some (.ptr k (o + off), st)
    | .fptr cs => some (.fptr (cs.drop off), st)
    | _ => none
def f_field (agg : Bool) (off n : Nat) (x : Arg) : FArm := fun cfg callE ρ st key => match ρ x with
    | .agg cs => match cut? cs off n with
      | some l => (ofCells agg l).map (·, st)
      | none => none
    | _ => none
def f_indexAddr (arr : Option Nat) (sz : Nat) (x i : Arg) : FArm := fun cfg callE ρ st key => match arr with
  | some N => match ρ x, ρ i with
      | .ptr k o, .i _ j => if 0 ≤ j ∧ j < N then some (.ptr k (o + j.toNat * sz), st) else none
      | .fptr cs, .i _ j => if 0 ≤ j ∧ j < N then some (.fptr (cs.drop (j.toNat * sz)), st) else none
      | _, _ => none
  | none => match ρ x, ρ i with
      | .rsl k z off n, .i _ j => if z = sz ∧ 0 ≤ j ∧ j < n then some (.ptr k (off + j.toNat * sz), st) else none
      | .fsl n cs, .i _ j => if cs.length = n * sz ∧ 0 < sz ∧ 0 ≤ j ∧ j < n then some (.fptr (cs.drop (j.toNat * sz)), st) else none
      | _, _ => none
def f_index (len : Nat) (agg : Bool) (n : Nat) (x i : Arg) : FArm := fun cfg callE ρ st key => match ρ x, ρ i with
    | .agg cs, .i _ j => if 0 ≤ j ∧ j < len then match cut? cs (j.toNat * n) n with
        | some l => (ofCells agg l).map (·, st)
        | none => none
      else none
    | _, _ => none
def f_sindex (x i : Arg) : FArm := fun cfg callE ρ st key => match ρ x, ρ i with
    | .s l, .i _ j => if 0 ≤ j then (l[j.toNat]?).map fun c => (.i .u8 c.toNat, st) else none
    | _, _ => none
def f_extract (i : Nat) (x : Arg) : FArm := fun cfg callE ρ st key => match ρ x with
    | .tup vs => (vs[i]?).map (·, st)
    | _ => none
def f_call (f : FuncId) (own : Bool) (args : List Arg) : FArm := fun cfg callE ρ st key => callStep (runPure cfg callE f) own st key (args.map ρ)
def f_calle (f : FuncId) (args : List Arg) : FArm := fun cfg callE ρ st key => match cfg.ext f with
    | some _ => none
    | none => callE f (args.map ρ) st
def f_callq (f : FuncId) (args : List Arg) : FArm := fun cfg callE ρ st key => match deepL st (args.map ρ) with
    | some l => match runPure cfg callE f l with
      | some r => if r.closedB then recvRes st key r else none
      | none => none
    | none => none
def f_callv (f : Arg) (args : List Arg) : FArm := fun cfg callE ρ st key => match ρ f with
    | .fn g cap => match cfg.ext g with
      | some _ => none
      | none => callE g (args.map ρ ++ cap) st
    | .bfn g pre => match cfg.ext g with
      | some _ => none
      | none => callE g (pre ++ args.map ρ) st
    | _ => none
def f_append (sz bytes : Nat) (s x : Arg) : FArm := fun cfg callE ρ st key => match cellsOf st sz (ρ x) with
    | some (m, news) => if 0 < sz ∧ 0 < bytes ∧ news.all PV.one then appendP st key sz bytes m news (ρ s) else none
    | none => none
def f_appstr (s x : Arg) : FArm := fun cfg callE ρ st key => match ρ x with
    | .s l => appendP st key 1 1 l.length (ofBytes l) (ρ s)
    | _ => none
def f_len (x : Arg) : FArm := fun cfg callE ρ st key => (lenP (ρ x)).map (·, st)
def f_slen (x : Arg) : FArm := fun cfg callE ρ st key => match ρ x with
    | .s l => some (.i .i64 l.length, st)
    | _ => none
def f_alen (n : Nat) : FArm := fun cfg callE ρ st key => some (.i .i64 n, st)
def f_copy (sz : Nat) (d s : Arg) : FArm := fun cfg callE ρ st key => match cellsOf st sz (ρ s) with
    | some (m, cs) => copyP st sz m cs (ρ d)
    | none => none
def f_min (x : Arg) (ys : List Arg) : FArm := fun cfg callE ρ st key => (minP (ρ x) (ys.map ρ)).map (·, st)
def f_max (x : Arg) (ys : List Arg) : FArm := fun cfg callE ρ st key => (maxP (ρ x) (ys.map ρ)).map (·, st)
def fOp (m : MOp) : FArm := MOp.rec (motive := fun _ => FArm) f_mv f_pick f_alloc f_box f_build f_bslice f_load f_store f_nilck f_bin f_eqb f_eqn f_eqs f_mkmap f_lookup f_mapup f_mlen f_srange f_snext f_mark f_bad f_un f_conv f_mkfn f_mkbfn f_mkslice f_slice f_substr f_fieldAddr f_field f_indexAddr f_index f_sindex f_extract f_call f_calle f_callq f_callv f_append f_appstr f_len f_slen f_alen f_copy f_min f_max m
theorem fOp_eq (m : MOp) (cfg : Cfg) (callE : CallE) (ρ : Arg → PV) (st : St) (key : Nat) : fOp m cfg callE ρ st key = evOp cfg callE ρ st key m := by
  cases m with
  | slice arr sz x lo hi => cases arr <;> rfl
  | indexAddr arr sz x i => cases arr <;> rfl
  | _ => rfl
def rdF (env loc : Env) (a : Arg) : PV := Arg.rec (motive := fun _ => PV) (fun t => Env.get env t) (fun t => Env.get loc t) (fun v => v) a
theorem rdF_eq (env loc : Env) (st : St) : rdF env loc = Loc.rd { env, loc, st } := by
  funext a; cases a <;> rfl
def fLen (l : List MOper) : Nat := List.rec (motive := fun _ => Nat) 0 (fun _ _ ih => Nat.add ih 1) l
theorem fLen_eq : ∀ l : List MOper, fLen l = l.length
  | [] => rfl
  | _ :: l => by show Nat.add (fLen l) 1 = _; rw [fLen_eq l]; rfl
abbrev FOps := Nat → Env → Env → St → Option Loc
def fPut (ih : FOps) (dst : MDst) (key : Nat) (env loc : Env) (v : PV) (st : St) : Option Loc :=
  MDst.rec (motive := fun _ => Option Loc) (ih (Nat.add key 8) env loc st) (fun t => ih (Nat.add key 8) (Env.put env t v) loc st) (fun t => ih (Nat.add key 8) env (Env.put loc t v) st) dst
def fStep (cfg : Cfg) (callE : CallE) (dst : MDst) (op : MOp) (ih : FOps) (key : Nat) (env loc : Env) (st : St) : Option Loc :=
  Option.rec (motive := fun _ => Option Loc) none (fun p => Prod.rec (motive := fun _ => Option Loc) (fun v st' => fPut ih dst key env loc v st') p) (fOp op cfg callE (rdF env loc) st key)
def fGuard (v : PV) (want : Bool) : Option Bool := match v with
  | .b y => some (y == want)
  | .tup [] => some false
  | _ => none
def fOne (cfg : Cfg) (callE : CallE) (o : MOper) (ih : FOps) (key : Nat) (env loc : Env) (st : St) : Option Loc :=
  MOper.rec (motive := fun _ => Option Loc) (fun dst op guard => Option.rec (motive := fun _ => Option Loc) (fStep cfg callE dst op ih key env loc st)
    (fun g => Prod.rec (motive := fun _ => Option Loc) (fun x want => Option.rec (motive := fun _ => Option Loc) none (fun b => Bool.rec (motive := fun _ => Option Loc) (fPut ih dst key env loc (.tup []) st) (fStep cfg callE dst op ih key env loc st) b) (fGuard (rdF env loc x) want)) g) guard) o
def fOps (cfg : Cfg) (callE : CallE) (l : List MOper) : FOps := List.rec (motive := fun _ => FOps) (fun _ env loc st => some { env, loc, st }) (fun o _ ih => fOne cfg callE o ih) l
theorem fPut_eq {cfg : Cfg} {callE : CallE} {ih : FOps} {l : List MOper} (h : ∀ key env loc st, ih key env loc st = evOps cfg callE l key { env, loc, st }) (dst : MDst) (key : Nat) (env loc : Env) (v : PV) (st : St) : fPut ih dst key env loc v st = evOps cfg callE l (key + 8) (({ env, loc, st } : Loc).wr dst v) := by
  cases dst <;> exact h _ _ _ _
theorem fStep_eq {cfg : Cfg} {callE : CallE} {ih : FOps} {l : List MOper} (h : ∀ key env loc st, ih key env loc st = evOps cfg callE l key { env, loc, st }) (dst : MDst) (op : MOp) (key : Nat) (env loc : Env) (st : St) : fStep cfg callE dst op ih key env loc st = match evOp cfg callE (Loc.rd { env, loc, st }) st key op with
      | some (v, st') => evOps cfg callE l (key + 8) (({ env, loc, st := st' } : Loc).wr dst v)
      | none => none := by
  unfold fStep
  rw [fOp_eq, rdF_eq env loc st]
  cases evOp cfg callE (Loc.rd { env, loc, st }) st key op with
  | none => rfl
  | some p => exact fPut_eq h dst key env loc p.1 p.2
theorem fOps_eq (cfg : Cfg) (callE : CallE) : ∀ (l : List MOper) (key : Nat) (env loc : Env) (st : St), fOps cfg callE l key env loc st = evOps cfg callE l key { env, loc, st }
  | [], _, _, _, _ => rfl
  | ⟨dst, op, none⟩ :: l, key, env, loc, st => by
    show fStep cfg callE dst op (fOps cfg callE l) key env loc st = _
    rw [fStep_eq (fOps_eq cfg callE l)]; rfl
  | ⟨dst, op, some (x, want)⟩ :: l, key, env, loc, st => by
    show Option.rec (motive := fun _ => Option Loc) none (fun b => Bool.rec (motive := fun _ => Option Loc) (fPut (fOps cfg callE l) dst key env loc (.tup []) st) (fStep cfg callE dst op (fOps cfg callE l) key env loc st) b) (fGuard (rdF env loc x) want) = _
    rw [fStep_eq (fOps_eq cfg callE l), fPut_eq (fOps_eq cfg callE l), rdF_eq env loc st]
    simp only [evOps]
    have e : guardP { env, loc, st } (some (x, want)) = fGuard (Loc.rd { env, loc, st } x) want := by
      unfold guardP fGuard; rfl
    rw [e]
    cases fGuard (Loc.rd { env, loc, st } x) want with
    | none => rfl
    | some b => cases b <;> rfl
abbrev FCode := Cfg → CallE → Nat → Now → Option (MExit × Now)
def fTruth (v : PV) : Option Bool := match v with
  | .b y => some y
  | _ => none
def c_skip : FCode := fun _ _ _ c => some (.nrm, c)
def c_region (ops : List MOper) : FCode := fun cfg callE _ c => Now.rec (motive := fun _ => Option (MExit × Now)) (fun env st => St.rec (motive := fun _ => Option (MExit × Now)) (fun sto cnt =>
  Option.rec (motive := fun _ => Option (MExit × Now)) none (fun l => Loc.rec (motive := fun _ => Option (MExit × Now)) (fun env' _ st' => some (.nrm, { env := env', st := st' })) l) (fOps cfg callE ops cnt env .leaf { sto, cnt := Nat.add cnt (Nat.mul 8 (fLen ops)) })) st) c
def c_chain (ops : List MOper) (masks : List Nat) (sw : Option (Nat × Nat)) : FCode := fun cfg callE _ c => (evChain cfg callE ops masks sw c).map (.nrm, ·)
def c_seq (a b : MCode) (ia ib : FCode) : FCode := fun cfg callE fuel c => Option.rec (motive := fun _ => Option (MExit × Now)) none (fun r => Prod.rec (motive := fun _ => Option (MExit × Now)) (fun e c' => MExit.rec (motive := fun _ => Option (MExit × Now)) (ib cfg callE fuel c') (fun id => some (.ex id, c')) (some (.ret, c')) e) r) (ia cfg callE fuel c)
def c_cond (x : Arg) (a b : MCode) (ia ib : FCode) : FCode := fun cfg callE fuel c => Option.rec (motive := fun _ => Option (MExit × Now)) none (fun y => Bool.rec (motive := fun _ => Option (MExit × Now)) (ib cfg callE fuel c) (ia cfg callE fuel c) y) (fTruth (rdF c.env .leaf x))
def c_block (id : Nat) (a : MCode) (ia : FCode) : FCode := fun cfg callE fuel c => Option.rec (motive := fun _ => Option (MExit × Now)) none (fun r => Prod.rec (motive := fun _ => Option (MExit × Now)) (fun e c' => MExit.rec (motive := fun _ => Option (MExit × Now)) (some (.nrm, c')) (fun j => Bool.rec (motive := fun _ => Option (MExit × Now)) (some (.ex j, c')) (some (.nrm, c')) (Nat.beq j id)) (some (.ret, c')) e) r) (ia cfg callE fuel c)
def fLoop (body : Now → Option (MExit × Now)) (n : Nat) : Now → Option (MExit × Now) := Nat.rec (motive := fun _ => Now → Option (MExit × Now)) (fun _ => none) (fun _ ih c => Option.rec (motive := fun _ => Option (MExit × Now)) none (fun r => Prod.rec (motive := fun _ => Option (MExit × Now)) (fun e c' => MExit.rec (motive := fun _ => Option (MExit × Now)) (ih c') (fun id => some (.ex id, c')) (some (.ret, c')) e) r) (body c)) n
def c_loop (a : MCode) (ia : FCode) : FCode := fun cfg callE fuel c => fLoop (ia cfg callE fuel) fuel c
def c_exit (id : Nat) : FCode := fun _ _ _ c => some (.ex id, c)
def c_scope (a : MCode) (ia : FCode) : FCode := ia
def c_ret : FCode := fun _ _ _ c => some (.ret, c)
def fCode (m : MCode) : FCode := MCode.rec (motive := fun _ => FCode) c_skip c_region c_chain c_seq c_cond c_block c_loop c_exit c_scope c_ret m
theorem fLoop_eq {b b' : Now → Option (MExit × Now)} (h : ∀ c, b c = b' c) : ∀ (n : Nat) (c : Now), fLoop b n c = loopE b' n c
  | 0, _ => rfl
  | n + 1, c => by
    show Option.rec (motive := fun _ => Option (MExit × Now)) none (fun r => Prod.rec (motive := fun _ => Option (MExit × Now)) (fun e c' => MExit.rec (motive := fun _ => Option (MExit × Now)) (fLoop b n c') (fun id => some (.ex id, c')) (some (.ret, c')) e) r) (b c) = _
    simp only [loopE]
    rw [h c]
    cases b' c with
    | none => rfl
    | some r =>
      obtain ⟨e, c'⟩ := r
      cases e with
      | nrm => exact fLoop_eq h n c'
      | ex id => rfl
      | ret => rfl
theorem loopE_nrm {b : Now → Option (MExit × Now)} : ∀ (n : Nat) (c c' : Now), loopE b n c ≠ some (.nrm, c')
  | 0, _, _ => by simp [loopE]
  | n + 1, c, c' => by
    simp only [loopE]
    split
    · exact loopE_nrm n _ _
    · rename_i e c1 hne _
      intro h
      simp only [Option.some.injEq, Prod.mk.injEq] at h
      obtain ⟨rfl, _⟩ := h
      exact hne rfl
    · simp
theorem fCode_eq (cfg : Cfg) (callE : CallE) (fuel : Nat) : ∀ (m : MCode) (c : Now), fCode m cfg callE fuel c = evCode cfg callE fuel m c
  | .skip, _ => rfl
  | .region ops, c => by
    obtain ⟨env, sto, cnt⟩ := c
    show Option.rec (motive := fun _ => Option (MExit × Now)) none (fun l => Loc.rec (motive := fun _ => Option (MExit × Now)) (fun env' _ st' => some (.nrm, { env := env', st := st' })) l) (fOps cfg callE ops cnt env .leaf { sto, cnt := Nat.add cnt (Nat.mul 8 (fLen ops)) }) = _
    rw [fOps_eq, fLen_eq]
    simp only [evCode, evRegion]
    show Option.rec (motive := fun _ => Option (MExit × Now)) none (fun l => Loc.rec (motive := fun _ => Option (MExit × Now)) (fun env' _ st' => some (.nrm, { env := env', st := st' })) l) (evOps cfg callE ops cnt { env, loc := .leaf, st := { sto, cnt := cnt + 8 * ops.length } }) = _
    cases evOps cfg callE ops cnt { env, loc := .leaf, st := { sto, cnt := cnt + 8 * ops.length } } <;> rfl
  | .chain ops masks sw, c => rfl
  | .seq a b, c => by
    show c_seq a b (fCode a) (fCode b) cfg callE fuel c = _
    unfold c_seq
    simp only [evCode]
    rw [fCode_eq cfg callE fuel a c]
    cases evCode cfg callE fuel a c with
    | none => rfl
    | some r =>
      obtain ⟨e, c'⟩ := r
      cases e with
      | nrm => exact fCode_eq cfg callE fuel b c'
      | ex id => rfl
      | ret => rfl
  | .cond x a b, c => by
    show c_cond x a b (fCode a) (fCode b) cfg callE fuel c = _
    unfold c_cond
    simp only [evCode]
    rw [rdF_eq c.env .leaf c.st, fCode_eq cfg callE fuel a c, fCode_eq cfg callE fuel b c]
    cases ({ env := c.env, loc := .leaf, st := c.st } : Loc).rd x with
    | b y => cases y <;> rfl
    | _ => rfl
  | .block id a, c => by
    show c_block id a (fCode a) cfg callE fuel c = _
    unfold c_block
    simp only [evCode]
    rw [fCode_eq cfg callE fuel a c]
    cases evCode cfg callE fuel a c with
    | none => rfl
    | some r =>
      obtain ⟨e, c'⟩ := r
      cases e with
      | nrm => rfl
      | ex j =>
        show Bool.rec (motive := fun _ => Option (MExit × Now)) (some (.ex j, c')) (some (.nrm, c')) (Nat.beq j id) = _
        rw [rec_ite]
      | ret => rfl
  | .loop a, c => by
    show fLoop (fCode a cfg callE fuel) fuel c = _
    rw [fLoop_eq (fCode_eq cfg callE fuel a)]
    simp only [evCode]
    split
    · rename_i h; exact absurd h (loopE_nrm _ _ _)
    · rfl
  | .exit id, _ => rfl
  | .scope a, c => fCode_eq cfg callE fuel a c
  | .ret, _ => rfl
def fRes (c : Now) (l : List MRes) : Option (PV × St) := match mapO (resP c) l with
  | some [v] => some (v, c.st)
  | some vs => some (.tup vs, c.st)
  | none => none
def fBody (cfg : Cfg) (callE : CallE) (fuel : Nat) (m : MFunc) (args : List PV) (st : St) : Option (PV × St) :=
  MFunc.rec (motive := fun _ => Option (PV × St)) (fun body res => Option.rec (motive := fun _ => Option (PV × St)) none (fun r => Prod.rec (motive := fun _ => Option (PV × St)) (fun e c => MExit.rec (motive := fun _ => Option (PV × St)) (fRes c res) (fun _ => none) (fRes c res) e) r) (fCode body cfg callE fuel { env := putArgs args 0 .leaf, st })) m
theorem fBody_eq (cfg : Cfg) (callE : CallE) (fuel : Nat) (m : MFunc) (args : List PV) (st : St) : fBody cfg callE fuel m args st = evBody cfg callE fuel m args st := by
  obtain ⟨body, res⟩ := m
  show Option.rec (motive := fun _ => Option (PV × St)) none (fun r => Prod.rec (motive := fun _ => Option (PV × St)) (fun e c => MExit.rec (motive := fun _ => Option (PV × St)) (fRes c res) (fun _ => none) (fRes c res) e) r) (fCode body cfg callE fuel { env := putArgs args 0 .leaf, st }) = _
  rw [fCode_eq]
  unfold evBody
  simp only []
  cases evCode cfg callE fuel body { env := putArgs args 0 .leaf, st } with
  | none => rfl
  | some r =>
    obtain ⟨e, c⟩ := r
    cases e <;> rfl
def fFn (cfg : Cfg) (n : Nat) : CallE := Nat.rec (motive := fun _ => CallE) (fun _ _ _ => none) (fun fuel ih f args st => Option.rec (motive := fun _ => Option (PV × St)) none (fun m => fBody cfg ih (Nat.add fuel 1) m args st) (cfg.fn f)) n
theorem fFn_eq (cfg : Cfg) : ∀ n, fFn cfg n = evFn cfg n
  | 0 => rfl
  | n + 1 => by
    funext f args st
    show Option.rec (motive := fun _ => Option (PV × St)) none (fun m => fBody cfg (fFn cfg n) (Nat.add n 1) m args st) (cfg.fn f) = _
    rw [fFn_eq cfg n]
    show _ = match cfg.fn f with
      | some m => evBody cfg (evFn cfg n) (n + 1) m args st
      | none => none
    cases cfg.fn f with
    | none => rfl
    | some m => exact fBody_eq _ _ _ _ _ _
/-- the same as evP, quick for the kernel -/
def fvP (cfg : Cfg) (fuel : Nat) (f : FuncId) (args : List PV) : Option PV := runPure cfg (fFn cfg fuel) f args
theorem fvP_eq (cfg : Cfg) (fuel : Nat) (f : FuncId) (args : List PV) : fvP cfg fuel f args = evP cfg fuel f args := by
  unfold fvP evP
  rw [fFn_eq]
/-- looked up in a list -/
def lookT (f : Nat) (l : List (Nat × MFunc)) : Option MFunc := List.rec (motive := fun _ => Option MFunc) none (fun p _ ih => Bool.rec (motive := fun _ => Option MFunc) ih (some p.2) (Nat.beq f p.1)) l
def AllT (P : Program) (modes : FuncId → Option Bool) : List (Nat × MFunc) → Prop
  | [] => True
  | p :: r => cFunc P modes p.1 = some p.2 ∧ AllT P modes r
theorem lookT_ok {P : Program} {modes : FuncId → Option Bool} {f : Nat} {m : MFunc} : ∀ l : List (Nat × MFunc), AllT P modes l → lookT f l = some m → cFunc P modes f = some m
  | [], _, h => by simp [lookT] at h
  | p :: r, ha, h => by
    have e : Bool.rec (motive := fun _ => Option MFunc) (lookT f r) (some p.2) (Nat.beq f p.1) = some m := h
    rw [rec_ite] at e
    split at e
    · rename_i hf
      rw [hf, ← e]; exact ha.1
    · exact lookT_ok r ha.2 e
theorem cfg_okt {P : Program} {Gl : Gmap} {modes : FuncId → Option Bool} {l : List (Nat × MFunc)} (hl : AllT P modes l) {ext : FuncId → Option (List PV → Option PV)} (h : ∀ f g, ext f = some g → PureOK P Gl f g) : CfgOK P Gl { fn := fun f => lookT f l, ext } := ⟨h, modes, fun f m hm => lookT_ok l hl hm⟩
end
end Go.Pe
