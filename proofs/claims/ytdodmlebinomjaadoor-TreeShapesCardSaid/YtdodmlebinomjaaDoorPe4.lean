/-
 The interpreter of plain data, quick for the kernel; a logic for it; the library's functions; memory. No condition; nothing of the program.
-/
import Derived.Test.YtdodmlebinomjaaDoorPe3
import Derived.Laws.BitsLemmas
import Derived.Laws.Bits64
import Derived.Lib.Bytealg
import Derived.Lib.IndexMore
set_option linter.unusedVariables false
set_option linter.unusedSimpArgs false
namespace Go.Pe
open Go
noncomputable section
abbrev FArm := Cfg → CallE → (Arg → PV) → St → Nat → Option (PV × St)
def Nts (x : Arg) : FArm := fun cfg callE ρ st key => some (ρ x, st)
def Nqj (c a b : Arg) : FArm := fun cfg callE ρ st key => match ρ c with
    | .b x => some (if x then ρ a else ρ b, st)
    | _ => none
def Nns (zero : List PV) : FArm := fun cfg callE ρ st key => some (.ptr key 0, st.put key (some (.cells zero false)))
def Nrw (x : Arg) : FArm := fun cfg callE ρ st key => if (ρ x).cells.all PV.one then some (.ptr key 0, st.put key (some (.cells (ρ x).cells false))) else none
def Nnu (zero : List PV) (parts : List (Nat × Nat × Arg)) : FArm := fun cfg callE ρ st key => (NaG zero (parts.map fun p => (p.1, p.2.1, ρ p.2.2))).map fun cs => (.agg cs, st)
def NiD (len sz : Nat) (zero : List PV) (parts : List (Nat × Nat × Arg)) : FArm := fun cfg callE ρ st key => match NaG zero (parts.map fun p => (p.1, p.2.1, ρ p.2.2)) with
    | some cs => if 0 < sz ∧ cs.length = len * sz then some (.rsl key sz 0 len, st.put key (some (.cells cs false))) else none
    | none => none
def Nqe (agg : Bool) (n : Nat) (a : Arg) : FArm := fun cfg callE ρ st key => match NaY st n (ρ a) with
    | some cs => (Naa agg cs).map (·, st)
    | none => none
def NnI (n : Nat) (a x : Arg) : FArm := fun cfg callE ρ st key => (Nax st n (ρ a) (ρ x)).map (.tup [], ·)
def NnE (x : Arg) : FArm := fun cfg callE ρ st key => match ρ x with
    | .ptr k o => some (.ptr k o, st)
    | .fptr cs => some (.fptr cs, st)
    | _ => none
def Nrv (op : BinOp) (x y : Arg) : FArm := fun cfg callE ρ st key => (Nai op (ρ x) (ρ y)).map (·, st)
def Nrx (neg : Bool) (x y : Arg) : FArm := fun cfg callE ρ st key => (NmZ neg (ρ x) (ρ y)).map (·, st)
def Nry (kd : Nat) (neg : Bool) (x y : Arg) : FArm := fun cfg callE ρ st key => (Np3 kd neg (ρ x) (ρ y)).map (·, st)
def NrA (neg : Bool) (fs : List (Nat × Nat)) (x y : Arg) : FArm := fun cfg callE ρ st key => match ρ x, ρ y with
    | .agg ps, .agg qs => (Neu fs ps qs).map fun b => (.b (b != neg), st)
    | _, _ => none
def NnD  : FArm := fun cfg callE ρ st key => some (.mp key, st.put key (some (.map [])))
def NiE (ck : Nat) (ok : Bool) (zero : PV) (m k : Arg) : FArm := fun cfg callE ρ st key => match ρ m with
    | .nmp => if ck = 3 then none else some (if ok then .tup [zero, .b false] else zero, st)
    | .mp j => match st.get j with
      | some (.map es) => (Na6 ck (ρ k) es).map fun r => (if ok then .tup [r.getD zero, .b r.isSome] else r.getD zero, st)
      | _ => none
    | _ => none
def NnB (ck : Nat) (m k v : Arg) : FArm := fun cfg callE ρ st key => match ρ m with
    | .mp j => match st.get j with
      | some (.map es) => (Na7 ck (ρ k) (ρ v) es).map fun es' => (.tup [], st.put j (some (.map es')))
      | _ => none
    | _ => none
def Nqi (m : Arg) : FArm := fun cfg callE ρ st key => match ρ m with
    | .nmp => some (.i .i64 0, st)
    | .mp j => match st.get j with
      | some (.map es) => some (.i .i64 es.length, st)
      | _ => none
    | _ => none
def NiG (x : Arg) : FArm := fun cfg callE ρ st key => match ρ x with
    | .s l => some (.ptr key 0, st.put key (some (.iter l 0)))
    | _ => none
def NnH (x : Arg) : FArm := fun cfg callE ρ st key => match ρ x with
    | .ptr k 0 => match st.get k with
      | some (.iter l p) => if p < l.length then some (.tup [.b true, .i .i64 p, .i .i32 (Utf8.decode ⟨l.toArray⟩ p).1], st.put k (some (.iter l (p + (Utf8.decode ⟨l.toArray⟩ p).2)))) else some (.tup [.b false], st)
      | _ => none
    | _ => none
def Nqf (x : Arg) : FArm := fun cfg callE ρ st key => match ρ x with
    | .rsl k z off n => match st.get k with
      | some (.cells _ _) => some (.rsl k z off n, st)
      | _ => none
    | _ => none
def Nru  : FArm := fun cfg callE ρ st key => none
def Ntt (op : UnOp) (x : Arg) : FArm := fun cfg callE ρ st key => (unP op (ρ x)).map (·, st)
def Nqc (c : Cv) (x : Arg) : FArm := fun cfg callE ρ st key => match c, ρ x with
    | .int k, .i _ n => some (.i k (k.wrap n), st)
    | .same, .s l => some (.s l, st)
    | .s2b, .s l => if l.length ≤ maxBytes then some (.rsl key 1 0 l.length, st.put key (some (.cells (NaK l) false))) else none
    | .b2s, v => match cellsOf st 1 v with
      | some (_, cs) => (bytesOf? cs).map fun l => (.s l, st)
      | none => none
    | .up, .ptr k 0 => match st.get k with
      | some (.bld _) => some (.ptr k 0, st)
      | _ => none
    | .down Ts, .ptr k 0 => match st.get k with
      | some (.bld T) => if T ∈ Ts then some (.ptr k 0, st) else none
      | _ => none
    | _, _ => none
def Nqg (f : FuncId) (cap : List Arg) : FArm := fun cfg callE ρ st key => some (.fn f (cap.map ρ), st)
def NnC (f : FuncId) (pre : List Arg) : FArm := fun cfg callE ρ st key => some (.bfn f (pre.map ρ), st)
def Nfs (sz bytes : Nat) (zero : List PV) (l : Arg) : FArm := fun cfg callE ρ st key => match ρ l with
    | .i _ n => if 0 ≤ n ∧ n.toNat * bytes ≤ maxBytes ∧ 0 < bytes ∧ zero.length = sz ∧ 0 < sz then some (.rsl key sz 0 n.toNat, st.put key (some (.cells (List.flatten (List.replicate n.toNat zero)) false))) else none
    | _ => none
def NnG (arr : Option Nat) (sz : Nat) (x : Arg) (lo hi : Option Arg) : FArm := fun cfg callE ρ st key => match arr with
 | some N => match ρ x with
  | .ptr k off => match NaH (hi.map ρ) N N, st.get k with
    | some h, some (.cells cs _) => match NaH (lo.map ρ) 0 h with
      | some l => if l < N ∧ 0 < sz ∧ off + N * sz ≤ cs.length ∧ N < 4294967296 then some (.rsl k sz (off + l * sz) (h - l), st) else none
      | none => none
    | _, _ => none
  | _ => none
 | none => (NbS sz (lo.map ρ) (hi.map ρ) (ρ x)).map (·, st)
def NiH (x : Arg) (lo hi : Option Arg) : FArm := fun cfg callE ρ st key => match ρ x with
    | .s l => match NaH (hi.map ρ) l.length l.length with
      | some h => match NaH (lo.map ρ) 0 h with
        | some k => some (.s ((l.drop k).take (h - k)), st)
        | none => none
      | none => none
    | _ => none
def Nea (off : Nat) (x : Arg) : FArm := fun cfg callE ρ st key => match ρ x with
    | .ptr k o => some (.ptr k (o + off), st)
    | .fptr cs => some (.fptr (cs.drop off), st)
    | _ => none
def Nnz (agg : Bool) (off n : Nat) (x : Arg) : FArm := fun cfg callE ρ st key => match ρ x with
    | .agg cs => match cut? cs off n with
      | some l => (Naa agg l).map (·, st)
      | none => none
    | _ => none
def Neb (arr : Option Nat) (sz : Nat) (x i : Arg) : FArm := fun cfg callE ρ st key => match arr with
 | some N => match ρ x, ρ i with
  | .ptr k o, .i _ j => if 0 ≤ j ∧ j < N then some (.ptr k (o + j.toNat * sz), st) else none
  | .fptr cs, .i _ j => if 0 ≤ j ∧ j < N then some (.fptr (cs.drop (j.toNat * sz)), st) else none
  | _, _ => none
 | none => match ρ x, ρ i with
  | .rsl k z off n, .i _ j => if z = sz ∧ 0 ≤ j ∧ j < n then some (.ptr k (off + j.toNat * sz), st) else none
  | .fsl n cs, .i _ j => if cs.length = n * sz ∧ 0 < sz ∧ 0 ≤ j ∧ j < n then some (.fptr (cs.drop (j.toNat * sz)), st) else none
  | _, _ => none
def NnA (len : Nat) (agg : Bool) (n : Nat) (x i : Arg) : FArm := fun cfg callE ρ st key => match ρ x, ρ i with
    | .agg cs, .i _ j => if 0 ≤ j ∧ j < len then match cut? cs (j.toNat * n) n with
     | some l => (Naa agg l).map (·, st)
     | none => none
      else none
    | _, _ => none
def NiF (x i : Arg) : FArm := fun cfg callE ρ st key => match ρ x, ρ i with
    | .s l, .i _ j => if 0 ≤ j then (l[j.toNat]?).map fun c => (.i .u8 c.toNat, st) else none
    | _, _ => none
def Nfr (i : Nat) (x : Arg) : FArm := fun cfg callE ρ st key => match ρ x with
    | .tup vs => (vs[i]?).map (·, st)
    | _ => none
def Nqa (f : FuncId) (own : Bool) (args : List Arg) : FArm := fun cfg callE ρ st key => Nar (Naq cfg callE f) own st key (args.map ρ)
def Nnv (f : FuncId) (args : List Arg) : FArm := fun cfg callE ρ st key => match cfg.ext f with
    | some _ => none
    | none => callE f (args.map ρ) st
def Nnw (f : FuncId) (args : List Arg) : FArm := fun cfg callE ρ st key => match Nbd st (args.map ρ) with
    | some l => match Naq cfg callE f l with
      | some r => if r.closedB then Nav st key r else none
      | none => none
    | none => none
def Nnx (f : Arg) (args : List Arg) : FArm := fun cfg callE ρ st key => match ρ f with
    | .fn g cap => match cfg.ext g with
      | some _ => none
      | none => callE g (args.map ρ ++ cap) st
    | .bfn g pre => match cfg.ext g with
      | some _ => none
      | none => callE g (pre ++ args.map ρ) st
    | _ => none
def NiB (sz bytes : Nat) (s x : Arg) : FArm := fun cfg callE ρ st key => match cellsOf st sz (ρ x) with
    | some (m, news) => if 0 < sz ∧ 0 < bytes ∧ news.all PV.one then NaN st key sz bytes m news (ρ s) else none
    | none => none
def NiC (s x : Arg) : FArm := fun cfg callE ρ st key => match ρ x with
    | .s l => NaN st key 1 1 l.length (NaK l) (ρ s)
    | _ => none
def NrB (x : Arg) : FArm := fun cfg callE ρ st key => (Nih (ρ x)).map (·, st)
def Nqk (x : Arg) : FArm := fun cfg callE ρ st key => match ρ x with
    | .s l => some (.i .i64 l.length, st)
    | _ => none
def Np7 (n : Nat) : FArm := fun cfg callE ρ st key => some (.i .i64 n, st)
def Nqd (sz : Nat) (d s : Arg) : FArm := fun cfg callE ρ st key => match cellsOf st sz (ρ s) with
    | some (m, cs) => NbO st sz m cs (ρ d)
    | none => none
def NrD (x : Arg) (ys : List Arg) : FArm := fun cfg callE ρ st key => (Nm5 (ρ x) (ys.map ρ)).map (·, st)
def NrC (x : Arg) (ys : List Arg) : FArm := fun cfg callE ρ st key => (NnU (ρ x) (ys.map ρ)).map (·, st)
def NiA (T : TypeId) : FArm := fun cfg callE ρ st key => some (.ptr key 0, st.put key (some (.bld T)))
def Nrz (neg : Bool) (x y : Arg) : FArm := fun cfg callE ρ st key => match ρ x, ρ y with
    | .ptr k o, .ptr l p => if k = l ∧ o = p then some (.b (!neg), st) else none
    | _, _ => none
def Np8 (T : TypeId) (s x : Arg) : FArm := fun cfg callE ρ st key => match cellsOf st 1 (ρ x) with
    | some (_, cs) => match bytesOf? cs with
      | some l => Ncj st key T l (ρ s)
      | none => none
    | none => none
def Nnt (T : TypeId) (s x : Arg) : FArm := fun cfg callE ρ st key => match ρ x with
    | .s l => Ncj st key T l (ρ s)
    | _ => none
def NnF (x : Arg) : FArm := fun cfg callE ρ st key => match ρ x with
    | .nsl => some (.nptr, st)
    | .rsl k 1 0 (_ + 1) => some (.ptr k 0, st)
    | _ => none
def Nql (T : TypeId) (p n : Arg) : FArm := fun cfg callE ρ st key => match ρ p, ρ n with
    | .nptr, .i .i64 m => if m = 0 then some (.s [], st) else none
    | .ptr k 0, .i .i64 m => match st.get k with
      | some (.bytes T' l) => if T' = T ∧ m = l.length ∧ 0 < l.length ∧ l.length ≤ maxBytes then some (.s l, st) else none
      | _ => none
    | _, _ => none
def Np9 (T : TypeId) (x : Arg) : FArm := fun cfg callE ρ st key => if Ncq (ρ x) then some (.ptr key 0, st.put key (some (.bld T))) else none
def Nqb (x : Arg) : FArm := fun cfg callE ρ st key => match ρ x with
    | .nsl => some (.i .i64 0, st)
    | _ => none
def Nqh (T : TypeId) (x : Arg) : FArm := fun cfg callE ρ st key => match ρ x with
    | .i .i64 n => if 0 ≤ n ∧ n.toNat ≤ maxBytes then some (.rsl key 1 0 n.toNat, st.put key (some (.bytes T []))) else none
    | _ => none
def Nny (d s : Arg) : FArm := fun cfg callE ρ st key => match ρ d, ρ s with
    | .rsl .., .nsl => some (.i .i64 0, st)
    | _, _ => none
def fOp (m : MOp) : FArm := MOp.rec (motive := fun _ => FArm) Nts Nqj Nns Nrw Nnu NiD Nqe NnI NnE Nrv Nrx Nry NrA NnD NiE NnB Nqi NiG NnH Nqf Nru Ntt Nqc Nqg NnC Nfs NnG NiH Nea Nnz Neb NnA NiF Nfr Nqa Nnv Nnw Nnx NiB NiC NrB Nqk Np7 Nqd NrD NrC NiA Nrz Np8 Nnt NnF Nql Np9 Nqb Nqh Nny m
theorem Np5 (m : MOp) (cfg : Cfg) (callE : CallE) (ρ : Arg → PV) (st : St) (key : Nat) : fOp m cfg callE ρ st key = Nag cfg callE ρ st key m := by
 cases m with
 | slice arr sz x lo hi => cases arr <;> rfl
 | indexAddr arr sz x i => cases arr <;> rfl
 | _ => rfl
def rdF (env loc : Env) (a : Arg) : PV := Arg.rec (motive := fun _ => PV) (fun t => Env.get env t) (fun t => Env.get loc t) (fun v => v) a
theorem NfO (env loc : Env) (st : St) : rdF env loc = Loc.rd { env, loc, st } := by
 funext a; cases a <;> rfl
def Nrc (l : List MOper) : Nat := List.rec (motive := fun _ => Nat) 0 (fun _ _ ih => Nat.add ih 1) l
theorem Nfp : ∀ l : List MOper, Nrc l = l.length
 | [] => rfl
 | _ :: l => by show Nat.add (Nrc l) 1 = _; rw [Nfp l]; rfl
abbrev FOps := Nat → Env → Env → St → Option Loc
def Nrd (ih : FOps) (dst : MDst) (key : Nat) (env loc : Env) (v : PV) (st : St) : Option Loc :=
 MDst.rec (motive := fun _ => Option Loc) (ih (Nat.add key 8) env loc st) (fun t => ih (Nat.add key 8) (Env.put env t v) loc st) (fun t => ih (Nat.add key 8) env (Env.put loc t v) st) dst
def NeW (cfg : Cfg) (callE : CallE) (dst : MDst) (op : MOp) (ih : FOps) (key : Nat) (env loc : Env) (st : St) : Option Loc :=
 Option.rec (motive := fun _ => Option Loc) none (fun p => Prod.rec (motive := fun _ => Option Loc) (fun v st' => Nrd ih dst key env loc v st') p) (fOp op cfg callE (rdF env loc) st key)
def NdE (v : PV) (want : Bool) : Option Bool := match v with
 | .b y => some (y == want)
 | .tup [] => some false
 | _ => none
def Ntr (cfg : Cfg) (callE : CallE) (o : MOper) (ih : FOps) (key : Nat) (env loc : Env) (st : St) : Option Loc :=
 MOper.rec (motive := fun _ => Option Loc) (fun dst op guard => Option.rec (motive := fun _ => Option Loc) (NeW cfg callE dst op ih key env loc st)
  (fun g => Prod.rec (motive := fun _ => Option Loc) (fun x want => Option.rec (motive := fun _ => Option Loc) none (fun b => Bool.rec (motive := fun _ => Option Loc) (Nrd ih dst key env loc (.tup []) st) (NeW cfg callE dst op ih key env loc st) b) (NdE (rdF env loc x) want)) g) guard) o
def NpQ (cfg : Cfg) (callE : CallE) (l : List MOper) : FOps := List.rec (motive := fun _ => FOps) (fun _ env loc st => some { env, loc, st }) (fun o _ ih => Ntr cfg callE o ih) l
theorem Nfq {cfg : Cfg} {callE : CallE} {ih : FOps} {l : List MOper} (h : ∀ key env loc st, ih key env loc st = NaE cfg callE l key { env, loc, st }) (dst : MDst) (key : Nat) (env loc : Env) (v : PV) (st : St) : Nrd ih dst key env loc v st = NaE cfg callE l (key + 8) (({ env, loc, st } : Loc).wr dst v) := by
 cases dst <;> exact h _ _ _ _
theorem NeA {cfg : Cfg} {callE : CallE} {ih : FOps} {l : List MOper} (h : ∀ key env loc st, ih key env loc st = NaE cfg callE l key { env, loc, st }) (dst : MDst) (op : MOp) (key : Nat) (env loc : Env) (st : St) : NeW cfg callE dst op ih key env loc st = match Nag cfg callE (Loc.rd { env, loc, st }) st key op with
 | some (v, st') => NaE cfg callE l (key + 8) (({ env, loc, st := st' } : Loc).wr dst v)
 | none => none := by
 unfold NeW
 rw [Np5, NfO env loc st]
 cases Nag cfg callE (Loc.rd { env, loc, st }) st key op with
 | none => rfl
 | some p => exact Nfq h dst key env loc p.1 p.2
theorem Ndn (cfg : Cfg) (callE : CallE) : ∀ (l : List MOper) (key : Nat) (env loc : Env) (st : St), NpQ cfg callE l key env loc st = NaE cfg callE l key { env, loc, st }
 | [], _, _, _, _ => rfl
 | ⟨dst, op, none⟩ :: l, key, env, loc, st => by
   show NeW cfg callE dst op (NpQ cfg callE l) key env loc st = _
   rw [NeA (Ndn cfg callE l)]; rfl
 | ⟨dst, op, some (x, want)⟩ :: l, key, env, loc, st => by
   show Option.rec (motive := fun _ => Option Loc) none (fun b => Bool.rec (motive := fun _ => Option Loc) (Nrd (NpQ cfg callE l) dst key env loc (.tup []) st) (NeW cfg callE dst op (NpQ cfg callE l) key env loc st) b) (NdE (rdF env loc x) want) = _
   rw [NeA (Ndn cfg callE l), Nfq (Ndn cfg callE l), NfO env loc st]
   simp only [NaE]
   have e : Naj { env, loc, st } (some (x, want)) = NdE (Loc.rd { env, loc, st } x) want := by
    unfold Naj NdE; rfl
   rw [e]
   cases NdE (Loc.rd { env, loc, st } x) want with
   | none => rfl
   | some b => cases b <;> rfl
abbrev FCode := Cfg → CallE → Nat → Now → Option (MExit × Now)
def Np6 (v : PV) : Option Bool := match v with
 | .b y => some y
 | _ => none
def Np0 : FCode := fun _ _ _ c => some (.nrm, c)
def Nip (ops : List MOper) : FCode := fun cfg callE _ c => Now.rec (motive := fun _ => Option (MExit × Now)) (fun env st => St.rec (motive := fun _ => Option (MExit × Now)) (fun sto cnt =>
 Option.rec (motive := fun _ => Option (MExit × Now)) none (fun l => Loc.rec (motive := fun _ => Option (MExit × Now)) (fun env' _ st' => some (.nrm, { env := env', st := st' })) l) (NpQ cfg callE ops cnt env .leaf { sto, cnt := Nat.add cnt (Nat.mul 8 (Nrc ops)) })) st) c
def Nnj (ops : List MOper) (masks : List Nat) (sw : Option (Nat × Nat)) : FCode := fun cfg callE _ c => (NbX cfg callE ops masks sw c).map (.nrm, ·)
def Nnl (a b : MCode) (ia ib : FCode) : FCode := fun cfg callE fuel c => Option.rec (motive := fun _ => Option (MExit × Now)) none (fun r => Prod.rec (motive := fun _ => Option (MExit × Now)) (fun e c' => MExit.rec (motive := fun _ => Option (MExit × Now)) (ib cfg callE fuel c') (fun id => some (.ex id, c')) (some (.ret, c')) e) r) (ia cfg callE fuel c)
def Nfj (x : Arg) (a b : MCode) (ia ib : FCode) : FCode := fun cfg callE fuel c => Option.rec (motive := fun _ => Option (MExit × Now)) none (fun y => Bool.rec (motive := fun _ => Option (MExit × Now)) (ib cfg callE fuel c) (ia cfg callE fuel c) y) (Np6 (rdF c.env .leaf x))
def Nd0 (id : Nat) (a : MCode) (ia : FCode) : FCode := fun cfg callE fuel c => Option.rec (motive := fun _ => Option (MExit × Now)) none (fun r => Prod.rec (motive := fun _ => Option (MExit × Now)) (fun e c' => MExit.rec (motive := fun _ => Option (MExit × Now)) (some (.nrm, c')) (fun j => Bool.rec (motive := fun _ => Option (MExit × Now)) (some (.ex j, c')) (some (.nrm, c')) (Nat.beq j id)) (some (.ret, c')) e) r) (ia cfg callE fuel c)
def Niz (body : Now → Option (MExit × Now)) (n : Nat) : Now → Option (MExit × Now) := Nat.rec (motive := fun _ => Now → Option (MExit × Now)) (fun _ => none) (fun _ ih c => Option.rec (motive := fun _ => Option (MExit × Now)) none (fun r => Prod.rec (motive := fun _ => Option (MExit × Now)) (fun e c' => MExit.rec (motive := fun _ => Option (MExit × Now)) (ih c') (fun id => some (.ex id, c')) (some (.ret, c')) e) r) (body c)) n
def NpZ (a : MCode) (ia : FCode) : FCode := fun cfg callE fuel c => Niz (ia cfg callE fuel) fuel c
def NpY (id : Nat) : FCode := fun _ _ _ c => some (.ex id, c)
def Nnk (a : MCode) (ia : FCode) : FCode := ia
def Nrn : FCode := fun _ _ _ c => some (.ret, c)
def Ndm (m : MCode) : FCode := MCode.rec (motive := fun _ => FCode) Np0 Nip Nnj Nnl Nfj Nd0 NpZ NpY Nnk Nrn m
theorem Nez {b b' : Now → Option (MExit × Now)} (h : ∀ c, b c = b' c) : ∀ (n : Nat) (c : Now), Niz b n c = Nbp b' n c
 | 0, _ => rfl
 | n + 1, c => by
   show Option.rec (motive := fun _ => Option (MExit × Now)) none (fun r => Prod.rec (motive := fun _ => Option (MExit × Now)) (fun e c' => MExit.rec (motive := fun _ => Option (MExit × Now)) (Niz b n c') (fun id => some (.ex id, c')) (some (.ret, c')) e) r) (b c) = _
   simp only [Nbp]
   rw [h c]
   cases b' c with
   | none => rfl
   | some r =>
     obtain ⟨e, c'⟩ := r
     cases e with
     | nrm => exact Nez h n c'
     | ex id => rfl
     | ret => rfl
theorem loopE_nrm {b : Now → Option (MExit × Now)} : ∀ (n : Nat) (c c' : Now), Nbp b n c ≠ some (.nrm, c')
 | 0, _, _ => by simp [Nbp]
 | n + 1, c, c' => by
   simp only [Nbp]
   split
   ·exact loopE_nrm n _ _
   ·rename_i e c1 hne _
    intro h
    simp only [Sj, Pj] at h
    obtain ⟨rfl, _⟩ := h
    exact hne rfl
   ·simp
theorem Na5 (cfg : Cfg) (callE : CallE) (fuel : Nat) : ∀ (m : MCode) (c : Now), Ndm m cfg callE fuel c = Naf cfg callE fuel m c
 | .skip, _ => rfl
 | .region ops, c => by
   obtain ⟨env, sto, cnt⟩ := c
   show Option.rec (motive := fun _ => Option (MExit × Now)) none (fun l => Loc.rec (motive := fun _ => Option (MExit × Now)) (fun env' _ st' => some (.nrm, { env := env', st := st' })) l) (NpQ cfg callE ops cnt env .leaf { sto, cnt := Nat.add cnt (Nat.mul 8 (Nrc ops)) }) = _
   rw [Ndn, Nfp]
   simp only [Naf, NaP]
   show Option.rec (motive := fun _ => Option (MExit × Now)) none (fun l => Loc.rec (motive := fun _ => Option (MExit × Now)) (fun env' _ st' => some (.nrm, { env := env', st := st' })) l) (NaE cfg callE ops cnt { env, loc := .leaf, st := { sto, cnt := cnt + 8 * ops.length } }) = _
   cases NaE cfg callE ops cnt { env, loc := .leaf, st := { sto, cnt := cnt + 8 * ops.length } } <;> rfl
 | .chain ops masks sw, c => rfl
 | .seq a b, c => by
   show Nnl a b (Ndm a) (Ndm b) cfg callE fuel c = _
   unfold Nnl
   simp only [Naf]
   rw [Na5 cfg callE fuel a c]
   cases Naf cfg callE fuel a c with
   | none => rfl
   | some r =>
     obtain ⟨e, c'⟩ := r
     cases e with
     | nrm => exact Na5 cfg callE fuel b c'
     | ex id => rfl
     | ret => rfl
 | .cond x a b, c => by
   show Nfj x a b (Ndm a) (Ndm b) cfg callE fuel c = _
   unfold Nfj
   simp only [Naf]
   rw [NfO c.env .leaf c.st, Na5 cfg callE fuel a c, Na5 cfg callE fuel b c]
   cases ({ env := c.env, loc := .leaf, st := c.st } : Loc).rd x with
   | b y => cases y <;> rfl
   | _ => rfl
 | .block id a, c => by
   show Nd0 id a (Ndm a) cfg callE fuel c = _
   unfold Nd0
   simp only [Naf]
   rw [Na5 cfg callE fuel a c]
   cases Naf cfg callE fuel a c with
   | none => rfl
   | some r =>
     obtain ⟨e, c'⟩ := r
     cases e with
     | nrm => rfl
     | ex j =>
       show Bool.rec (motive := fun _ => Option (MExit × Now)) (some (.ex j, c')) (some (.nrm, c')) (Nat.beq j id) = _
       rw [Nbx]
     | ret => rfl
 | .loop a, c => by
   show Niz (Ndm a cfg callE fuel) fuel c = _
   rw [Nez (Na5 cfg callE fuel a)]
   simp only [Naf]
   split
   ·rename_i h; exact absurd h (loopE_nrm _ _ _)
   ·rfl
 | .exit id, _ => rfl
 | .scope a, c => Na5 cfg callE fuel a c
 | .ret, _ => rfl
def Nre (c : Now) (l : List MRes) : Option (PV × St) := match mapO (Ne3 c) l with
 | some [v] => some (v, c.st)
 | some vs => some (.tup vs, c.st)
 | none => none
def Nnr (cfg : Cfg) (callE : CallE) (fuel : Nat) (m : MFunc) (args : List PV) (st : St) : Option (PV × St) :=
 MFunc.rec (motive := fun _ => Option (PV × St)) (fun body res => Option.rec (motive := fun _ => Option (PV × St)) none (fun r => Prod.rec (motive := fun _ => Option (PV × St)) (fun e c => MExit.rec (motive := fun _ => Option (PV × St)) (Nre c res) (fun _ => none) (Nre c res) e) r) (Ndm body cfg callE fuel { env := Nau args 0 .leaf, st })) m
theorem Niy (cfg : Cfg) (callE : CallE) (fuel : Nat) (m : MFunc) (args : List PV) (st : St) : Nnr cfg callE fuel m args st = Ncb cfg callE fuel m args st := by
 obtain ⟨body, res⟩ := m
 show Option.rec (motive := fun _ => Option (PV × St)) none (fun r => Prod.rec (motive := fun _ => Option (PV × St)) (fun e c => MExit.rec (motive := fun _ => Option (PV × St)) (Nre c res) (fun _ => none) (Nre c res) e) r) (Ndm body cfg callE fuel { env := Nau args 0 .leaf, st }) = _
 rw [Na5]
 unfold Ncb
 simp only []
 cases Naf cfg callE fuel body { env := Nau args 0 .leaf, st } with
 | none => rfl
 | some r =>
   obtain ⟨e, c⟩ := r
   cases e <;> rfl
def fFn (cfg : Cfg) (n : Nat) : CallE := Nat.rec (motive := fun _ => CallE) (fun _ _ _ => none) (fun fuel ih f args st => Option.rec (motive := fun _ => Option (PV × St)) none (fun m => Nnr cfg ih (Nat.add fuel 1) m args st) (cfg.fn f)) n
theorem Nm2 (cfg : Cfg) : ∀ n, fFn cfg n = Nba cfg n
 | 0 => rfl
 | n + 1 => by
   funext f args st
   show Option.rec (motive := fun _ => Option (PV × St)) none (fun m => Nnr cfg (fFn cfg n) (Nat.add n 1) m args st) (cfg.fn f) = _
   rw [Nm2 cfg n]
   show _ = match cfg.fn f with
    | some m => Ncb cfg (Nba cfg n) (n + 1) m args st
    | none => none
   cases cfg.fn f with
   | none => rfl
   | some m => exact Niy _ _ _ _ _ _
def fvP (cfg : Cfg) (fuel : Nat) (f : FuncId) (args : List PV) : Option PV := Naq cfg (fFn cfg fuel) f args
theorem NdG (cfg : Cfg) (fuel : Nat) (f : FuncId) (args : List PV) : fvP cfg fuel f args = evP cfg fuel f args := by
 unfold fvP evP
 rw [Nm2]
def Nee (f : Nat) (l : List (Nat × MFunc)) : Option MFunc := List.rec (motive := fun _ => Option MFunc) none (fun p _ ih => Bool.rec (motive := fun _ => Option MFunc) ih (some p.2) (Nat.beq f p.1)) l
def NpS (P : Program) (modes : FuncId → Option Bool) : List (Nat × MFunc) → Prop
 | [] => True
 | p :: r => Nah P modes p.1 = some p.2 ∧ NpS P modes r
theorem NeD {P : Program} {modes : FuncId → Option Bool} {f : Nat} {m : MFunc} : ∀ l : List (Nat × MFunc), NpS P modes l → Nee f l = some m → Nah P modes f = some m
 | [], _, h => by simp [Nee] at h
 | p :: r, ha, h => by
   have e : Bool.rec (motive := fun _ => Option MFunc) (Nee f r) (some p.2) (Nat.beq f p.1) = some m := h
   rw [Nbx] at e
   split at e
   ·rename_i hf
    rw [hf, ← e]; exact ha.1
   ·exact NeD r ha.2 e
theorem Nd3 {P : Program} {Gl : Gmap} {modes : FuncId → Option Bool} {l : List (Nat × MFunc)} (hl : NpS P modes l) {ext : FuncId → Option (List PV → Option PV)} (h : ∀ f g, ext f = some g → Na1 P Gl f g) : CfgOK P Gl { fn := fun f => Nee f l, ext } := ⟨h, modes, fun f m hm => NeD l hl hm⟩
end
end Go.Pe
set_option linter.unusedVariables false
set_option linter.unusedSimpArgs false
namespace Go.Pe
open Go

def WO (cfg : Cfg) (callE : CallE) (ops : List MOper) (key : Nat) (c : Loc) (Q : Loc → Prop) : Prop := ∃ c', NaE cfg callE ops key c = some c' ∧ Q c'
def WC (cfg : Cfg) (callE : CallE) (n : Nat) (m : MCode) (x : Now) (Q : MExit → Now → Prop) : Prop := ∃ e x', Naf cfg callE n m x = some (e, x') ∧ Q e x'
def WV (r : Option (PV × St)) (Q : PV → St → Prop) : Prop := ∃ v st, r = some (v, st) ∧ Q v st
@[congr] theorem Zu {r r' : Option (PV × St)} (h : r = r') (Q : PV → St → Prop) : WV r Q = WV r' Q := by rw [h]
@[congr] theorem Zv {cfg : Cfg} {callE : CallE} {ops : List MOper} {key key' : Nat} {c c' : Loc} (h : key = key') (h2 : c = c') (Q : Loc → Prop) : WO cfg callE ops key c Q = WO cfg callE ops key' c' Q := by rw [h, h2]
@[congr] theorem Zw {cfg : Cfg} {callE : CallE} {n : Nat} {m : MCode} {x x' : Now} (h : x = x') (Q : MExit → Now → Prop) : WC cfg callE n m x Q = WC cfg callE n m x' Q := by rw [h]
def WI (c A B : Prop) : Prop := (c → A) ∧ (¬ c → B)
@[congr] theorem Zt {c c' : Prop} (h : c = c') (A B : Prop) : WI c A B = WI c' A B := by rw [h]
theorem Zq (A B : Prop) : WI True A B ↔ A := by simp [WI]
theorem Zr (A B : Prop) : WI False A B ↔ B := by simp [WI]
theorem Zs (c A B : Prop) [Decidable c] : (if c then A else B) ↔ WI c A B := by
 by_cases h : c <;> simp [WI, h]
theorem Zx (v : PV) (st : St) (Q : PV → St → Prop) : WV (some (v, st)) Q ↔ Q v st := by
 constructor
 ·rintro ⟨a, b, h, q⟩
  simp only [Sj, Pj] at h
  obtain ⟨rfl, rfl⟩ := h
  exact q
 ·intro q; exact ⟨v, st, rfl, q⟩
theorem Zz (c : Prop) [Decidable c] (r : Option (PV × St)) (Q : PV → St → Prop) : WV (if c then r else none) Q ↔ c ∧ WV r Q := by
 by_cases h : c
 ·simp [h]
 ·simp [h, WV]
theorem Ze (cfg : Cfg) (callE : CallE) (key : Nat) (c : Loc) (Q : Loc → Prop) : WO cfg callE [] key c Q ↔ Q c := by
 constructor
 ·rintro ⟨c', h, q⟩
  simp only [NaE, Sj] at h
  subst h; exact q
 ·intro q; exact ⟨c, rfl, q⟩
theorem Zb (cfg : Cfg) (callE : CallE) (d : MDst) (op : MOp) (l : List MOper) (key : Nat) (env loc : Env) (st : St) (Q : Loc → Prop) :
 WO cfg callE (⟨d, op, none⟩ :: l) key ⟨env, loc, st⟩ Q ↔ WV (Nag cfg callE (Loc.rd ⟨env, loc, st⟩) st key op) fun v st' => WO cfg callE l (key + 8) ((⟨env, loc, st'⟩ : Loc).wr d v) Q := by
 unfold WO WV
 simp only [NaE, Naj]
 cases Nag cfg callE (Loc.rd ⟨env, loc, st⟩) st key op with
 | none => simp
 | some p =>
   obtain ⟨v, st'⟩ := p
   constructor
   ·rintro ⟨c', h, q⟩; exact ⟨v, st', rfl, c', h, q⟩
   ·rintro ⟨a, b, h, c', h2, q⟩
    simp only [Sj, Pj] at h
    obtain ⟨rfl, rfl⟩ := h
    exact ⟨c', h2, q⟩
theorem Zd (cfg : Cfg) (callE : CallE) (d : MDst) (op : MOp) (x : Arg) (w y : Bool) (l : List MOper) (key : Nat) (env loc : Env) (st : St) (Q : Loc → Prop) (h : Loc.rd ⟨env, loc, st⟩ x = .b y) :
 WO cfg callE (⟨d, op, some (x, w)⟩ :: l) key ⟨env, loc, st⟩ Q ↔ if y = w then WV (Nag cfg callE (Loc.rd ⟨env, loc, st⟩) st key op) (fun v st' => WO cfg callE l (key + 8) ((⟨env, loc, st'⟩ : Loc).wr d v) Q) else WO cfg callE l (key + 8) ((⟨env, loc, st⟩ : Loc).wr d (.tup [])) Q := by
 have hg : Naj ⟨env, loc, st⟩ (some (x, w)) = some (y == w) := by unfold Naj; simp only [h]
 by_cases hw : y = w
 ·rw [if_pos hw, ← Zb]
  have h1 : Naj ⟨env, loc, st⟩ (some (x, w)) = some true := by rw [hg, hw]; simp
  unfold WO
  simp only [NaE, h1]
  simp only [Naj]
 ·rw [if_neg hw]
  have h1 : Naj ⟨env, loc, st⟩ (some (x, w)) = some false := by rw [hg]; simp [hw]
  unfold WO
  simp only [NaE, h1]
theorem Z1 (cfg : Cfg) (callE : CallE) (n : Nat) (l : List MOper) (env : Env) (st : St) (Q : MExit → Now → Prop) :
 WC cfg callE n (.region l) ⟨env, st⟩ Q ↔ WO cfg callE l st.cnt ⟨env, .leaf, { st with cnt := st.cnt + 8 * l.length }⟩ fun c => Q .nrm ⟨c.env, c.st⟩ := by
 unfold WC WO
 simp only [Naf, NaP, Option.map_map, Option.map_eq_some_iff, Function.comp_def]
 constructor
 ·rintro ⟨e, x', ⟨c', h, h2⟩, q⟩
  simp only [Pj] at h2
  obtain ⟨rfl, rfl⟩ := h2
  exact ⟨c', h, q⟩
 ·rintro ⟨c', h, q⟩
  exact ⟨.nrm, _, ⟨c', h, rfl⟩, q⟩
def Ne7 (Q : MExit → Now → Prop) (k : Now → Prop) : MExit → Now → Prop
 | .nrm, x => k x
 | .ex id, x => Q (.ex id) x
 | .ret, x => Q .ret x
theorem Z0 (cfg : Cfg) (callE : CallE) (n : Nat) (a b : MCode) (x : Now) (Q : MExit → Now → Prop) : WC cfg callE n (.seq a b) x Q ↔ WC cfg callE n a x (Ne7 Q fun x' => WC cfg callE n b x' Q) := by
 unfold WC
 simp only [Naf]
 cases Naf cfg callE n a x with
 | none => simp
 | some r =>
   obtain ⟨e, x'⟩ := r
   cases e <;> simp [Ne7, and_assoc]
theorem Z4 (cfg : Cfg) (callE : CallE) (n : Nat) (x : Now) (Q : MExit → Now → Prop) : WC cfg callE n .skip x Q ↔ Q .nrm x := by simp [WC, Naf, and_assoc]
theorem Z5 (cfg : Cfg) (callE : CallE) (n id : Nat) (x : Now) (Q : MExit → Now → Prop) : WC cfg callE n (.exit id) x Q ↔ Q (.ex id) x := by simp [WC, Naf, and_assoc]
theorem Z6 (cfg : Cfg) (callE : CallE) (n : Nat) (x : Now) (Q : MExit → Now → Prop) : WC cfg callE n .ret x Q ↔ Q .ret x := by simp [WC, Naf, and_assoc]
theorem Z3 (cfg : Cfg) (callE : CallE) (n : Nat) (a : MCode) (x : Now) (Q : MExit → Now → Prop) : WC cfg callE n (.scope a) x Q ↔ WC cfg callE n a x Q := by simp [WC, Naf]
theorem Z8 (cfg : Cfg) (callE : CallE) (n : Nat) (t : Arg) (a b : MCode) (env : Env) (st : St) (Q : MExit → Now → Prop) (y : Bool) (h : Loc.rd ⟨env, .leaf, st⟩ t = .b y) :
 WC cfg callE n (.cond t a b) ⟨env, st⟩ Q ↔ if y = true then WC cfg callE n a ⟨env, st⟩ Q else WC cfg callE n b ⟨env, st⟩ Q := by
 unfold WC
 simp only [Naf, h]
 cases y <;> simp
def Nb8 (id : Nat) (Q : MExit → Now → Prop) : MExit → Now → Prop
 | .nrm, x => Q .nrm x
 | .ex j, x => if j = id then Q .nrm x else Q (.ex j) x
 | .ret, x => Q .ret x
theorem Z2 (cfg : Cfg) (callE : CallE) (n id : Nat) (a : MCode) (x : Now) (Q : MExit → Now → Prop) : WC cfg callE n (.block id a) x Q ↔ WC cfg callE n a x (Nb8 id Q) := by
 unfold WC
 simp only [Naf]
 cases Naf cfg callE n a x with
 | none => simp
 | some r =>
   obtain ⟨e, x'⟩ := r
   cases e with
   | nrm => simp [Nb8, and_assoc]
   | ret => simp [Nb8, and_assoc]
   | ex j =>
     by_cases hj : j = id
     ·simp [Nb8, hj, and_assoc]
     ·simp [Nb8, hj, and_assoc]
theorem Z9 {cfg : Cfg} {callE : CallE} {n : Nat} {a : MCode} {Q : MExit → Now → Prop} (I : Nat → Now → Prop)
 (h : ∀ k x, I k x → WC cfg callE n a x fun e x' => match e with | .nrm => ∃ j, j < k ∧ I j x' | .ex id => Q (.ex id) x' | .ret => Q .ret x')
 {k : Nat} {x : Now} (hI : I k x) (hk : k < n) : WC cfg callE n (.loop a) x Q := by
 have key : ∀ m k x, I k x → k < m → ∃ e x', Nbp (Naf cfg callE n a) m x = some (e, x') ∧ e ≠ .nrm ∧ Q e x' := by
  intro m
  induction m with
  | zero => intro k x _ h; omega
  | succ m ih =>
    intro k x hx hm
    obtain ⟨e, x', h1, h2⟩ := h k x hx
    simp only [Nbp, h1]
    cases e with
    | nrm =>
      obtain ⟨j, hj, h3⟩ := h2
      exact ih j x' h3 (by omega)
    | ex id => exact ⟨_, _, rfl, by simp, h2⟩
    | ret => exact ⟨_, _, rfl, by simp, h2⟩
 obtain ⟨e, x', h1, h2, h3⟩ := key n k x hI hk
 refine ⟨e, x', ?_, h3⟩
 simp only [Naf, h1]
 cases e with
 | nrm => exact absurd rfl h2
 | ex id => rfl
 | ret => rfl
theorem WC.mono {cfg : Cfg} {callE : CallE} {n : Nat} {m : MCode} {x : Now} {Q Q' : MExit → Now → Prop} (h : WC cfg callE n m x Q) (q : ∀ e x', Q e x' → Q' e x') : WC cfg callE n m x Q' := by
 obtain ⟨e, x', h1, h2⟩ := h
 exact ⟨e, x', h1, q _ _ h2⟩
theorem Nq3 (Q : MExit → Now → Prop) (k : Now → Prop) (x : Now) : Ne7 Q k .nrm x ↔ k x := Iff.trans Iff.rfl Iff.rfl
theorem Nq4 (Q : MExit → Now → Prop) (k : Now → Prop) (id : Nat) (x : Now) : Ne7 Q k (.ex id) x ↔ Q (.ex id) x := Iff.trans Iff.rfl Iff.rfl
theorem Nq5 (Q : MExit → Now → Prop) (k : Now → Prop) (x : Now) : Ne7 Q k .ret x ↔ Q .ret x := Iff.trans Iff.rfl Iff.rfl
theorem Nq6 (id : Nat) (Q : MExit → Now → Prop) (x : Now) : Nb8 id Q .nrm x ↔ Q .nrm x := Iff.trans Iff.rfl Iff.rfl
theorem Nq7 (id j : Nat) (Q : MExit → Now → Prop) (x : Now) : Nb8 id Q (.ex j) x ↔ if j = id then Q .nrm x else Q (.ex j) x := Iff.trans Iff.rfl Iff.rfl
theorem Z0A_ (id : Nat) (Q : MExit → Now → Prop) (x : Now) : Nb8 id Q .ret x ↔ Q .ret x := Iff.trans Iff.rfl Iff.rfl
theorem Env.get_leaf (u : Nat) : Env.get .leaf u = .und := rfl
theorem Nq1 (env loc : Env) (st : St) (t : Nat) : Loc.rd ⟨env, loc, st⟩ (.t t) = env.get t := Eq.trans rfl rfl
theorem NpW (env loc : Env) (st : St) (t : Nat) : Loc.rd ⟨env, loc, st⟩ (.l t) = Env.get loc t := Eq.trans rfl rfl
theorem Nq2 (env loc : Env) (st : St) (v : PV) : Loc.rd ⟨env, loc, st⟩ (.c v) = v := Eq.trans rfl rfl
theorem Nrm (env loc : Env) (st : St) (v : PV) : Loc.wr ⟨env, loc, st⟩ .no v = ⟨env, loc, st⟩ := Eq.trans rfl rfl
theorem Nrk (env loc : Env) (st : St) (t : Nat) (v : PV) : Loc.wr ⟨env, loc, st⟩ (.t t) v = ⟨env.put t v, loc, st⟩ := Eq.trans rfl rfl
theorem Nrl (env loc : Env) (st : St) (t : Nat) (v : PV) : Loc.wr ⟨env, loc, st⟩ (.l t) v = ⟨env, Env.put loc t v, st⟩ := Eq.trans rfl rfl
theorem Nnn {cfg : Cfg} {fuel : Nat} {f : FuncId} {m : MFunc} (hf : cfg.fn f = some m) {args : List PV} {st : St} {r : PV} {st' : St}
 (h : WC cfg (Nba cfg fuel) (fuel + 1) m.body ⟨Nau args 0 .leaf, st⟩ fun e x => (∀ id, e ≠ .ex id) ∧ x.st = st' ∧ ∃ vs, mapO (Ne3 x) m.res = some vs ∧ r = (match vs with | [v] => v | vs => .tup vs)) : Nba cfg (fuel + 1) f args st = some (r, st') := by
 obtain ⟨e, x, h1, h2, rfl, vs, h3, rfl⟩ := h
 show (match cfg.fn f with
  | some m => Ncb cfg (Nba cfg fuel) (fuel + 1) m args st
  | none => none) = _
 rw [hf]
 simp only [Ncb, h1, h3]
 cases e with
 | ex id => exact absurd rfl (h2 id)
 | nrm =>
   match vs with
   | [] => rfl
   | [v] => rfl
   | _ :: _ :: _ => rfl
 | ret =>
   match vs with
   | [] => rfl
   | [v] => rfl
   | _ :: _ :: _ => rfl
def WB (v : PV) (A B : Prop) : Prop := match v with
 | .b y => if y = true then A else B
 | _ => False
@[congr] theorem Zp {v v' : PV} (h : v = v') (A B : Prop) : WB v A B = WB v' A B := by rw [h]
theorem Zo (y : Bool) (A B : Prop) : WB (.b y) A B ↔ WI (y = true) A B := Zs _ _ _
theorem Z7 (cfg : Cfg) (callE : CallE) (n : Nat) (t : Arg) (a b : MCode) (env : Env) (st : St) (Q : MExit → Now → Prop) :
 WC cfg callE n (.cond t a b) ⟨env, st⟩ Q ↔ WB (Loc.rd ⟨env, .leaf, st⟩ t) (WC cfg callE n a ⟨env, st⟩ Q) (WC cfg callE n b ⟨env, st⟩ Q) := by
 cases h : Loc.rd ⟨env, .leaf, st⟩ t with
 | b y => rw [Z8 cfg callE n t a b env st Q y h]; rfl
 | _ =>
   unfold WC WB
   simp only [Naf, h]
   simp
def WG (v : PV) (w : Bool) (A B : Prop) : Prop := match v with
 | .b y => if y = w then A else B
 | .tup [] => B
 | _ => False
@[congr] theorem Zl {v v' : PV} (h : v = v') (w : Bool) (A B : Prop) : WG v w A B = WG v' w A B := by rw [h]
theorem Zf (A B : Prop) : WG (.b true) true A B ↔ A := by simp [WG]
theorem Zg (A B : Prop) : WG (.b true) false A B ↔ B := by simp [WG]
theorem Zh (A B : Prop) : WG (.b false) true A B ↔ B := by simp [WG]
theorem Zi (A B : Prop) : WG (.b false) false A B ↔ A := by simp [WG]
theorem Zm (A B : Prop) : WB (.b true) A B ↔ A := by simp [WB]
theorem Zn (A B : Prop) : WB (.b false) A B ↔ B := by simp [WB]
theorem Zj (w : Bool) (A B : Prop) : WG (.tup []) w A B ↔ B := Iff.trans Iff.rfl Iff.rfl
theorem Zc (cfg : Cfg) (callE : CallE) (d : MDst) (op : MOp) (x : Arg) (w : Bool) (l : List MOper) (key : Nat) (env loc : Env) (st : St) (Q : Loc → Prop) :
 WO cfg callE (⟨d, op, some (x, w)⟩ :: l) key ⟨env, loc, st⟩ Q ↔ WG (Loc.rd ⟨env, loc, st⟩ x) w (WV (Nag cfg callE (Loc.rd ⟨env, loc, st⟩) st key op) (fun v st' => WO cfg callE l (key + 8) ((⟨env, loc, st'⟩ : Loc).wr d v) Q)) (WO cfg callE l (key + 8) ((⟨env, loc, st⟩ : Loc).wr d (.tup [])) Q) := by
 cases h : Loc.rd ⟨env, loc, st⟩ x with
 | b y => rw [Zd cfg callE d op x w y l key env loc st Q h]; rfl
 | tup vs =>
   cases vs with
   | nil =>
     have h1 : Naj ⟨env, loc, st⟩ (some (x, w)) = some false := by unfold Naj; simp only [h]
     unfold WO
     simp only [NaE, h1]
     rfl
   | cons a r =>
     have h1 : Naj ⟨env, loc, st⟩ (some (x, w)) = none := by unfold Naj; simp only [h]
     unfold WO WG
     simp only [NaE, h1]
     simp
 | _ =>
   have h1 : Naj ⟨env, loc, st⟩ (some (x, w)) = none := by unfold Naj; simp only [h]
   unfold WO WG
   simp only [NaE, h1]
   simp
theorem St.get_cnt (st : St) (c k : Nat) : St.get ⟨st.sto, c⟩ k = st.get k := rfl
theorem NaM (n : Int) (h : -9223372036854775808 ≤ n ∧ n < 9223372036854775808) : IntKind.i64.wrap n = n := by
 rw [IntKind.wrap_i64]; omega
theorem NqZ (n : Int) (h : 0 ≤ n ∧ n < 256) : IntKind.u8.wrap n = n := by
 rw [IntKind.wrap_u8]; omega
theorem Nnh (n : Int) (h : 0 ≤ n ∧ n < 18446744073709551616) : IntKind.u64.wrap n = n := by
 rw [IntKind.wrap_u64]; omega
theorem Nng (n : Int) (h : 0 ≤ n ∧ n < 4294967296) : IntKind.u32.wrap n = n := by
 rw [IntKind.wrap_u32]; omega
theorem map_some {α β : Type} (f : α → β) (a : α) : (some a).map f = some (f a) := rfl
theorem ZB {α : Type} (c : Prop) [Decidable c] (r : Option α) (f : α → PV × St) (Q : PV → St → Prop) : WV ((if c then r else none).map f) Q ↔ c ∧ WV (r.map f) Q := by
 by_cases h : c
 ·simp [h]
 ·simp [h, WV]
theorem Zy (Q : PV → St → Prop) : WV none Q ↔ False := by simp [WV]
theorem ZA (l : List UInt8) (n : Nat) (f : UInt8 → PV × St) (Q : PV → St → Prop) : WV ((l[n]?).map f) Q ↔ n < l.length ∧ WV (some (f (l.getD n 0))) Q := by
 by_cases h : n < l.length
 ·simp only [List.getElem?_eq_getElem h, Option.map_some, List.getD_eq_getElem?_getD, Option.getD_some, h, true_and]
 ·have e : l[n]? = none := List.getElem?_eq_none (by omega)
  rw [e]
  simp [WV, h]
def Ndt (vs : List PV) : PV := match vs with
 | [v] => v
 | vs => .tup vs
theorem NbP {cfg : Cfg} {fuel : Nat} {f : FuncId} {m : MFunc} (hf : cfg.fn f = some m) {args : List PV} {st : St} {R : PV → St → Prop}
 (h : WC cfg (Nba cfg fuel) (fuel + 1) m.body ⟨Nau args 0 .leaf, st⟩ fun e x => (∀ id, e ≠ .ex id) ∧ ∃ vs, mapO (Ne3 x) m.res = some vs ∧ R (Ndt vs) x.st) : ∃ r st', Nba cfg (fuel + 1) f args st = some (r, st') ∧ R r st' := by
 obtain ⟨e, x, h1, h2, vs, h3, h4⟩ := h
 refine ⟨Ndt vs, x.st, ?_, h4⟩
 refine Nnn hf ⟨e, x, h1, h2, rfl, vs, h3, ?_⟩
 unfold Ndt; rfl
theorem NsU {r : Option (PV × St)} {Q R : PV → St → Prop} (h : ∃ v st, r = some (v, st) ∧ R v st) (q : ∀ v st, R v st → Q v st) : WV r Q := by
 obtain ⟨v, st, h1, h2⟩ := h
 exact ⟨v, st, h1, q v st h2⟩
theorem Z0B_ (d most : Nat) : NaH none d most = some d := rfl
theorem Nbz {k : IntKind} {n : Int} {d most : Nat} (h : 0 ≤ n ∧ n ≤ most) : NaH (some (.i k n)) d most = some n.toNat := by
 show (if 0 ≤ n ∧ n ≤ (most : Int) then some n.toNat else none) = some n.toNat
 rw [if_pos h]
theorem Na2 {cfg : Cfg} {callE : CallE} {f : FuncId} {g : List PV → Option PV} (h : cfg.ext f = some g) (args : List PV) : Naq cfg callE f args = g args := by
 unfold Naq; rw [h]
def PV.flat : PV → Bool
 | .i .. | .b _ | .s _ | .nsl | .fsl .. | .und => true
 | _ => false
theorem NbW {st : St} : ∀ {l : List PV}, l.all PV.flat = true → Nbd st l = some l
 | [], _ => rfl
 | v :: l, h => by
   simp only [List.all_cons, Bool.and_eq_true] at h
   have ih := NbW (st := st) h.2
   unfold Nbd at ih ⊢
   have e : deep st Nck v = some v := by cases v <;> first | rfl | (simp [PV.flat] at h; done)
   simp only [mapO, e, ih]
theorem Nc5 {st : St} : ∀ {l : List PV}, l.all PV.flat = true → keysL st l = []
 | [], _ => rfl
 | v :: l, h => by
   simp only [List.all_cons, Bool.and_eq_true] at h
   have ih := Nc5 (st := st) h.2
   unfold keysL at ih ⊢
   have e : keysP st Nck v = [] := by cases v <;> first | rfl | (simp [PV.flat] at h; done)
   simp only [List.flatMap_cons, e, ih, List.append_nil]
theorem NaO {g : List PV → Option PV} {st : St} {key : Nat} {ps : List PV} {r : PV} (hp : ps.all PV.flat = true) (hg : g ps = some r) (hr : Nav st key r = some (r, st)) : Nar g false st key ps = some (r, st) := by
 unfold Nar
 simp only [NbW hp, hg, Nc5 hp, Nak, ite_self, hr]
theorem Nca {st : St} {vs : List PV} (h : vs.all PV.flat = true) : NaU st (.tup vs) = some (.tup vs) := by
 have e : ∀ l : List PV, l.all PV.flat = true → NaS st l = none := by
  intro l
  induction l with
  | nil => intro _; rfl
  | cons v l ih =>
    intro hl
    simp only [List.all_cons, Bool.and_eq_true] at hl
    have hv : Ne9? st v = none := by cases v <;> first | rfl | (simp [PV.flat] at hl; done)
    simp only [NaS, hv, ih hl.2, Option.map_none]
 simp only [NaU, e vs h, NbW h, map_some]
theorem Nfx {st : St} {k : Nat} {fz : Bool} {l : List UInt8} (hk : st.get k = some (.cells (NaK l) fz)) {i : Nat} (hi : i < l.length) : NaY st 1 (.ptr k (0 + i * 1)) = some [.i .u8 (l.getD i 0).toNat] := by
 have hc : cut? (NaK l) (0 + i * 1) 1 = some [.i .u8 (l.getD i 0).toNat] := by
  unfold cut? NaK
  rw [if_pos (by simp; omega)]
  apply congrArg
  apply List.ext_getElem?
  intro j
  cases j with
  | zero => simp [List.getElem?_take, List.getElem?_drop, List.getElem?_map, List.getElem?_eq_getElem hi, List.getD_eq_getElem?_getD]
  | succ j => simp [List.getElem?_take]
 unfold NaY
 simp only [hk, hc]
end Go.Pe
set_option linter.unusedVariables false
set_option linter.unusedSimpArgs false
namespace Go.Pe
open Go
theorem ZC (cfg : Cfg) (callE : CallE) (ρ : Arg → PV) (st : St) (key : Nat) (x : Arg) (Q : PV → St → Prop) : WV (Nag cfg callE ρ st key (.mv x)) Q ↔ WV (some (ρ x, st)) Q := Iff.trans Iff.rfl Iff.rfl
theorem ZD (cfg : Cfg) (callE : CallE) (ρ : Arg → PV) (st : St) (key : Nat) (c : Arg) (a : Arg) (b : Arg) (Q : PV → St → Prop) : WV (Nag cfg callE ρ st key (.pick c a b)) Q ↔ WV (match ρ c with
 | .b x => some (if x then ρ a else ρ b, st)
 | _ => none) Q := Iff.trans Iff.rfl Iff.rfl
theorem ZE (cfg : Cfg) (callE : CallE) (ρ : Arg → PV) (st : St) (key : Nat) (zero : List PV) (Q : PV → St → Prop) : WV (Nag cfg callE ρ st key (.alloc zero)) Q ↔ WV (some (.ptr key 0, st.put key (some (.cells zero false)))) Q := Iff.trans Iff.rfl Iff.rfl
theorem ZF (cfg : Cfg) (callE : CallE) (ρ : Arg → PV) (st : St) (key : Nat) (x : Arg) (Q : PV → St → Prop) : WV (Nag cfg callE ρ st key (.box x)) Q ↔ WV (if (ρ x).cells.all PV.one then some (.ptr key 0, st.put key (some (.cells (ρ x).cells false))) else none) Q := Iff.trans Iff.rfl Iff.rfl
theorem ZG (cfg : Cfg) (callE : CallE) (ρ : Arg → PV) (st : St) (key : Nat) (zero : List PV) (parts : List (Nat × Nat × Arg)) (Q : PV → St → Prop) : WV (Nag cfg callE ρ st key (.build zero parts)) Q ↔ WV ((NaG zero (parts.map fun p => (p.1, p.2.1, ρ p.2.2))).map fun cs => (.agg cs, st)) Q := Iff.trans Iff.rfl Iff.rfl
theorem ZH (cfg : Cfg) (callE : CallE) (ρ : Arg → PV) (st : St) (key : Nat) (len : Nat) (sz : Nat) (zero : List PV) (parts : List (Nat × Nat × Arg)) (Q : PV → St → Prop) : WV (Nag cfg callE ρ st key (.bslice len sz zero parts)) Q ↔ WV (match NaG zero (parts.map fun p => (p.1, p.2.1, ρ p.2.2)) with
 | some cs => if 0 < sz ∧ cs.length = len * sz then some (.rsl key sz 0 len, st.put key (some (.cells cs false))) else none
 | none => none) Q := Iff.trans Iff.rfl Iff.rfl
theorem ZI (cfg : Cfg) (callE : CallE) (ρ : Arg → PV) (st : St) (key : Nat) (agg : Bool) (n : Nat) (a : Arg) (Q : PV → St → Prop) : WV (Nag cfg callE ρ st key (.load agg n a)) Q ↔ WV (match NaY st n (ρ a) with
 | some cs => (Naa agg cs).map (·, st)
 | none => none) Q := Iff.trans Iff.rfl Iff.rfl
theorem ZJ (cfg : Cfg) (callE : CallE) (ρ : Arg → PV) (st : St) (key : Nat) (n : Nat) (a : Arg) (x : Arg) (Q : PV → St → Prop) : WV (Nag cfg callE ρ st key (.store n a x)) Q ↔ WV ((Nax st n (ρ a) (ρ x)).map (.tup [], ·)) Q := Iff.trans Iff.rfl Iff.rfl
theorem ZK (cfg : Cfg) (callE : CallE) (ρ : Arg → PV) (st : St) (key : Nat) (x : Arg) (Q : PV → St → Prop) : WV (Nag cfg callE ρ st key (.nilck x)) Q ↔ WV (match ρ x with
 | .ptr k o => some (.ptr k o, st)
 | .fptr cs => some (.fptr cs, st)
 | _ => none) Q := Iff.trans Iff.rfl Iff.rfl
theorem ZL (cfg : Cfg) (callE : CallE) (ρ : Arg → PV) (st : St) (key : Nat) (op : BinOp) (x : Arg) (y : Arg) (Q : PV → St → Prop) : WV (Nag cfg callE ρ st key (.bin op x y)) Q ↔ WV ((Nai op (ρ x) (ρ y)).map (·, st)) Q := Iff.trans Iff.rfl Iff.rfl
theorem ZM (cfg : Cfg) (callE : CallE) (ρ : Arg → PV) (st : St) (key : Nat) (neg : Bool) (x : Arg) (y : Arg) (Q : PV → St → Prop) : WV (Nag cfg callE ρ st key (.eqb neg x y)) Q ↔ WV ((NmZ neg (ρ x) (ρ y)).map (·, st)) Q := Iff.trans Iff.rfl Iff.rfl
theorem ZN (cfg : Cfg) (callE : CallE) (ρ : Arg → PV) (st : St) (key : Nat) (kd : Nat) (neg : Bool) (x : Arg) (y : Arg) (Q : PV → St → Prop) : WV (Nag cfg callE ρ st key (.eqn kd neg x y)) Q ↔ WV ((Np3 kd neg (ρ x) (ρ y)).map (·, st)) Q := Iff.trans Iff.rfl Iff.rfl
theorem ZO (cfg : Cfg) (callE : CallE) (ρ : Arg → PV) (st : St) (key : Nat) (neg : Bool) (fs : List (Nat × Nat)) (x : Arg) (y : Arg) (Q : PV → St → Prop) : WV (Nag cfg callE ρ st key (.eqs neg fs x y)) Q ↔ WV (match ρ x, ρ y with
 | .agg ps, .agg qs => (Neu fs ps qs).map fun b => (.b (b != neg), st)
 | _, _ => none) Q := Iff.trans Iff.rfl Iff.rfl
theorem ZP (cfg : Cfg) (callE : CallE) (ρ : Arg → PV) (st : St) (key : Nat)  (Q : PV → St → Prop) : WV (Nag cfg callE ρ st key (.mkmap )) Q ↔ WV (some (.mp key, st.put key (some (.map [])))) Q := Iff.trans Iff.rfl Iff.rfl
theorem ZQ (cfg : Cfg) (callE : CallE) (ρ : Arg → PV) (st : St) (key : Nat) (ck : Nat) (ok : Bool) (zero : PV) (m : Arg) (k : Arg) (Q : PV → St → Prop) : WV (Nag cfg callE ρ st key (.lookup ck ok zero m k)) Q ↔ WV (match ρ m with
 | .nmp => if ck = 3 then none else some (if ok then .tup [zero, .b false] else zero, st)
 | .mp j => match st.get j with
   | some (.map es) => (Na6 ck (ρ k) es).map fun r => (if ok then .tup [r.getD zero, .b r.isSome] else r.getD zero, st)
   | _ => none
 | _ => none) Q := Iff.trans Iff.rfl Iff.rfl
theorem ZR (cfg : Cfg) (callE : CallE) (ρ : Arg → PV) (st : St) (key : Nat) (ck : Nat) (m : Arg) (k : Arg) (v : Arg) (Q : PV → St → Prop) : WV (Nag cfg callE ρ st key (.mapup ck m k v)) Q ↔ WV (match ρ m with
 | .mp j => match st.get j with
   | some (.map es) => (Na7 ck (ρ k) (ρ v) es).map fun es' => (.tup [], st.put j (some (.map es')))
   | _ => none
 | _ => none) Q := Iff.trans Iff.rfl Iff.rfl
theorem ZS (cfg : Cfg) (callE : CallE) (ρ : Arg → PV) (st : St) (key : Nat) (m : Arg) (Q : PV → St → Prop) : WV (Nag cfg callE ρ st key (.mlen m)) Q ↔ WV (match ρ m with
 | .nmp => some (.i .i64 0, st)
 | .mp j => match st.get j with
   | some (.map es) => some (.i .i64 es.length, st)
   | _ => none
 | _ => none) Q := Iff.trans Iff.rfl Iff.rfl
theorem ZT (cfg : Cfg) (callE : CallE) (ρ : Arg → PV) (st : St) (key : Nat) (x : Arg) (Q : PV → St → Prop) : WV (Nag cfg callE ρ st key (.srange x)) Q ↔ WV (match ρ x with
 | .s l => some (.ptr key 0, st.put key (some (.iter l 0)))
 | _ => none) Q := Iff.trans Iff.rfl Iff.rfl
theorem ZU (cfg : Cfg) (callE : CallE) (ρ : Arg → PV) (st : St) (key : Nat) (x : Arg) (Q : PV → St → Prop) : WV (Nag cfg callE ρ st key (.snext x)) Q ↔ WV (match ρ x with
 | .ptr k 0 => match st.get k with
   | some (.iter l p) => if p < l.length then some (.tup [.b true, .i .i64 p, .i .i32 (Utf8.decode ⟨l.toArray⟩ p).1], st.put k (some (.iter l (p + (Utf8.decode ⟨l.toArray⟩ p).2)))) else some (.tup [.b false], st)
   | _ => none
 | _ => none) Q := Iff.trans Iff.rfl Iff.rfl
theorem ZV (cfg : Cfg) (callE : CallE) (ρ : Arg → PV) (st : St) (key : Nat) (x : Arg) (Q : PV → St → Prop) : WV (Nag cfg callE ρ st key (.mark x)) Q ↔ WV (match ρ x with
 | .rsl k z off n => match st.get k with
   | some (.cells _ _) => some (.rsl k z off n, st)
   | _ => none
 | _ => none) Q := Iff.trans Iff.rfl Iff.rfl
theorem ZW (cfg : Cfg) (callE : CallE) (ρ : Arg → PV) (st : St) (key : Nat)  (Q : PV → St → Prop) : WV (Nag cfg callE ρ st key (.bad )) Q ↔ WV (none) Q := Iff.trans Iff.rfl Iff.rfl
theorem ZX (cfg : Cfg) (callE : CallE) (ρ : Arg → PV) (st : St) (key : Nat) (op : UnOp) (x : Arg) (Q : PV → St → Prop) : WV (Nag cfg callE ρ st key (.un op x)) Q ↔ WV ((unP op (ρ x)).map (·, st)) Q := Iff.trans Iff.rfl Iff.rfl
theorem ZY (cfg : Cfg) (callE : CallE) (ρ : Arg → PV) (st : St) (key : Nat) (c : Cv) (x : Arg) (Q : PV → St → Prop) : WV (Nag cfg callE ρ st key (.conv c x)) Q ↔ WV (match c, ρ x with
 | .int k, .i _ n => some (.i k (k.wrap n), st)
 | .same, .s l => some (.s l, st)
 | .s2b, .s l => if l.length ≤ maxBytes then some (.rsl key 1 0 l.length, st.put key (some (.cells (NaK l) false))) else none
 | .b2s, v => match cellsOf st 1 v with
   | some (_, cs) => (bytesOf? cs).map fun l => (.s l, st)
   | none => none
 | .up, .ptr k 0 => match st.get k with
   | some (.bld _) => some (.ptr k 0, st)
   | _ => none
 | .down Ts, .ptr k 0 => match st.get k with
   | some (.bld T) => if T ∈ Ts then some (.ptr k 0, st) else none
   | _ => none
 | _, _ => none) Q := Iff.trans Iff.rfl Iff.rfl
theorem ZZ (cfg : Cfg) (callE : CallE) (ρ : Arg → PV) (st : St) (key : Nat) (f : FuncId) (cap : List Arg) (Q : PV → St → Prop) : WV (Nag cfg callE ρ st key (.mkfn f cap)) Q ↔ WV (some (.fn f (cap.map ρ), st)) Q := Iff.trans Iff.rfl Iff.rfl
theorem Nr9 (cfg : Cfg) (callE : CallE) (ρ : Arg → PV) (st : St) (key : Nat) (f : FuncId) (pre : List Arg) (Q : PV → St → Prop) : WV (Nag cfg callE ρ st key (.mkbfn f pre)) Q ↔ WV (some (.bfn f (pre.map ρ), st)) Q := Iff.trans Iff.rfl Iff.rfl
theorem Nsa (cfg : Cfg) (callE : CallE) (ρ : Arg → PV) (st : St) (key : Nat) (sz : Nat) (bytes : Nat) (zero : List PV) (l : Arg) (Q : PV → St → Prop) : WV (Nag cfg callE ρ st key (.mkslice sz bytes zero l)) Q ↔ WV (match ρ l with
 | .i _ n => if 0 ≤ n ∧ n.toNat * bytes ≤ maxBytes ∧ 0 < bytes ∧ zero.length = sz ∧ 0 < sz then some (.rsl key sz 0 n.toNat, st.put key (some (.cells (List.flatten (List.replicate n.toNat zero)) false))) else none
 | _ => none) Q := Iff.trans Iff.rfl Iff.rfl
theorem Nsb (cfg : Cfg) (callE : CallE) (ρ : Arg → PV) (st : St) (key : Nat) (N : Nat) (sz : Nat) (x : Arg) (lo : Option Arg) (hi : Option Arg) (Q : PV → St → Prop) : WV (Nag cfg callE ρ st key (.slice (some N) sz x lo hi)) Q ↔ WV (match ρ x with
 | .ptr k off => match NaH (hi.map ρ) N N, st.get k with
   | some h, some (.cells cs _) => match NaH (lo.map ρ) 0 h with
     | some l => if l < N ∧ 0 < sz ∧ off + N * sz ≤ cs.length ∧ N < 4294967296 then some (.rsl k sz (off + l * sz) (h - l), st) else none
     | none => none
   | _, _ => none
 | _ => none) Q := Iff.trans Iff.rfl Iff.rfl
theorem Nsc (cfg : Cfg) (callE : CallE) (ρ : Arg → PV) (st : St) (key : Nat) (sz : Nat) (x : Arg) (lo : Option Arg) (hi : Option Arg) (Q : PV → St → Prop) : WV (Nag cfg callE ρ st key (.slice none sz x lo hi)) Q ↔ WV ((NbS sz (lo.map ρ) (hi.map ρ) (ρ x)).map (·, st)) Q := Iff.trans Iff.rfl Iff.rfl
theorem Nsd (cfg : Cfg) (callE : CallE) (ρ : Arg → PV) (st : St) (key : Nat) (x : Arg) (lo : Option Arg) (hi : Option Arg) (Q : PV → St → Prop) : WV (Nag cfg callE ρ st key (.substr x lo hi)) Q ↔ WV (match ρ x with
 | .s l => match NaH (hi.map ρ) l.length l.length with
   | some h => match NaH (lo.map ρ) 0 h with
     | some k => some (.s ((l.drop k).take (h - k)), st)
     | none => none
   | none => none
 | _ => none) Q := Iff.trans Iff.rfl Iff.rfl
theorem Nse (cfg : Cfg) (callE : CallE) (ρ : Arg → PV) (st : St) (key : Nat) (off : Nat) (x : Arg) (Q : PV → St → Prop) : WV (Nag cfg callE ρ st key (.fieldAddr off x)) Q ↔ WV (match ρ x with
 | .ptr k o => some (.ptr k (o + off), st)
 | .fptr cs => some (.fptr (cs.drop off), st)
 | _ => none) Q := Iff.trans Iff.rfl Iff.rfl
theorem Nsf (cfg : Cfg) (callE : CallE) (ρ : Arg → PV) (st : St) (key : Nat) (agg : Bool) (off : Nat) (n : Nat) (x : Arg) (Q : PV → St → Prop) : WV (Nag cfg callE ρ st key (.field agg off n x)) Q ↔ WV (match ρ x with
 | .agg cs => match cut? cs off n with
   | some l => (Naa agg l).map (·, st)
   | none => none
 | _ => none) Q := Iff.trans Iff.rfl Iff.rfl
theorem Nsg (cfg : Cfg) (callE : CallE) (ρ : Arg → PV) (st : St) (key : Nat) (N : Nat) (sz : Nat) (x : Arg) (i : Arg) (Q : PV → St → Prop) : WV (Nag cfg callE ρ st key (.indexAddr (some N) sz x i)) Q ↔ WV (match ρ x, ρ i with
 | .ptr k o, .i _ j => if 0 ≤ j ∧ j < N then some (.ptr k (o + j.toNat * sz), st) else none
 | .fptr cs, .i _ j => if 0 ≤ j ∧ j < N then some (.fptr (cs.drop (j.toNat * sz)), st) else none
 | _, _ => none) Q := Iff.trans Iff.rfl Iff.rfl
theorem Nsh (cfg : Cfg) (callE : CallE) (ρ : Arg → PV) (st : St) (key : Nat) (sz : Nat) (x : Arg) (i : Arg) (Q : PV → St → Prop) : WV (Nag cfg callE ρ st key (.indexAddr none sz x i)) Q ↔ WV (match ρ x, ρ i with
 | .rsl k z off n, .i _ j => if z = sz ∧ 0 ≤ j ∧ j < n then some (.ptr k (off + j.toNat * sz), st) else none
 | .fsl n cs, .i _ j => if cs.length = n * sz ∧ 0 < sz ∧ 0 ≤ j ∧ j < n then some (.fptr (cs.drop (j.toNat * sz)), st) else none
 | _, _ => none) Q := Iff.trans Iff.rfl Iff.rfl
theorem Nsi (cfg : Cfg) (callE : CallE) (ρ : Arg → PV) (st : St) (key : Nat) (len : Nat) (agg : Bool) (n : Nat) (x : Arg) (i : Arg) (Q : PV → St → Prop) : WV (Nag cfg callE ρ st key (.index len agg n x i)) Q ↔ WV (match ρ x, ρ i with
 | .agg cs, .i _ j => if 0 ≤ j ∧ j < len then match cut? cs (j.toNat * n) n with
  | some l => (Naa agg l).map (·, st)
  | none => none
   else none
 | _, _ => none) Q := Iff.trans Iff.rfl Iff.rfl
theorem NsH (cfg : Cfg) (callE : CallE) (ρ : Arg → PV) (st : St) (key : Nat) (x : Arg) (i : Arg) (Q : PV → St → Prop) : WV (Nag cfg callE ρ st key (.sindex x i)) Q ↔ WV (match ρ x, ρ i with
 | .s l, .i _ j => if 0 ≤ j then (l[j.toNat]?).map fun c => (.i .u8 c.toNat, st) else none
 | _, _ => none) Q := Iff.trans Iff.rfl Iff.rfl
theorem NsI (cfg : Cfg) (callE : CallE) (ρ : Arg → PV) (st : St) (key : Nat) (i : Nat) (x : Arg) (Q : PV → St → Prop) : WV (Nag cfg callE ρ st key (.extract i x)) Q ↔ WV (match ρ x with
 | .tup vs => (vs[i]?).map (·, st)
 | _ => none) Q := Iff.trans Iff.rfl Iff.rfl
theorem NsJ (cfg : Cfg) (callE : CallE) (ρ : Arg → PV) (st : St) (key : Nat) (f : FuncId) (own : Bool) (args : List Arg) (Q : PV → St → Prop) : WV (Nag cfg callE ρ st key (.call f own args)) Q ↔ WV (Nar (Naq cfg callE f) own st key (args.map ρ)) Q := Iff.trans Iff.rfl Iff.rfl
theorem NsK (cfg : Cfg) (callE : CallE) (ρ : Arg → PV) (st : St) (key : Nat) (f : FuncId) (args : List Arg) (Q : PV → St → Prop) : WV (Nag cfg callE ρ st key (.calle f args)) Q ↔ WV (match cfg.ext f with
 | some _ => none
 | none => callE f (args.map ρ) st) Q := Iff.trans Iff.rfl Iff.rfl
theorem NsL (cfg : Cfg) (callE : CallE) (ρ : Arg → PV) (st : St) (key : Nat) (f : FuncId) (args : List Arg) (Q : PV → St → Prop) : WV (Nag cfg callE ρ st key (.callq f args)) Q ↔ WV (match Nbd st (args.map ρ) with
 | some l => match Naq cfg callE f l with
   | some r => if r.closedB then Nav st key r else none
   | none => none
 | none => none) Q := Iff.trans Iff.rfl Iff.rfl
theorem NsM (cfg : Cfg) (callE : CallE) (ρ : Arg → PV) (st : St) (key : Nat) (f : Arg) (args : List Arg) (Q : PV → St → Prop) : WV (Nag cfg callE ρ st key (.callv f args)) Q ↔ WV (match ρ f with
 | .fn g cap => match cfg.ext g with
   | some _ => none
   | none => callE g (args.map ρ ++ cap) st
 | .bfn g pre => match cfg.ext g with
   | some _ => none
   | none => callE g (pre ++ args.map ρ) st
 | _ => none) Q := Iff.trans Iff.rfl Iff.rfl
theorem NsN (cfg : Cfg) (callE : CallE) (ρ : Arg → PV) (st : St) (key : Nat) (sz : Nat) (bytes : Nat) (s : Arg) (x : Arg) (Q : PV → St → Prop) : WV (Nag cfg callE ρ st key (.append sz bytes s x)) Q ↔ WV (match cellsOf st sz (ρ x) with
 | some (m, news) => if 0 < sz ∧ 0 < bytes ∧ news.all PV.one then NaN st key sz bytes m news (ρ s) else none
 | none => none) Q := Iff.trans Iff.rfl Iff.rfl
theorem NsO (cfg : Cfg) (callE : CallE) (ρ : Arg → PV) (st : St) (key : Nat) (s : Arg) (x : Arg) (Q : PV → St → Prop) : WV (Nag cfg callE ρ st key (.appstr s x)) Q ↔ WV (match ρ x with
 | .s l => NaN st key 1 1 l.length (NaK l) (ρ s)
 | _ => none) Q := Iff.trans Iff.rfl Iff.rfl
theorem NsP (cfg : Cfg) (callE : CallE) (ρ : Arg → PV) (st : St) (key : Nat) (x : Arg) (Q : PV → St → Prop) : WV (Nag cfg callE ρ st key (.len x)) Q ↔ WV ((Nih (ρ x)).map (·, st)) Q := Iff.trans Iff.rfl Iff.rfl
theorem NsQ (cfg : Cfg) (callE : CallE) (ρ : Arg → PV) (st : St) (key : Nat) (x : Arg) (Q : PV → St → Prop) : WV (Nag cfg callE ρ st key (.slen x)) Q ↔ WV (match ρ x with
 | .s l => some (.i .i64 l.length, st)
 | _ => none) Q := Iff.trans Iff.rfl Iff.rfl
theorem NsR (cfg : Cfg) (callE : CallE) (ρ : Arg → PV) (st : St) (key : Nat) (n : Nat) (Q : PV → St → Prop) : WV (Nag cfg callE ρ st key (.alen n)) Q ↔ WV (some (.i .i64 n, st)) Q := Iff.trans Iff.rfl Iff.rfl
theorem NsS (cfg : Cfg) (callE : CallE) (ρ : Arg → PV) (st : St) (key : Nat) (sz : Nat) (d : Arg) (s : Arg) (Q : PV → St → Prop) : WV (Nag cfg callE ρ st key (.copy sz d s)) Q ↔ WV (match cellsOf st sz (ρ s) with
 | some (m, cs) => NbO st sz m cs (ρ d)
 | none => none) Q := Iff.trans Iff.rfl Iff.rfl
theorem NsT (cfg : Cfg) (callE : CallE) (ρ : Arg → PV) (st : St) (key : Nat) (x : Arg) (ys : List Arg) (Q : PV → St → Prop) : WV (Nag cfg callE ρ st key (.min x ys)) Q ↔ WV ((Nm5 (ρ x) (ys.map ρ)).map (·, st)) Q := Iff.trans Iff.rfl Iff.rfl
theorem Z0n_ (cfg : Cfg) (callE : CallE) (ρ : Arg → PV) (st : St) (key : Nat) (x : Arg) (ys : List Arg) (Q : PV → St → Prop) : WV (Nag cfg callE ρ st key (.max x ys)) Q ↔ WV ((NnU (ρ x) (ys.map ρ)).map (·, st)) Q := Iff.trans Iff.rfl Iff.rfl
end Go.Pe
set_option linter.unusedVariables false
set_option linter.unusedSimpArgs false
namespace Go.Pe
open Go

noncomputable def Nqs (o : Option PObj) (n off : Nat) : Option (List PV) := match o with
 | some (.cells cs _) => cut? cs off n
 | some (.bld _) => cut? [.nptr, .nsl] off n
 | _ => none
theorem Nsj (st : St) (n k off : Nat) : NaY st n (.ptr k off) = Nqs (st.get k) n off := Eq.trans rfl rfl
theorem Nsk (cs : List PV) (fz : Bool) (n off : Nat) : Nqs (some (.cells cs fz)) n off = cut? cs off n := Eq.trans rfl rfl
theorem Nsl (st : St) (n : Nat) (cs : List PV) : NaY st n (.fptr cs) = cut? cs 0 n := Eq.trans rfl rfl
noncomputable def Nnc (st : St) (k : Nat) (o : Option PObj) (n off : Nat) (v : PV) : Option St := match o with
 | some (.cells cs false) => if v.cells.length = n ∧ off + n ≤ cs.length ∧ v.cells.all PV.one then some (st.put k (some (.cells (cs.take off ++ v.cells ++ cs.drop (off + n)) false))) else none
 | some (.bld _) => match v with
   | .ptr j 0 => if j = k ∧ off = 0 ∧ n = 1 then some (st.put k (some (.cells [.ptr k 0, .nsl] false))) else none
   | _ => none
 | _ => none
theorem Nsm (st : St) (n k off : Nat) (v : PV) : Nax st n (.ptr k off) v = Nnc st k (st.get k) n off v := Eq.trans rfl rfl
theorem Nsn (st : St) (k : Nat) (cs : List PV) (n off : Nat) (v : PV) : Nnc st k (some (.cells cs false)) n off v = if v.cells.length = n ∧ off + n ≤ cs.length ∧ v.cells.all PV.one then some (st.put k (some (.cells (cs.take off ++ v.cells ++ cs.drop (off + n)) false))) else none := Eq.trans rfl rfl
theorem Nso (st : St) (k : Nat) (o : Option PObj) : (st.put k o).get k = o := St.get_putk st k o
theorem Nsp (st : St) (k k' : Nat) (o : Option PObj) (h : k ≠ k') : (st.put k o).get k' = st.get k' := St.get_put_ne h
theorem Nsq (st : St) (c k : Nat) : St.get ⟨st.sto, c⟩ k = st.get k := Eq.trans rfl rfl
theorem Nsr (c k : Nat) : St.get ⟨.leaf, c⟩ k = none := Eq.trans rfl rfl
theorem Nss (st : St) (k : Nat) (o : Option PObj) : (st.put k o).cnt = st.cnt := Eq.trans rfl rfl
theorem Nst (s : Trie PObj) (c : Nat) : (⟨s, c⟩ : St).cnt = c := Eq.trans rfl rfl
theorem Nsu (cs : List PV) : (PV.agg cs).cells = cs := Eq.trans rfl rfl
theorem Nsv (k : IntKind) (n : Int) : (PV.i k n).cells = [.i k n] := Eq.trans rfl rfl
theorem Nsw (x : Bool) : (PV.b x).cells = [.b x] := Eq.trans rfl rfl
theorem Nsx (l : List UInt8) : (PV.s l).cells = [.s l] := Eq.trans rfl rfl
theorem Nsy : PV.nsl.cells = [.nsl] := Eq.trans rfl rfl
theorem Nsz (n : Nat) (l : List PV) : (PV.fsl n l).cells = [.fsl n l] := Eq.trans rfl rfl
theorem NsA (a b c d : Nat) : (PV.rsl a b c d).cells = [.rsl a b c d] := Eq.trans rfl rfl
theorem NsB (a b : Nat) : (PV.ptr a b).cells = [.ptr a b] := Eq.trans rfl rfl
theorem NsC (a : Nat) : (PV.mp a).cells = [.mp a] := Eq.trans rfl rfl
theorem NsD (k : IntKind) (n : Int) : (PV.i k n).one = true := Eq.trans rfl rfl
theorem NsE (x : Bool) : (PV.b x).one = true := Eq.trans rfl rfl
theorem NsF (l : List UInt8) : (PV.s l).one = true := Eq.trans rfl rfl
theorem NsG : PV.nsl.one = true := Eq.trans rfl rfl
theorem NsV (n : Nat) (l : List PV) : (PV.fsl n l).one = true := Eq.trans rfl rfl
theorem NsW (a b c d : Nat) : (PV.rsl a b c d).one = true := Eq.trans rfl rfl
theorem NsX (a b : Nat) : (PV.ptr a b).one = true := Eq.trans rfl rfl
theorem NsY (a : Nat) : (PV.mp a).one = true := Eq.trans rfl rfl
theorem NsZ : PV.nptr.one = true := Eq.trans rfl rfl
theorem Ns0 : PV.nmp.one = true := Eq.trans rfl rfl
theorem Ns1 (cs : List PV) (off n : Nat) : cut? cs off n = if off + n ≤ cs.length then some ((cs.drop off).take n) else none := Eq.trans rfl rfl
theorem Ns2 (cs : List PV) : NaG cs [] = some cs := by unfold NaG; rfl
theorem Ns3 (cs : List PV) (off n : Nat) (v : PV) (r : List (Nat × Nat × PV)) : NaG cs ((off, n, v) :: r) = if v.cells.length = n ∧ off + n ≤ cs.length ∧ v.cells.all PV.one then NaG (cs.take off ++ v.cells ++ cs.drop (off + n)) r else none := by rw [NaG]
theorem Ns4 (xs ys : List PV) : Neu [] xs ys = some true := by unfold Neu; rfl
def eqC (r : Option Bool) (k : Option Bool) : Option Bool := match r with
 | some true => k
 | some false => some false
 | none => none
def Nrs (ck : Nat) (p q : Option PV) : Option Bool := match p, q with
 | some p, some q => eq1 ck p q
 | _, _ => none
theorem Ns5 (o ck : Nat) (r : List (Nat × Nat)) (xs ys : List PV) : Neu ((o, ck) :: r) xs ys = eqC (Nrs ck xs[o]? ys[o]?) (Neu r xs ys) := by
 rw [Neu]
 unfold eqC Nrs
 cases xs[o]? <;> cases ys[o]? <;> simp
 rename_i p q
 cases eq1 ck p q with
 | none => rfl
 | some b => cases b <;> rfl
theorem Ns6 (k : Option Bool) : eqC (some true) k = k := Eq.trans rfl rfl
theorem Ns7 (k : Option Bool) : eqC (some false) k = some false := Eq.trans rfl rfl
theorem Ns8 (ck : Nat) (p q : PV) : Nrs ck (some p) (some q) = eq1 ck p q := Eq.trans rfl rfl
theorem Ns9 (k : IntKind) (a c : Int) : eq1 0 (.i k a) (.i k c) = some (a == c) := by simp [eq1]
theorem Nta (x y : Bool) : eq1 1 (.b x) (.b y) = some (x == y) := by simp [eq1]
theorem Ntb (x y : List UInt8) : eq1 2 (.s x) (.s y) = some (x == y) := by simp [eq1]
theorem Ntc : (true != false) = true := Eq.trans rfl rfl
theorem Ntd : (false != false) = false := Eq.trans rfl rfl
theorem Nte : (true != true) = false := Eq.trans rfl rfl
theorem Z1k_ : (false != true) = true := Eq.trans rfl rfl
theorem Za {cfg : Cfg} {callE : CallE} {n : Nat} {a b : MCode} {x : Now} {Q : MExit → Now → Prop} (R : Now → Prop) (h : WC cfg callE n a x fun e x' => e = .nrm ∧ R x') (k : ∀ x', R x' → WC cfg callE n b x' Q) : WC cfg callE n (.seq a b) x Q := by
 rw [Z0]
 refine h.mono ?_
 rintro e x' ⟨rfl, hr⟩
 exact k x' hr
theorem Nel {P : Program} {Gl : Gmap} {cfg : Cfg} (hc : CfgOK P Gl cfg) {f : FuncId} {g : List PV → Option PV} (h : ∀ args r, g args = some r → ∃ fuel, evP cfg fuel f args = some r) : Na1 P Gl f g := by
 intro args r hr
 obtain ⟨fuel, hf⟩ := h args r hr
 exact Nfn hc fuel _ args r hf
theorem Np4 {cfg : Cfg} {f : FuncId} (hx : cfg.ext f = none) {fuel : Nat} {args : List PV} {r : PV} (ho : Nas args = (args, { sto := .leaf, cnt := 1 })) (h : ∃ r' st', Nba cfg fuel f args { sto := .leaf, cnt := 1 } = some (r', st') ∧ NaU st' r' = some r) : evP cfg fuel f args = some r := by
 obtain ⟨r', st', h1, h2⟩ := h
 unfold evP Naq
 simp only [hx]
 unfold Nd1
 rw [ho, h1]
 exact h2
end Go.Pe
set_option linter.unusedVariables false
set_option linter.unusedSimpArgs false
namespace Go.Pe
open Go Go.Am Go.RowKit

theorem NfL (c : UInt8) : ∀ (l : List UInt8) (n : Nat), Ndu c l n = if Lib.indexByte l c = -1 then -1 else Lib.indexByte l c + n
 | [], n => by simp [Ndu, Lib.indexByte]
 | b :: l, n => by
   have h := Lib.indexByte_ge l c
   unfold Ndu Lib.indexByte
   by_cases hb : b = c
   ·simp [hb]
   ·rw [NfL c l (n + 1)]
    by_cases h1 : Lib.indexByte l c = -1
    ·simp [hb, h1]
    ·have h2 : ¬ (Lib.indexByte l c + 1 = -1) := by omega
     simp [hb, h1, h2]
     omega
theorem Nd6 (c : UInt8) : ∀ (l : List UInt8) (n : Nat), NeQ c l n = l.count c + n
 | [], n => by simp [NeQ]
 | b :: l, n => by
   unfold NeQ
   rw [Nd6 c l]
   by_cases hb : b = c
   ·simp [hb]; omega
   ·simp [hb, List.count_cons]
theorem Nfv (sub : List UInt8) : ∀ (l : List UInt8), Nfu sub l = Lib.contains l sub
 | [] => by
   unfold Nfu Lib.contains Lib.index
   cases sub <;> simp
 | b :: l => by
   have h := Lib.index_ge l sub
   unfold Nfu
   rw [Nfv sub l]
   unfold Lib.contains
   rw [Lib.index]
   by_cases hb : sub.isPrefixOf (b :: l) = true
   ·simp [hb]
   ·by_cases h1 : Lib.index l sub = -1
    ·simp [hb, h1]
    ·simp [hb, h1]
     omega
theorem FC.two {F : Nat → Nat → Option Value} {vs : List Value} {p q : PV} (h : FC F vs [p, q]) : ∃ u v, vs = [u, v] ∧ FRel F u p ∧ FRel F v q := by
 match vs, h with
 | [u, v], h => exact ⟨u, v, rfl, h.2 0 u p rfl rfl, h.2 1 v q rfl rfl⟩
 | [], h => have := h.1; simp at this
 | [_], h => have := h.1; simp at this
 | _ :: _ :: _ :: _, h => have := h.1; simp at this
theorem FRel.s_inv {F : Nat → Nat → Option Value} {v : Value} {l : List UInt8} (h : FRel F v (.s l)) : v = .string ⟨l.toArray⟩ := by cases h; rfl
theorem FRel.i_inv {F : Nat → Nat → Option Value} {v : Value} {k : IntKind} {n : Int} (h : FRel F v (.i k n)) : v = .int k n := by cases h; rfl
theorem Nd7 {P : Program} {Gl : Gmap} {f : FuncId} {gb : Nat} {m : Int} (hg : Gl gb 0 = some (.int .i64 m)) (hc : ∀ (s sub : ByteArray) (m : Int) (w : World), s.size < 4294967281 → w.cell? ⟨gb, 0, none⟩ = some (.int .i64 m) →
 Calls P f #[.string s, .string sub] w fun e w' => e = .returned (.bool (Lib.contains s.data.toList sub.data.toList)) ∧ w' = w) : Na1 P Gl f gContains := by
 refine Nb4 fun args r hr => ?_
 unfold gContains at hr
 split at hr
 ·rename_i a b
  split at hr
  ·rename_i hl
   simp only [Sj] at hr
   subst hr
   refine ⟨rfl, rfl, fun vs F w hw hf => ?_⟩
   obtain ⟨u, v, rfl, hu, hv⟩ := hf.two
   rw [hu.s_inv, hv.s_inv]
   refine (hc ⟨a.toArray⟩ ⟨b.toArray⟩ m w (by simpa [ByteArray.size] using hl) (hw _ _ _ hg)).mono ?_
   rintro e w' ⟨rfl, rfl⟩
   exact ⟨_, rfl, by rw [Nfv]; exact .b _, rfl⟩
  ·simp at hr
 ·simp at hr
theorem Niu {P : Program} {Gl : Gmap} {f : FuncId} (hc : ∀ (s : ByteArray) (c : UInt8) (w : World),
 Calls P f #[.string s, .string ⟨#[c]⟩] w fun e w' => e = .returned (.int .i64 (Lib.countByte s.data.toList c)) ∧ w' = w) : Na1 P Gl f gCount := by
 refine Nb4 fun args r hr => ?_
 unfold gCount at hr
 split at hr
 ·rename_i a c
  simp only [Sj] at hr
  subst hr
  refine ⟨rfl, rfl, fun vs F w hw hf => ?_⟩
  obtain ⟨u, v, rfl, hu, hv⟩ := hf.two
  rw [hu.s_inv, hv.s_inv]
  refine (hc ⟨a.toArray⟩ c w).mono ?_
  rintro e w' ⟨rfl, rfl⟩
  exact ⟨_, rfl, by rw [Nd6]; exact .i _ _, rfl⟩
 ·simp at hr
theorem NdI {P : Program} {Gl : Gmap} {f : FuncId} (hc : ∀ (s : ByteArray) (c : Int) (w : World),
 Calls P f #[.string s, .int .u8 c] w fun e w' => e = .returned (.int .i64 (Lib.indexByte s.data.toList c.toNat.toUInt8)) ∧ w' = w) : Na1 P Gl f gIndexByte := by
 refine Nb4 fun args r hr => ?_
 unfold gIndexByte at hr
 split at hr
 ·rename_i a c
  simp only [Sj] at hr
  subst hr
  refine ⟨rfl, rfl, fun vs F w hw hf => ?_⟩
  obtain ⟨u, v, rfl, hu, hv⟩ := hf.two
  rw [hu.s_inv, hv.i_inv]
  refine (hc ⟨a.toArray⟩ c w).mono ?_
  rintro e w' ⟨rfl, rfl⟩
  refine ⟨_, rfl, ?_, rfl⟩
  have : Ndu c.toNat.toUInt8 a 0 = Lib.indexByte a c.toNat.toUInt8 := by
   rw [NfL]
   split
   ·rename_i h; rw [h]
   ·simp
  rw [this]; exact .i _ _
 ·simp at hr
theorem Xp : type_of% @Z1 ∧ type_of% @Z2 ∧ type_of% @Z3 ∧ type_of% @Z4 ∧ type_of% @Z5 ∧ type_of% @Z6 ∧ type_of% @Z7 ∧ type_of% @Zb ∧ type_of% @Zc ∧ type_of% @Ze ∧ type_of% @Zf ∧ type_of% @Zg ∧ type_of% @Zh ∧ type_of% @Zi ∧ type_of% @Zm ∧ type_of% @Zn ∧ type_of% @Zj ∧ type_of% @Zq ∧ type_of% @Zr ∧ type_of% @Zx ∧ type_of% @Zy ∧ type_of% @Zz ∧ type_of% @ZA ∧ type_of% @ZB ∧ type_of% @ZC ∧ type_of% @ZD ∧ type_of% @ZE ∧ type_of% @ZF ∧ type_of% @ZG ∧ type_of% @ZH ∧ type_of% @ZI ∧ type_of% @ZJ ∧ type_of% @ZK ∧ type_of% @ZL ∧ type_of% @ZM ∧ type_of% @ZN ∧ type_of% @ZO ∧ type_of% @ZP ∧ type_of% @ZQ ∧ type_of% @ZR ∧ type_of% @ZS ∧ type_of% @ZT ∧ type_of% @ZU ∧ type_of% @ZV ∧ type_of% @ZW ∧ type_of% @ZX ∧ type_of% @ZY ∧ type_of% @ZZ ∧ type_of% @Nr9 ∧ type_of% @Nsa ∧ type_of% @Nsb ∧ type_of% @Nsc ∧ type_of% @Nsd ∧ type_of% @Nse ∧ type_of% @Nsf ∧ type_of% @Nsg ∧ type_of% @Nsh ∧ type_of% @Nsi ∧ type_of% @NsH ∧ type_of% @NsI ∧ type_of% @NsJ ∧ type_of% @NsK ∧ type_of% @NsL ∧ type_of% @NsM ∧ type_of% @NsN ∧ type_of% @NsO ∧ type_of% @NsP ∧ type_of% @NsQ ∧ type_of% @NsR ∧ type_of% @NsS ∧ type_of% @NsT ∧ type_of% @Z0n_ := ⟨@Z1, @Z2, @Z3, @Z4, @Z5, @Z6, @Z7, @Zb, @Zc, @Ze, @Zf, @Zg, @Zh, @Zi, @Zm, @Zn, @Zj, @Zq, @Zr, @Zx, @Zy, @Zz, @ZA, @ZB, @ZC, @ZD, @ZE, @ZF, @ZG, @ZH, @ZI, @ZJ, @ZK, @ZL, @ZM, @ZN, @ZO, @ZP, @ZQ, @ZR, @ZS, @ZT, @ZU, @ZV, @ZW, @ZX, @ZY, @ZZ, @Nr9, @Nsa, @Nsb, @Nsc, @Nsd, @Nse, @Nsf, @Nsg, @Nsh, @Nsi, @NsH, @NsI, @NsJ, @NsK, @NsL, @NsM, @NsN, @NsO, @NsP, @NsQ, @NsR, @NsS, @NsT, @Z0n_⟩
theorem Xt : type_of% @Nq3 ∧ type_of% @Nq4 ∧ type_of% @Nq5 ∧ type_of% @Nq6 ∧ type_of% @Nq7 ∧ type_of% @Z0A_ := ⟨@Nq3, @Nq4, @Nq5, @Nq6, @Nq7, @Z0A_⟩
theorem Xq : type_of% @Z1 ∧ type_of% @Z7 ∧ type_of% @Zb ∧ type_of% @Zc ∧ type_of% @Ze ∧ type_of% @Zf ∧ type_of% @Zg ∧ type_of% @Zh ∧ type_of% @Zi ∧ type_of% @Zm ∧ type_of% @Zn ∧ type_of% @Zo ∧ type_of% @Zj ∧ type_of% @Zq ∧ type_of% @Zr ∧ type_of% @Zx ∧ type_of% @Zz ∧ type_of% @Nq1 ∧ type_of% @NpW ∧ type_of% @Nq2 ∧ type_of% @Nrk ∧ type_of% @Nrl ∧ type_of% @Nrm ∧ type_of% @Nq3 ∧ type_of% @Nq4 ∧ type_of% @Nq5 ∧ type_of% @Nq6 ∧ type_of% @Nq7 ∧ type_of% @Z0A_ ∧ type_of% @Env.get_put ∧ type_of% @Env.get_leaf ∧ type_of% @map_some ∧ type_of% @ZA ∧ type_of% @Z0B_ := ⟨@Z1, @Z7, @Zb, @Zc, @Ze, @Zf, @Zg, @Zh, @Zi, @Zm, @Zn, @Zo, @Zj, @Zq, @Zr, @Zx, @Zz, @Nq1, @NpW, @Nq2, @Nrk, @Nrl, @Nrm, @Nq3, @Nq4, @Nq5, @Nq6, @Nq7, @Z0A_, @Env.get_put, @Env.get_leaf, @map_some, @ZA, @Z0B_⟩
theorem Xc : type_of% @List.length_cons.{0} ∧ type_of% @List.length_nil.{0} ∧ type_of% @Nat.add_assoc ∧ type_of% @ne_eq.{1} ∧ type_of% @not_true_eq_false ∧ type_of% @decide_eq_true_eq ∧ type_of% @decide_true ∧ type_of% @decide_false ∧ type_of% @Bool.false_eq_true ∧ type_of% @Int.toNat_natCast ∧ type_of% @and_true ∧ type_of% @true_and ∧ type_of% @Bool.not_true ∧ type_of% @Bool.not_false ∧ type_of% @Option.map_none.{0, 0} ∧ type_of% @List.map_cons.{0, 0} ∧ type_of% @List.map_nil.{0, 0} ∧ type_of% @eq_self_iff_true.{1} ∧ type_of% @Bool.true_eq_false := ⟨@List.length_cons.{0}, @List.length_nil.{0}, @Nat.add_assoc, @ne_eq.{1}, @not_true_eq_false, @decide_eq_true_eq, @decide_true, @decide_false, @Bool.false_eq_true, @Int.toNat_natCast, @and_true, @true_and, @Bool.not_true, @Bool.not_false, @Option.map_none.{0, 0}, @List.map_cons.{0, 0}, @List.map_nil.{0, 0}, @eq_self_iff_true.{1}, @Bool.true_eq_false⟩
theorem Xm : type_of% @Nsj ∧ type_of% @Nsk ∧ type_of% @Nsl ∧ type_of% @Nsm ∧ type_of% @Nsn ∧ type_of% @Nso ∧ type_of% @Nsp ∧ type_of% @Nsq ∧ type_of% @Nsr ∧ type_of% @Nss ∧ type_of% @Nst ∧ type_of% @Nsu ∧ type_of% @Nsv ∧ type_of% @Nsw ∧ type_of% @Nsx ∧ type_of% @Nsy ∧ type_of% @Nsz ∧ type_of% @NsA ∧ type_of% @NsB ∧ type_of% @NsC ∧ type_of% @NsD ∧ type_of% @NsE ∧ type_of% @NsF ∧ type_of% @NsG ∧ type_of% @NsV ∧ type_of% @NsW ∧ type_of% @NsX ∧ type_of% @NsY ∧ type_of% @NsZ ∧ type_of% @Ns0 ∧ type_of% @Ns1 ∧ type_of% @Ns2 ∧ type_of% @Ns3 ∧ type_of% @Ns4 ∧ type_of% @Ns5 ∧ type_of% @Ns6 ∧ type_of% @Ns7 ∧ type_of% @Ns8 ∧ type_of% @Ns9 ∧ type_of% @Nta ∧ type_of% @Ntb ∧ type_of% @List.take_succ_cons.{0} ∧ type_of% @List.take_zero.{0} ∧ type_of% @List.drop_succ_cons.{0} ∧ type_of% @List.drop_zero.{0} ∧ type_of% @List.cons_append.{0} ∧ type_of% @List.nil_append.{0} ∧ type_of% @List.append_nil.{0} ∧ type_of% @List.all_cons.{0} ∧ type_of% @List.all_nil.{0} ∧ type_of% @Bool.and_self ∧ type_of% @Bool.and_true ∧ type_of% @Bool.true_and ∧ type_of% @Nat.zero_add ∧ type_of% @Nat.add_zero ∧ type_of% @Nat.le_refl ∧ type_of% @List.getElem?_cons_zero.{0} ∧ type_of% @List.getElem?_cons_succ.{0} ∧ type_of% @Nat.add_left_cancel_iff ∧ type_of% @Nat.left_eq_add ∧ type_of% @Nat.add_eq_left ∧ type_of% @not_false_eq_true ∧ type_of% @Ntc ∧ type_of% @Ntd ∧ type_of% @Nte ∧ type_of% @Z1k_ := ⟨@Nsj, @Nsk, @Nsl, @Nsm, @Nsn, @Nso, @Nsp, @Nsq, @Nsr, @Nss, @Nst, @Nsu, @Nsv, @Nsw, @Nsx, @Nsy, @Nsz, @NsA, @NsB, @NsC, @NsD, @NsE, @NsF, @NsG, @NsV, @NsW, @NsX, @NsY, @NsZ, @Ns0, @Ns1, @Ns2, @Ns3, @Ns4, @Ns5, @Ns6, @Ns7, @Ns8, @Ns9, @Nta, @Ntb, @List.take_succ_cons.{0}, @List.take_zero.{0}, @List.drop_succ_cons.{0}, @List.drop_zero.{0}, @List.cons_append.{0}, @List.nil_append.{0}, @List.append_nil.{0}, @List.all_cons.{0}, @List.all_nil.{0}, @Bool.and_self, @Bool.and_true, @Bool.true_and, @Nat.zero_add, @Nat.add_zero, @Nat.le_refl, @List.getElem?_cons_zero.{0}, @List.getElem?_cons_succ.{0}, @Nat.add_left_cancel_iff, @Nat.left_eq_add, @Nat.add_eq_left, @not_false_eq_true, @Ntc, @Ntd, @Nte, @Z1k_⟩
end Go.Pe
