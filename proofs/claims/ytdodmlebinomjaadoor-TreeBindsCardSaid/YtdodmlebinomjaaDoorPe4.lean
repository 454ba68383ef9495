/-
 The interpreter of plain data, quick for the kernel; a logic for it; the library's functions; memory. No condition; nothing of the program.
-/
import Derived.Test.YtdodmlebinomjaaDoorPe3
import Derived.Laws.BitsLemmas
import Derived.Laws.Bits64
import Derived.Lib.Bytealg
import Derived.Lib.IndexMore
set_option linter.unusedVariables false
set_option linter.unusedSimpArgs false
namespace Go.Pe
open Go
noncomputable section
abbrev FArm := Cfg → CallE → (Arg → PV) → St → Nat → Option (PV × St)
def NkF (x : Arg) : FArm := fun cfg callE ρ st key => some (ρ x, st)
def Nh8 (c a b : Arg) : FArm := fun cfg callE ρ st key => match ρ c with
    | .b x => some (if x then ρ a else ρ b, st)
    | _ => none
def Ng0 (zero : List PV) : FArm := fun cfg callE ρ st key => some (.ptr key 0, st.put key (some (.cells zero false)))
def NiX (x : Arg) : FArm := fun cfg callE ρ st key => if (ρ x).cells.all PV.one then some (.ptr key 0, st.put key (some (.cells (ρ x).cells false))) else none
def Ng2 (zero : List PV) (parts : List (Nat × Nat × Arg)) : FArm := fun cfg callE ρ st key => (NaA zero (parts.map fun p => (p.1, p.2.1, ρ p.2.2))).map fun cs => (.agg cs, st)
def Nf1 (len sz : Nat) (zero : List PV) (parts : List (Nat × Nat × Arg)) : FArm := fun cfg callE ρ st key => match NaA zero (parts.map fun p => (p.1, p.2.1, ρ p.2.2)) with
    | some cs => if 0 < sz ∧ cs.length = len * sz then some (.rsl key sz 0 len, st.put key (some (.cells cs false))) else none
    | none => none
def Nh4 (agg : Bool) (n : Nat) (a : Arg) : FArm := fun cfg callE ρ st key => match NaY st n (ρ a) with
    | some cs => (Nab agg cs).map (·, st)
    | none => none
def Nhf (n : Nat) (a x : Arg) : FArm := fun cfg callE ρ st key => (Naq st n (ρ a) (ρ x)).map (.tup [], ·)
def Nhb (x : Arg) : FArm := fun cfg callE ρ st key => match ρ x with
    | .ptr k o => some (.ptr k o, st)
    | .fptr cs => some (.fptr cs, st)
    | _ => none
def NiW (op : BinOp) (x y : Arg) : FArm := fun cfg callE ρ st key => (Nan op (ρ x) (ρ y)).map (·, st)
def NiY (neg : Bool) (x y : Arg) : FArm := fun cfg callE ρ st key => (NgT neg (ρ x) (ρ y)).map (·, st)
def NiZ (kd : Nat) (neg : Bool) (x y : Arg) : FArm := fun cfg callE ρ st key => (NhU kd neg (ρ x) (ρ y)).map (·, st)
def Ni1 (neg : Bool) (fs : List (Nat × Nat)) (x y : Arg) : FArm := fun cfg callE ρ st key => match ρ x, ρ y with
    | .agg ps, .agg qs => (Nem fs ps qs).map fun b => (.b (b != neg), st)
    | _, _ => none
def Nha  : FArm := fun cfg callE ρ st key => some (.mp key, st.put key (some (.map [])))
def Nf2 (ck : Nat) (ok : Bool) (zero : PV) (m k : Arg) : FArm := fun cfg callE ρ st key => match ρ m with
    | .nmp => if ck = 3 then none else some (if ok then .tup [zero, .b false] else zero, st)
    | .mp j => match st.get j with
      | some (.map es) => (Na1 ck (ρ k) es).map fun r => (if ok then .tup [r.getD zero, .b r.isSome] else r.getD zero, st)
      | _ => none
    | _ => none
def Ng8 (ck : Nat) (m k v : Arg) : FArm := fun cfg callE ρ st key => match ρ m with
    | .mp j => match st.get j with
      | some (.map es) => (Na2 ck (ρ k) (ρ v) es).map fun es' => (.tup [], st.put j (some (.map es')))
      | _ => none
    | _ => none
def Nh7 (m : Arg) : FArm := fun cfg callE ρ st key => match ρ m with
    | .nmp => some (.i .i64 0, st)
    | .mp j => match st.get j with
      | some (.map es) => some (.i .i64 es.length, st)
      | _ => none
    | _ => none
def Nf4 (x : Arg) : FArm := fun cfg callE ρ st key => match ρ x with
    | .s l => some (.ptr key 0, st.put key (some (.iter l 0)))
    | _ => none
def Nhe (x : Arg) : FArm := fun cfg callE ρ st key => match ρ x with
    | .ptr k 0 => match st.get k with
      | some (.iter l p) => if p < l.length then some (.tup [.b true, .i .i64 p, .i .i32 (Utf8.decode ⟨l.toArray⟩ p).1], st.put k (some (.iter l (p + (Utf8.decode ⟨l.toArray⟩ p).2)))) else some (.tup [.b false], st)
      | _ => none
    | _ => none
def Nh5 (x : Arg) : FArm := fun cfg callE ρ st key => match ρ x with
    | .rsl k z off n => match st.get k with
      | some (.cells _ _) => some (.rsl k z off n, st)
      | _ => none
    | _ => none
def NiV  : FArm := fun cfg callE ρ st key => none
def NkG (op : UnOp) (x : Arg) : FArm := fun cfg callE ρ st key => (unP op (ρ x)).map (·, st)
def Nh2 (c : Cv) (x : Arg) : FArm := fun cfg callE ρ st key => match c, ρ x with
    | .int k, .i _ n => some (.i k (k.wrap n), st)
    | .same, .s l => some (.s l, st)
    | .s2b, .s l => if l.length ≤ maxBytes then some (.rsl key 1 0 l.length, st.put key (some (.cells (NaE l) false))) else none
    | .b2s, v => match cellsOf st 1 v with
      | some (_, cs) => (NaM? cs).map fun l => (.s l, st)
      | none => none
    | .up, .ptr k 0 => match st.get k with
      | some (.bld _) => some (.ptr k 0, st)
      | _ => none
    | .down Ts, .ptr k 0 => match st.get k with
      | some (.bld T) => if T ∈ Ts then some (.ptr k 0, st) else none
      | _ => none
    | _, _ => none
def Nh6 (f : FuncId) (cap : List Arg) : FArm := fun cfg callE ρ st key => some (.fn f (cap.map ρ), st)
def Ng9 (f : FuncId) (pre : List Arg) : FArm := fun cfg callE ρ st key => some (.bfn f (pre.map ρ), st)
def Nfe (sz bytes : Nat) (zero : List PV) (l : Arg) : FArm := fun cfg callE ρ st key => match ρ l with
    | .i _ n => if 0 ≤ n ∧ n.toNat * bytes ≤ maxBytes ∧ 0 < bytes ∧ zero.length = sz ∧ 0 < sz then some (.rsl key sz 0 n.toNat, st.put key (some (.cells (List.flatten (List.replicate n.toNat zero)) false))) else none
    | _ => none
def Nhd (arr : Option Nat) (sz : Nat) (x : Arg) (lo hi : Option Arg) : FArm := fun cfg callE ρ st key => match arr with
 | some N => match ρ x with
  | .ptr k off => match NaB (hi.map ρ) N N, st.get k with
    | some h, some (.cells cs _) => match NaB (lo.map ρ) 0 h with
      | some l => if l < N ∧ 0 < sz ∧ off + N * sz ≤ cs.length ∧ N < 4294967296 then some (.rsl k sz (off + l * sz) (h - l), st) else none
      | none => none
    | _, _ => none
  | _ => none
 | none => (NbM sz (lo.map ρ) (hi.map ρ) (ρ x)).map (·, st)
def Nf5 (x : Arg) (lo hi : Option Arg) : FArm := fun cfg callE ρ st key => match ρ x with
    | .s l => match NaB (hi.map ρ) l.length l.length with
      | some h => match NaB (lo.map ρ) 0 h with
        | some k => some (.s ((l.drop k).take (h - k)), st)
        | none => none
      | none => none
    | _ => none
def Nd0 (off : Nat) (x : Arg) : FArm := fun cfg callE ρ st key => match ρ x with
    | .ptr k o => some (.ptr k (o + off), st)
    | .fptr cs => some (.fptr (cs.drop off), st)
    | _ => none
def Ng6 (agg : Bool) (off n : Nat) (x : Arg) : FArm := fun cfg callE ρ st key => match ρ x with
    | .agg cs => match cut? cs off n with
      | some l => (Nab agg l).map (·, st)
      | none => none
    | _ => none
def Nd1 (arr : Option Nat) (sz : Nat) (x i : Arg) : FArm := fun cfg callE ρ st key => match arr with
 | some N => match ρ x, ρ i with
  | .ptr k o, .i _ j => if 0 ≤ j ∧ j < N then some (.ptr k (o + j.toNat * sz), st) else none
  | .fptr cs, .i _ j => if 0 ≤ j ∧ j < N then some (.fptr (cs.drop (j.toNat * sz)), st) else none
  | _, _ => none
 | none => match ρ x, ρ i with
  | .rsl k z off n, .i _ j => if z = sz ∧ 0 ≤ j ∧ j < n then some (.ptr k (off + j.toNat * sz), st) else none
  | .fsl n cs, .i _ j => if cs.length = n * sz ∧ 0 < sz ∧ 0 ≤ j ∧ j < n then some (.fptr (cs.drop (j.toNat * sz)), st) else none
  | _, _ => none
def Ng7 (len : Nat) (agg : Bool) (n : Nat) (x i : Arg) : FArm := fun cfg callE ρ st key => match ρ x, ρ i with
    | .agg cs, .i _ j => if 0 ≤ j ∧ j < len then match cut? cs (j.toNat * n) n with
     | some l => (Nab agg l).map (·, st)
     | none => none
      else none
    | _, _ => none
def Nf3 (x i : Arg) : FArm := fun cfg callE ρ st key => match ρ x, ρ i with
    | .s l, .i _ j => if 0 ≤ j then (l[j.toNat]?).map fun c => (.i .u8 c.toNat, st) else none
    | _, _ => none
def Nfd (i : Nat) (x : Arg) : FArm := fun cfg callE ρ st key => match ρ x with
    | .tup vs => (vs[i]?).map (·, st)
    | _ => none
def Nh1 (f : FuncId) (own : Bool) (args : List Arg) : FArm := fun cfg callE ρ st key => NaG (Nay cfg callE f) own st key (args.map ρ)
def Ng3 (f : FuncId) (args : List Arg) : FArm := fun cfg callE ρ st key => match cfg.ext f with
    | some _ => none
    | none => callE f (args.map ρ) st
def Ng4 (f : FuncId) (args : List Arg) : FArm := fun cfg callE ρ st key => match Nbx st (args.map ρ) with
    | some l => match Nay cfg callE f l with
      | some r => if r.closedB then Nax st key r else none
      | none => none
    | none => none
def Ng5 (f : Arg) (args : List Arg) : FArm := fun cfg callE ρ st key => match ρ f with
    | .fn g cap => match cfg.ext g with
      | some _ => none
      | none => callE g (args.map ρ ++ cap) st
    | .bfn g pre => match cfg.ext g with
      | some _ => none
      | none => callE g (pre ++ args.map ρ) st
    | _ => none
def NfZ (sz bytes : Nat) (s x : Arg) : FArm := fun cfg callE ρ st key => match cellsOf st sz (ρ x) with
    | some (m, news) => if 0 < sz ∧ 0 < bytes ∧ news.all PV.one then NaH st key sz bytes m news (ρ s) else none
    | none => none
def Nf0 (s x : Arg) : FArm := fun cfg callE ρ st key => match ρ x with
    | .s l => NaH st key 1 1 l.length (NaE l) (ρ s)
    | _ => none
def Ni2 (x : Arg) : FArm := fun cfg callE ρ st key => (NfG (ρ x)).map (·, st)
def Nh9 (x : Arg) : FArm := fun cfg callE ρ st key => match ρ x with
    | .s l => some (.i .i64 l.length, st)
    | _ => none
def NhY (n : Nat) : FArm := fun cfg callE ρ st key => some (.i .i64 n, st)
def Nh3 (sz : Nat) (d s : Arg) : FArm := fun cfg callE ρ st key => match cellsOf st sz (ρ s) with
    | some (m, cs) => NbJ st sz m cs (ρ d)
    | none => none
def Ni4 (x : Arg) (ys : List Arg) : FArm := fun cfg callE ρ st key => (Ngx (ρ x) (ys.map ρ)).map (·, st)
def Ni3 (x : Arg) (ys : List Arg) : FArm := fun cfg callE ρ st key => (Nht (ρ x) (ys.map ρ)).map (·, st)
def NfY (T : TypeId) : FArm := fun cfg callE ρ st key => some (.ptr key 0, st.put key (some (.bld T)))
def Ni0 (neg : Bool) (x y : Arg) : FArm := fun cfg callE ρ st key => match ρ x, ρ y with
    | .ptr k o, .ptr l p => if k = l ∧ o = p then some (.b (!neg), st) else none
    | _, _ => none
def NhZ (T : TypeId) (s x : Arg) : FArm := fun cfg callE ρ st key => match cellsOf st 1 (ρ x) with
    | some (_, cs) => match NaM? cs with
      | some l => Nce st key T l (ρ s)
      | none => none
    | none => none
def Ng1 (T : TypeId) (s x : Arg) : FArm := fun cfg callE ρ st key => match ρ x with
    | .s l => Nce st key T l (ρ s)
    | _ => none
def Nhc (x : Arg) : FArm := fun cfg callE ρ st key => match ρ x with
    | .nsl => some (.nptr, st)
    | .rsl k 1 0 (_ + 1) => some (.ptr k 0, st)
    | _ => none
def Nia (T : TypeId) (p n : Arg) : FArm := fun cfg callE ρ st key => match ρ p, ρ n with
    | .nptr, .i .i64 m => if m = 0 then some (.s [], st) else none
    | .ptr k 0, .i .i64 m => match st.get k with
      | some (.bytes T' l) => if T' = T ∧ m = l.length ∧ 0 < l.length ∧ l.length ≤ maxBytes then some (.s l, st.put k none) else none
      | _ => none
    | _, _ => none
def Nh0 (T : TypeId) (x : Arg) : FArm := fun cfg callE ρ st key => if Ncl (ρ x) then some (.ptr key 0, st.put key (some (.bld T))) else none
def fOp (m : MOp) : FArm := MOp.rec (motive := fun _ => FArm) NkF Nh8 Ng0 NiX Ng2 Nf1 Nh4 Nhf Nhb NiW NiY NiZ Ni1 Nha Nf2 Ng8 Nh7 Nf4 Nhe Nh5 NiV NkG Nh2 Nh6 Ng9 Nfe Nhd Nf5 Nd0 Ng6 Nd1 Ng7 Nf3 Nfd Nh1 Ng3 Ng4 Ng5 NfZ Nf0 Ni2 Nh9 NhY Nh3 Ni4 Ni3 NfY Ni0 NhZ Ng1 Nhc Nia Nh0 m
theorem NhW (m : MOp) (cfg : Cfg) (callE : CallE) (ρ : Arg → PV) (st : St) (key : Nat) : fOp m cfg callE ρ st key = Nae cfg callE ρ st key m := by
 cases m with
 | slice arr sz x lo hi => cases arr <;> rfl
 | indexAddr arr sz x i => cases arr <;> rfl
 | _ => rfl
def rdF (env loc : Env) (a : Arg) : PV := Arg.rec (motive := fun _ => PV) (fun t => Env.get env t) (fun t => Env.get loc t) (fun v => v) a
theorem NfA (env loc : Env) (st : St) : rdF env loc = Loc.rd { env, loc, st } := by
 funext a; cases a <;> rfl
def NiH (l : List MOper) : Nat := List.rec (motive := fun _ => Nat) 0 (fun _ _ ih => Nat.add ih 1) l
theorem Nfb : ∀ l : List MOper, NiH l = l.length
 | [] => rfl
 | _ :: l => by show Nat.add (NiH l) 1 = _; rw [Nfb l]; rfl
abbrev FOps := Nat → Env → Env → St → Option Loc
def NiI (ih : FOps) (dst : MDst) (key : Nat) (env loc : Env) (v : PV) (st : St) : Option Loc :=
 MDst.rec (motive := fun _ => Option Loc) (ih (Nat.add key 8) env loc st) (fun t => ih (Nat.add key 8) (Env.put env t v) loc st) (fun t => ih (Nat.add key 8) env (Env.put loc t v) st) dst
def NeO (cfg : Cfg) (callE : CallE) (dst : MDst) (op : MOp) (ih : FOps) (key : Nat) (env loc : Env) (st : St) : Option Loc :=
 Option.rec (motive := fun _ => Option Loc) none (fun p => Prod.rec (motive := fun _ => Option Loc) (fun v st' => NiI ih dst key env loc v st') p) (fOp op cfg callE (rdF env loc) st key)
def Ndv (v : PV) (want : Bool) : Option Bool := match v with
 | .b y => some (y == want)
 | .tup [] => some false
 | _ => none
def NkE (cfg : Cfg) (callE : CallE) (o : MOper) (ih : FOps) (key : Nat) (env loc : Env) (st : St) : Option Loc :=
 MOper.rec (motive := fun _ => Option Loc) (fun dst op guard => Option.rec (motive := fun _ => Option Loc) (NeO cfg callE dst op ih key env loc st)
  (fun g => Prod.rec (motive := fun _ => Option Loc) (fun x want => Option.rec (motive := fun _ => Option Loc) none (fun b => Bool.rec (motive := fun _ => Option Loc) (NiI ih dst key env loc (.tup []) st) (NeO cfg callE dst op ih key env loc st) b) (Ndv (rdF env loc x) want)) g) guard) o
def NhH (cfg : Cfg) (callE : CallE) (l : List MOper) : FOps := List.rec (motive := fun _ => FOps) (fun _ env loc st => some { env, loc, st }) (fun o _ ih => NkE cfg callE o ih) l
theorem Nfc {cfg : Cfg} {callE : CallE} {ih : FOps} {l : List MOper} (h : ∀ key env loc st, ih key env loc st = Naw cfg callE l key { env, loc, st }) (dst : MDst) (key : Nat) (env loc : Env) (v : PV) (st : St) : NiI ih dst key env loc v st = Naw cfg callE l (key + 8) (({ env, loc, st } : Loc).wr dst v) := by
 cases dst <;> exact h _ _ _ _
theorem Ner {cfg : Cfg} {callE : CallE} {ih : FOps} {l : List MOper} (h : ∀ key env loc st, ih key env loc st = Naw cfg callE l key { env, loc, st }) (dst : MDst) (op : MOp) (key : Nat) (env loc : Env) (st : St) : NeO cfg callE dst op ih key env loc st = match Nae cfg callE (Loc.rd { env, loc, st }) st key op with
 | some (v, st') => Naw cfg callE l (key + 8) (({ env, loc, st := st' } : Loc).wr dst v)
 | none => none := by
 unfold NeO
 rw [NhW, NfA env loc st]
 cases Nae cfg callE (Loc.rd { env, loc, st }) st key op with
 | none => rfl
 | some p => exact Nfc h dst key env loc p.1 p.2
theorem Ndg (cfg : Cfg) (callE : CallE) : ∀ (l : List MOper) (key : Nat) (env loc : Env) (st : St), NhH cfg callE l key env loc st = Naw cfg callE l key { env, loc, st }
 | [], _, _, _, _ => rfl
 | ⟨dst, op, none⟩ :: l, key, env, loc, st => by
   show NeO cfg callE dst op (NhH cfg callE l) key env loc st = _
   rw [Ner (Ndg cfg callE l)]; rfl
 | ⟨dst, op, some (x, want)⟩ :: l, key, env, loc, st => by
   show Option.rec (motive := fun _ => Option Loc) none (fun b => Bool.rec (motive := fun _ => Option Loc) (NiI (NhH cfg callE l) dst key env loc (.tup []) st) (NeO cfg callE dst op (NhH cfg callE l) key env loc st) b) (Ndv (rdF env loc x) want) = _
   rw [Ner (Ndg cfg callE l), Nfc (Ndg cfg callE l), NfA env loc st]
   simp only [Naw]
   have e : Nag { env, loc, st } (some (x, want)) = Ndv (Loc.rd { env, loc, st } x) want := by
    unfold Nag Ndv; rfl
   rw [e]
   cases Ndv (Loc.rd { env, loc, st } x) want with
   | none => rfl
   | some b => cases b <;> rfl
abbrev FCode := Cfg → CallE → Nat → Now → Option (MExit × Now)
def NhX (v : PV) : Option Bool := match v with
 | .b y => some y
 | _ => none
def NhR : FCode := fun _ _ _ c => some (.nrm, c)
def NfN (ops : List MOper) : FCode := fun cfg callE _ c => Now.rec (motive := fun _ => Option (MExit × Now)) (fun env st => St.rec (motive := fun _ => Option (MExit × Now)) (fun sto cnt =>
 Option.rec (motive := fun _ => Option (MExit × Now)) none (fun l => Loc.rec (motive := fun _ => Option (MExit × Now)) (fun env' _ st' => some (.nrm, { env := env', st := st' })) l) (NhH cfg callE ops cnt env .leaf { sto, cnt := Nat.add cnt (Nat.mul 8 (NiH ops)) })) st) c
def NgP (ops : List MOper) (masks : List Nat) (sw : Option (Nat × Nat)) : FCode := fun cfg callE _ c => (NbR cfg callE ops masks sw c).map (.nrm, ·)
def NgR (a b : MCode) (ia ib : FCode) : FCode := fun cfg callE fuel c => Option.rec (motive := fun _ => Option (MExit × Now)) none (fun r => Prod.rec (motive := fun _ => Option (MExit × Now)) (fun e c' => MExit.rec (motive := fun _ => Option (MExit × Now)) (ib cfg callE fuel c') (fun id => some (.ex id, c')) (some (.ret, c')) e) r) (ia cfg callE fuel c)
def Ne5 (x : Arg) (a b : MCode) (ia ib : FCode) : FCode := fun cfg callE fuel c => Option.rec (motive := fun _ => Option (MExit × Now)) none (fun y => Bool.rec (motive := fun _ => Option (MExit × Now)) (ib cfg callE fuel c) (ia cfg callE fuel c) y) (NhX (rdF c.env .leaf x))
def NdQ (id : Nat) (a : MCode) (ia : FCode) : FCode := fun cfg callE fuel c => Option.rec (motive := fun _ => Option (MExit × Now)) none (fun r => Prod.rec (motive := fun _ => Option (MExit × Now)) (fun e c' => MExit.rec (motive := fun _ => Option (MExit × Now)) (some (.nrm, c')) (fun j => Bool.rec (motive := fun _ => Option (MExit × Now)) (some (.ex j, c')) (some (.nrm, c')) (Nat.beq j id)) (some (.ret, c')) e) r) (ia cfg callE fuel c)
def NfX (body : Now → Option (MExit × Now)) (n : Nat) : Now → Option (MExit × Now) := Nat.rec (motive := fun _ => Now → Option (MExit × Now)) (fun _ => none) (fun _ ih c => Option.rec (motive := fun _ => Option (MExit × Now)) none (fun r => Prod.rec (motive := fun _ => Option (MExit × Now)) (fun e c' => MExit.rec (motive := fun _ => Option (MExit × Now)) (ih c') (fun id => some (.ex id, c')) (some (.ret, c')) e) r) (body c)) n
def NhQ (a : MCode) (ia : FCode) : FCode := fun cfg callE fuel c => NfX (ia cfg callE fuel) fuel c
def NhP (id : Nat) : FCode := fun _ _ _ c => some (.ex id, c)
def NgQ (a : MCode) (ia : FCode) : FCode := ia
def NiO : FCode := fun _ _ _ c => some (.ret, c)
def Ncx (m : MCode) : FCode := MCode.rec (motive := fun _ => FCode) NhR NfN NgP NgR Ne5 NdQ NhQ NhP NgQ NiO m
theorem Neq {b b' : Now → Option (MExit × Now)} (h : ∀ c, b c = b' c) : ∀ (n : Nat) (c : Now), NfX b n c = Nbh b' n c
 | 0, _ => rfl
 | n + 1, c => by
   show Option.rec (motive := fun _ => Option (MExit × Now)) none (fun r => Prod.rec (motive := fun _ => Option (MExit × Now)) (fun e c' => MExit.rec (motive := fun _ => Option (MExit × Now)) (NfX b n c') (fun id => some (.ex id, c')) (some (.ret, c')) e) r) (b c) = _
   simp only [Nbh]
   rw [h c]
   cases b' c with
   | none => rfl
   | some r =>
     obtain ⟨e, c'⟩ := r
     cases e with
     | nrm => exact Neq h n c'
     | ex id => rfl
     | ret => rfl
theorem loopE_nrm {b : Now → Option (MExit × Now)} : ∀ (n : Nat) (c c' : Now), Nbh b n c ≠ some (.nrm, c')
 | 0, _, _ => by simp [Nbh]
 | n + 1, c, c' => by
   simp only [Nbh]
   split
   ·exact loopE_nrm n _ _
   ·rename_i e c1 hne _
    intro h
    simp only [Sj, Pj] at h
    obtain ⟨rfl, _⟩ := h
    exact hne rfl
   ·simp
theorem NaU (cfg : Cfg) (callE : CallE) (fuel : Nat) : ∀ (m : MCode) (c : Now), Ncx m cfg callE fuel c = Nad cfg callE fuel m c
 | .skip, _ => rfl
 | .region ops, c => by
   obtain ⟨env, sto, cnt⟩ := c
   show Option.rec (motive := fun _ => Option (MExit × Now)) none (fun l => Loc.rec (motive := fun _ => Option (MExit × Now)) (fun env' _ st' => some (.nrm, { env := env', st := st' })) l) (NhH cfg callE ops cnt env .leaf { sto, cnt := Nat.add cnt (Nat.mul 8 (NiH ops)) }) = _
   rw [Ndg, Nfb]
   simp only [Nad, NaJ]
   show Option.rec (motive := fun _ => Option (MExit × Now)) none (fun l => Loc.rec (motive := fun _ => Option (MExit × Now)) (fun env' _ st' => some (.nrm, { env := env', st := st' })) l) (Naw cfg callE ops cnt { env, loc := .leaf, st := { sto, cnt := cnt + 8 * ops.length } }) = _
   cases Naw cfg callE ops cnt { env, loc := .leaf, st := { sto, cnt := cnt + 8 * ops.length } } <;> rfl
 | .chain ops masks sw, c => rfl
 | .seq a b, c => by
   show NgR a b (Ncx a) (Ncx b) cfg callE fuel c = _
   unfold NgR
   simp only [Nad]
   rw [NaU cfg callE fuel a c]
   cases Nad cfg callE fuel a c with
   | none => rfl
   | some r =>
     obtain ⟨e, c'⟩ := r
     cases e with
     | nrm => exact NaU cfg callE fuel b c'
     | ex id => rfl
     | ret => rfl
 | .cond x a b, c => by
   show Ne5 x a b (Ncx a) (Ncx b) cfg callE fuel c = _
   unfold Ne5
   simp only [Nad]
   rw [NfA c.env .leaf c.st, NaU cfg callE fuel a c, NaU cfg callE fuel b c]
   cases ({ env := c.env, loc := .leaf, st := c.st } : Loc).rd x with
   | b y => cases y <;> rfl
   | _ => rfl
 | .block id a, c => by
   show NdQ id a (Ncx a) cfg callE fuel c = _
   unfold NdQ
   simp only [Nad]
   rw [NaU cfg callE fuel a c]
   cases Nad cfg callE fuel a c with
   | none => rfl
   | some r =>
     obtain ⟨e, c'⟩ := r
     cases e with
     | nrm => rfl
     | ex j =>
       show Bool.rec (motive := fun _ => Option (MExit × Now)) (some (.ex j, c')) (some (.nrm, c')) (Nat.beq j id) = _
       rw [Nbq]
     | ret => rfl
 | .loop a, c => by
   show NfX (Ncx a cfg callE fuel) fuel c = _
   rw [Neq (NaU cfg callE fuel a)]
   simp only [Nad]
   split
   ·rename_i h; exact absurd h (loopE_nrm _ _ _)
   ·rfl
 | .exit id, _ => rfl
 | .scope a, c => NaU cfg callE fuel a c
 | .ret, _ => rfl
def NiJ (c : Now) (l : List MRes) : Option (PV × St) := match mapO (NeA c) l with
 | some [v] => some (v, c.st)
 | some vs => some (.tup vs, c.st)
 | none => none
def NgZ (cfg : Cfg) (callE : CallE) (fuel : Nat) (m : MFunc) (args : List PV) (st : St) : Option (PV × St) :=
 MFunc.rec (motive := fun _ => Option (PV × St)) (fun body res => Option.rec (motive := fun _ => Option (PV × St)) none (fun r => Prod.rec (motive := fun _ => Option (PV × St)) (fun e c => MExit.rec (motive := fun _ => Option (PV × St)) (NiJ c res) (fun _ => none) (NiJ c res) e) r) (Ncx body cfg callE fuel { env := Nas args 0 .leaf, st })) m
theorem NfW (cfg : Cfg) (callE : CallE) (fuel : Nat) (m : MFunc) (args : List PV) (st : St) : NgZ cfg callE fuel m args st = Nb5 cfg callE fuel m args st := by
 obtain ⟨body, res⟩ := m
 show Option.rec (motive := fun _ => Option (PV × St)) none (fun r => Prod.rec (motive := fun _ => Option (PV × St)) (fun e c => MExit.rec (motive := fun _ => Option (PV × St)) (NiJ c res) (fun _ => none) (NiJ c res) e) r) (Ncx body cfg callE fuel { env := Nas args 0 .leaf, st }) = _
 rw [NaU]
 unfold Nb5
 simp only []
 cases Nad cfg callE fuel body { env := Nas args 0 .leaf, st } with
 | none => rfl
 | some r =>
   obtain ⟨e, c⟩ := r
   cases e <;> rfl
def fFn (cfg : Cfg) (n : Nat) : CallE := Nat.rec (motive := fun _ => CallE) (fun _ _ _ => none) (fun fuel ih f args st => Option.rec (motive := fun _ => Option (PV × St)) none (fun m => NgZ cfg ih (Nat.add fuel 1) m args st) (cfg.fn f)) n
theorem Nfa (cfg : Cfg) : ∀ n, fFn cfg n = Nbj cfg n
 | 0 => rfl
 | n + 1 => by
   funext f args st
   show Option.rec (motive := fun _ => Option (PV × St)) none (fun m => NgZ cfg (fFn cfg n) (Nat.add n 1) m args st) (cfg.fn f) = _
   rw [Nfa cfg n]
   show _ = match cfg.fn f with
    | some m => Nb5 cfg (Nbj cfg n) (n + 1) m args st
    | none => none
   cases cfg.fn f with
   | none => rfl
   | some m => exact NfW _ _ _ _ _ _
def fvP (cfg : Cfg) (fuel : Nat) (f : FuncId) (args : List PV) : Option PV := Nay cfg (fFn cfg fuel) f args
theorem Ngv (cfg : Cfg) (fuel : Nat) (f : FuncId) (args : List PV) : fvP cfg fuel f args = evP cfg fuel f args := by
 unfold fvP evP
 rw [Nfa]
def Nd5 (f : Nat) (l : List (Nat × MFunc)) : Option MFunc := List.rec (motive := fun _ => Option MFunc) none (fun p _ ih => Bool.rec (motive := fun _ => Option MFunc) ih (some p.2) (Nat.beq f p.1)) l
def NhI (P : Program) (modes : FuncId → Option Bool) : List (Nat × MFunc) → Prop
 | [] => True
 | p :: r => Naf P modes p.1 = some p.2 ∧ NhI P modes r
theorem Neu {P : Program} {modes : FuncId → Option Bool} {f : Nat} {m : MFunc} : ∀ l : List (Nat × MFunc), NhI P modes l → Nd5 f l = some m → Naf P modes f = some m
 | [], _, h => by simp [Nd5] at h
 | p :: r, ha, h => by
   have e : Bool.rec (motive := fun _ => Option MFunc) (Nd5 f r) (some p.2) (Nat.beq f p.1) = some m := h
   rw [Nbq] at e
   split at e
   ·rename_i hf
    rw [hf, ← e]; exact ha.1
   ·exact Neu r ha.2 e
theorem NdT {P : Program} {Gl : Gmap} {modes : FuncId → Option Bool} {l : List (Nat × MFunc)} (hl : NhI P modes l) {ext : FuncId → Option (List PV → Option PV)} (h : ∀ f g, ext f = some g → NaX P Gl f g) : CfgOK P Gl { fn := fun f => Nd5 f l, ext } := ⟨h, modes, fun f m hm => Neu l hl hm⟩
end
end Go.Pe
set_option linter.unusedVariables false
set_option linter.unusedSimpArgs false
namespace Go.Pe
open Go

def WO (cfg : Cfg) (callE : CallE) (ops : List MOper) (key : Nat) (c : Loc) (Q : Loc → Prop) : Prop := ∃ c', Naw cfg callE ops key c = some c' ∧ Q c'
def WC (cfg : Cfg) (callE : CallE) (n : Nat) (m : MCode) (x : Now) (Q : MExit → Now → Prop) : Prop := ∃ e x', Nad cfg callE n m x = some (e, x') ∧ Q e x'
def WV (r : Option (PV × St)) (Q : PV → St → Prop) : Prop := ∃ v st, r = some (v, st) ∧ Q v st
@[congr] theorem Zu {r r' : Option (PV × St)} (h : r = r') (Q : PV → St → Prop) : WV r Q = WV r' Q := by rw [h]
@[congr] theorem Zv {cfg : Cfg} {callE : CallE} {ops : List MOper} {key key' : Nat} {c c' : Loc} (h : key = key') (h2 : c = c') (Q : Loc → Prop) : WO cfg callE ops key c Q = WO cfg callE ops key' c' Q := by rw [h, h2]
@[congr] theorem Zw {cfg : Cfg} {callE : CallE} {n : Nat} {m : MCode} {x x' : Now} (h : x = x') (Q : MExit → Now → Prop) : WC cfg callE n m x Q = WC cfg callE n m x' Q := by rw [h]
def WI (c A B : Prop) : Prop := (c → A) ∧ (¬ c → B)
@[congr] theorem Zt {c c' : Prop} (h : c = c') (A B : Prop) : WI c A B = WI c' A B := by rw [h]
theorem Zq (A B : Prop) : WI True A B ↔ A := by simp [WI]
theorem Zr (A B : Prop) : WI False A B ↔ B := by simp [WI]
theorem Zs (c A B : Prop) [Decidable c] : (if c then A else B) ↔ WI c A B := by
 by_cases h : c <;> simp [WI, h]
theorem Zx (v : PV) (st : St) (Q : PV → St → Prop) : WV (some (v, st)) Q ↔ Q v st := by
 constructor
 ·rintro ⟨a, b, h, q⟩
  simp only [Sj, Pj] at h
  obtain ⟨rfl, rfl⟩ := h
  exact q
 ·intro q; exact ⟨v, st, rfl, q⟩
theorem Zz (c : Prop) [Decidable c] (r : Option (PV × St)) (Q : PV → St → Prop) : WV (if c then r else none) Q ↔ c ∧ WV r Q := by
 by_cases h : c
 ·simp [h]
 ·simp [h, WV]
theorem Ze (cfg : Cfg) (callE : CallE) (key : Nat) (c : Loc) (Q : Loc → Prop) : WO cfg callE [] key c Q ↔ Q c := by
 constructor
 ·rintro ⟨c', h, q⟩
  simp only [Naw, Sj] at h
  subst h; exact q
 ·intro q; exact ⟨c, rfl, q⟩
theorem Zb (cfg : Cfg) (callE : CallE) (d : MDst) (op : MOp) (l : List MOper) (key : Nat) (env loc : Env) (st : St) (Q : Loc → Prop) :
 WO cfg callE (⟨d, op, none⟩ :: l) key ⟨env, loc, st⟩ Q ↔ WV (Nae cfg callE (Loc.rd ⟨env, loc, st⟩) st key op) fun v st' => WO cfg callE l (key + 8) ((⟨env, loc, st'⟩ : Loc).wr d v) Q := by
 unfold WO WV
 simp only [Naw, Nag]
 cases Nae cfg callE (Loc.rd ⟨env, loc, st⟩) st key op with
 | none => simp
 | some p =>
   obtain ⟨v, st'⟩ := p
   constructor
   ·rintro ⟨c', h, q⟩; exact ⟨v, st', rfl, c', h, q⟩
   ·rintro ⟨a, b, h, c', h2, q⟩
    simp only [Sj, Pj] at h
    obtain ⟨rfl, rfl⟩ := h
    exact ⟨c', h2, q⟩
theorem Zd (cfg : Cfg) (callE : CallE) (d : MDst) (op : MOp) (x : Arg) (w y : Bool) (l : List MOper) (key : Nat) (env loc : Env) (st : St) (Q : Loc → Prop) (h : Loc.rd ⟨env, loc, st⟩ x = .b y) :
 WO cfg callE (⟨d, op, some (x, w)⟩ :: l) key ⟨env, loc, st⟩ Q ↔ if y = w then WV (Nae cfg callE (Loc.rd ⟨env, loc, st⟩) st key op) (fun v st' => WO cfg callE l (key + 8) ((⟨env, loc, st'⟩ : Loc).wr d v) Q) else WO cfg callE l (key + 8) ((⟨env, loc, st⟩ : Loc).wr d (.tup [])) Q := by
 have hg : Nag ⟨env, loc, st⟩ (some (x, w)) = some (y == w) := by unfold Nag; simp only [h]
 by_cases hw : y = w
 ·rw [if_pos hw, ← Zb]
  have h1 : Nag ⟨env, loc, st⟩ (some (x, w)) = some true := by rw [hg, hw]; simp
  unfold WO
  simp only [Naw, h1]
  simp only [Nag]
 ·rw [if_neg hw]
  have h1 : Nag ⟨env, loc, st⟩ (some (x, w)) = some false := by rw [hg]; simp [hw]
  unfold WO
  simp only [Naw, h1]
theorem Z1 (cfg : Cfg) (callE : CallE) (n : Nat) (l : List MOper) (env : Env) (st : St) (Q : MExit → Now → Prop) :
 WC cfg callE n (.region l) ⟨env, st⟩ Q ↔ WO cfg callE l st.cnt ⟨env, .leaf, { st with cnt := st.cnt + 8 * l.length }⟩ fun c => Q .nrm ⟨c.env, c.st⟩ := by
 unfold WC WO
 simp only [Nad, NaJ, Option.map_map, Option.map_eq_some_iff, Function.comp_def]
 constructor
 ·rintro ⟨e, x', ⟨c', h, h2⟩, q⟩
  simp only [Pj] at h2
  obtain ⟨rfl, rfl⟩ := h2
  exact ⟨c', h, q⟩
 ·rintro ⟨c', h, q⟩
  exact ⟨.nrm, _, ⟨c', h, rfl⟩, q⟩
def NfD (Q : MExit → Now → Prop) (k : Now → Prop) : MExit → Now → Prop
 | .nrm, x => k x
 | .ex id, x => Q (.ex id) x
 | .ret, x => Q .ret x
theorem Z0 (cfg : Cfg) (callE : CallE) (n : Nat) (a b : MCode) (x : Now) (Q : MExit → Now → Prop) : WC cfg callE n (.seq a b) x Q ↔ WC cfg callE n a x (NfD Q fun x' => WC cfg callE n b x' Q) := by
 unfold WC
 simp only [Nad]
 cases Nad cfg callE n a x with
 | none => simp
 | some r =>
   obtain ⟨e, x'⟩ := r
   cases e <;> simp [NfD, and_assoc]
theorem Z4 (cfg : Cfg) (callE : CallE) (n : Nat) (x : Now) (Q : MExit → Now → Prop) : WC cfg callE n .skip x Q ↔ Q .nrm x := by simp [WC, Nad, and_assoc]
theorem Z5 (cfg : Cfg) (callE : CallE) (n id : Nat) (x : Now) (Q : MExit → Now → Prop) : WC cfg callE n (.exit id) x Q ↔ Q (.ex id) x := by simp [WC, Nad, and_assoc]
theorem Z6 (cfg : Cfg) (callE : CallE) (n : Nat) (x : Now) (Q : MExit → Now → Prop) : WC cfg callE n .ret x Q ↔ Q .ret x := by simp [WC, Nad, and_assoc]
theorem Z3 (cfg : Cfg) (callE : CallE) (n : Nat) (a : MCode) (x : Now) (Q : MExit → Now → Prop) : WC cfg callE n (.scope a) x Q ↔ WC cfg callE n a x Q := by simp [WC, Nad]
theorem Z8 (cfg : Cfg) (callE : CallE) (n : Nat) (t : Arg) (a b : MCode) (env : Env) (st : St) (Q : MExit → Now → Prop) (y : Bool) (h : Loc.rd ⟨env, .leaf, st⟩ t = .b y) :
 WC cfg callE n (.cond t a b) ⟨env, st⟩ Q ↔ if y = true then WC cfg callE n a ⟨env, st⟩ Q else WC cfg callE n b ⟨env, st⟩ Q := by
 unfold WC
 simp only [Nad, h]
 cases y <;> simp
def Nb2 (id : Nat) (Q : MExit → Now → Prop) : MExit → Now → Prop
 | .nrm, x => Q .nrm x
 | .ex j, x => if j = id then Q .nrm x else Q (.ex j) x
 | .ret, x => Q .ret x
theorem Z2 (cfg : Cfg) (callE : CallE) (n id : Nat) (a : MCode) (x : Now) (Q : MExit → Now → Prop) : WC cfg callE n (.block id a) x Q ↔ WC cfg callE n a x (Nb2 id Q) := by
 unfold WC
 simp only [Nad]
 cases Nad cfg callE n a x with
 | none => simp
 | some r =>
   obtain ⟨e, x'⟩ := r
   cases e with
   | nrm => simp [Nb2, and_assoc]
   | ret => simp [Nb2, and_assoc]
   | ex j =>
     by_cases hj : j = id
     ·simp [Nb2, hj, and_assoc]
     ·simp [Nb2, hj, and_assoc]
theorem Z9 {cfg : Cfg} {callE : CallE} {n : Nat} {a : MCode} {Q : MExit → Now → Prop} (I : Nat → Now → Prop)
 (h : ∀ k x, I k x → WC cfg callE n a x fun e x' => match e with | .nrm => ∃ j, j < k ∧ I j x' | .ex id => Q (.ex id) x' | .ret => Q .ret x')
 {k : Nat} {x : Now} (hI : I k x) (hk : k < n) : WC cfg callE n (.loop a) x Q := by
 have key : ∀ m k x, I k x → k < m → ∃ e x', Nbh (Nad cfg callE n a) m x = some (e, x') ∧ e ≠ .nrm ∧ Q e x' := by
  intro m
  induction m with
  | zero => intro k x _ h; omega
  | succ m ih =>
    intro k x hx hm
    obtain ⟨e, x', h1, h2⟩ := h k x hx
    simp only [Nbh, h1]
    cases e with
    | nrm =>
      obtain ⟨j, hj, h3⟩ := h2
      exact ih j x' h3 (by omega)
    | ex id => exact ⟨_, _, rfl, by simp, h2⟩
    | ret => exact ⟨_, _, rfl, by simp, h2⟩
 obtain ⟨e, x', h1, h2, h3⟩ := key n k x hI hk
 refine ⟨e, x', ?_, h3⟩
 simp only [Nad, h1]
 cases e with
 | nrm => exact absurd rfl h2
 | ex id => rfl
 | ret => rfl
theorem WC.mono {cfg : Cfg} {callE : CallE} {n : Nat} {m : MCode} {x : Now} {Q Q' : MExit → Now → Prop} (h : WC cfg callE n m x Q) (q : ∀ e x', Q e x' → Q' e x') : WC cfg callE n m x Q' := by
 obtain ⟨e, x', h1, h2⟩ := h
 exact ⟨e, x', h1, q _ _ h2⟩
theorem NiC (Q : MExit → Now → Prop) (k : Now → Prop) (x : Now) : NfD Q k .nrm x ↔ k x := Iff.trans Iff.rfl Iff.rfl
theorem NiD (Q : MExit → Now → Prop) (k : Now → Prop) (id : Nat) (x : Now) : NfD Q k (.ex id) x ↔ Q (.ex id) x := Iff.trans Iff.rfl Iff.rfl
theorem NiE (Q : MExit → Now → Prop) (k : Now → Prop) (x : Now) : NfD Q k .ret x ↔ Q .ret x := Iff.trans Iff.rfl Iff.rfl
theorem NiF (id : Nat) (Q : MExit → Now → Prop) (x : Now) : Nb2 id Q .nrm x ↔ Q .nrm x := Iff.trans Iff.rfl Iff.rfl
theorem NiG (id j : Nat) (Q : MExit → Now → Prop) (x : Now) : Nb2 id Q (.ex j) x ↔ if j = id then Q .nrm x else Q (.ex j) x := Iff.trans Iff.rfl Iff.rfl
theorem Z0A_ (id : Nat) (Q : MExit → Now → Prop) (x : Now) : Nb2 id Q .ret x ↔ Q .ret x := Iff.trans Iff.rfl Iff.rfl
theorem Env.get_leaf (u : Nat) : Env.get .leaf u = .und := rfl
theorem NiA (env loc : Env) (st : St) (t : Nat) : Loc.rd ⟨env, loc, st⟩ (.t t) = env.get t := Eq.trans rfl rfl
theorem NhL (env loc : Env) (st : St) (t : Nat) : Loc.rd ⟨env, loc, st⟩ (.l t) = Env.get loc t := Eq.trans rfl rfl
theorem NiB (env loc : Env) (st : St) (v : PV) : Loc.rd ⟨env, loc, st⟩ (.c v) = v := Eq.trans rfl rfl
theorem NiN (env loc : Env) (st : St) (v : PV) : Loc.wr ⟨env, loc, st⟩ .no v = ⟨env, loc, st⟩ := Eq.trans rfl rfl
theorem NiL (env loc : Env) (st : St) (t : Nat) (v : PV) : Loc.wr ⟨env, loc, st⟩ (.t t) v = ⟨env.put t v, loc, st⟩ := Eq.trans rfl rfl
theorem NiM (env loc : Env) (st : St) (t : Nat) (v : PV) : Loc.wr ⟨env, loc, st⟩ (.l t) v = ⟨env, Env.put loc t v, st⟩ := Eq.trans rfl rfl
theorem NgU {cfg : Cfg} {fuel : Nat} {f : FuncId} {m : MFunc} (hf : cfg.fn f = some m) {args : List PV} {st : St} {r : PV} {st' : St}
 (h : WC cfg (Nbj cfg fuel) (fuel + 1) m.body ⟨Nas args 0 .leaf, st⟩ fun e x => (∀ id, e ≠ .ex id) ∧ x.st = st' ∧ ∃ vs, mapO (NeA x) m.res = some vs ∧ r = (match vs with | [v] => v | vs => .tup vs)) : Nbj cfg (fuel + 1) f args st = some (r, st') := by
 obtain ⟨e, x, h1, h2, rfl, vs, h3, rfl⟩ := h
 show (match cfg.fn f with
  | some m => Nb5 cfg (Nbj cfg fuel) (fuel + 1) m args st
  | none => none) = _
 rw [hf]
 simp only [Nb5, h1, h3]
 cases e with
 | ex id => exact absurd rfl (h2 id)
 | nrm =>
   match vs with
   | [] => rfl
   | [v] => rfl
   | _ :: _ :: _ => rfl
 | ret =>
   match vs with
   | [] => rfl
   | [v] => rfl
   | _ :: _ :: _ => rfl
def WB (v : PV) (A B : Prop) : Prop := match v with
 | .b y => if y = true then A else B
 | _ => False
@[congr] theorem Zp {v v' : PV} (h : v = v') (A B : Prop) : WB v A B = WB v' A B := by rw [h]
theorem Zo (y : Bool) (A B : Prop) : WB (.b y) A B ↔ WI (y = true) A B := Zs _ _ _
theorem Z7 (cfg : Cfg) (callE : CallE) (n : Nat) (t : Arg) (a b : MCode) (env : Env) (st : St) (Q : MExit → Now → Prop) :
 WC cfg callE n (.cond t a b) ⟨env, st⟩ Q ↔ WB (Loc.rd ⟨env, .leaf, st⟩ t) (WC cfg callE n a ⟨env, st⟩ Q) (WC cfg callE n b ⟨env, st⟩ Q) := by
 cases h : Loc.rd ⟨env, .leaf, st⟩ t with
 | b y => rw [Z8 cfg callE n t a b env st Q y h]; rfl
 | _ =>
   unfold WC WB
   simp only [Nad, h]
   simp
def WG (v : PV) (w : Bool) (A B : Prop) : Prop := match v with
 | .b y => if y = w then A else B
 | .tup [] => B
 | _ => False
@[congr] theorem Zl {v v' : PV} (h : v = v') (w : Bool) (A B : Prop) : WG v w A B = WG v' w A B := by rw [h]
theorem Zf (A B : Prop) : WG (.b true) true A B ↔ A := by simp [WG]
theorem Zg (A B : Prop) : WG (.b true) false A B ↔ B := by simp [WG]
theorem Zh (A B : Prop) : WG (.b false) true A B ↔ B := by simp [WG]
theorem Zi (A B : Prop) : WG (.b false) false A B ↔ A := by simp [WG]
theorem Zm (A B : Prop) : WB (.b true) A B ↔ A := by simp [WB]
theorem Zn (A B : Prop) : WB (.b false) A B ↔ B := by simp [WB]
theorem Zj (w : Bool) (A B : Prop) : WG (.tup []) w A B ↔ B := Iff.trans Iff.rfl Iff.rfl
theorem Zc (cfg : Cfg) (callE : CallE) (d : MDst) (op : MOp) (x : Arg) (w : Bool) (l : List MOper) (key : Nat) (env loc : Env) (st : St) (Q : Loc → Prop) :
 WO cfg callE (⟨d, op, some (x, w)⟩ :: l) key ⟨env, loc, st⟩ Q ↔ WG (Loc.rd ⟨env, loc, st⟩ x) w (WV (Nae cfg callE (Loc.rd ⟨env, loc, st⟩) st key op) (fun v st' => WO cfg callE l (key + 8) ((⟨env, loc, st'⟩ : Loc).wr d v) Q)) (WO cfg callE l (key + 8) ((⟨env, loc, st⟩ : Loc).wr d (.tup [])) Q) := by
 cases h : Loc.rd ⟨env, loc, st⟩ x with
 | b y => rw [Zd cfg callE d op x w y l key env loc st Q h]; rfl
 | tup vs =>
   cases vs with
   | nil =>
     have h1 : Nag ⟨env, loc, st⟩ (some (x, w)) = some false := by unfold Nag; simp only [h]
     unfold WO
     simp only [Naw, h1]
     rfl
   | cons a r =>
     have h1 : Nag ⟨env, loc, st⟩ (some (x, w)) = none := by unfold Nag; simp only [h]
     unfold WO WG
     simp only [Naw, h1]
     simp
 | _ =>
   have h1 : Nag ⟨env, loc, st⟩ (some (x, w)) = none := by unfold Nag; simp only [h]
   unfold WO WG
   simp only [Naw, h1]
   simp
theorem St.get_cnt (st : St) (c k : Nat) : St.get ⟨st.sto, c⟩ k = st.get k := rfl
theorem NaT (n : Int) (h : -9223372036854775808 ≤ n ∧ n < 9223372036854775808) : IntKind.i64.wrap n = n := by
 rw [IntKind.wrap_i64]; omega
theorem Niy (n : Int) (h : 0 ≤ n ∧ n < 256) : IntKind.u8.wrap n = n := by
 rw [IntKind.wrap_u8]; omega
theorem NgI (n : Int) (h : 0 ≤ n ∧ n < 18446744073709551616) : IntKind.u64.wrap n = n := by
 rw [IntKind.wrap_u64]; omega
theorem NgH (n : Int) (h : 0 ≤ n ∧ n < 4294967296) : IntKind.u32.wrap n = n := by
 rw [IntKind.wrap_u32]; omega
theorem map_some {α β : Type} (f : α → β) (a : α) : (some a).map f = some (f a) := rfl
theorem ZB {α : Type} (c : Prop) [Decidable c] (r : Option α) (f : α → PV × St) (Q : PV → St → Prop) : WV ((if c then r else none).map f) Q ↔ c ∧ WV (r.map f) Q := by
 by_cases h : c
 ·simp [h]
 ·simp [h, WV]
theorem Zy (Q : PV → St → Prop) : WV none Q ↔ False := by simp [WV]
theorem ZA (l : List UInt8) (n : Nat) (f : UInt8 → PV × St) (Q : PV → St → Prop) : WV ((l[n]?).map f) Q ↔ n < l.length ∧ WV (some (f (l.getD n 0))) Q := by
 by_cases h : n < l.length
 ·simp only [List.getElem?_eq_getElem h, Option.map_some, List.getD_eq_getElem?_getD, Option.getD_some, h, true_and]
 ·have e : l[n]? = none := List.getElem?_eq_none (by omega)
  rw [e]
  simp [WV, h]
def Neh (vs : List PV) : PV := match vs with
 | [v] => v
 | vs => .tup vs
theorem Nb6 {cfg : Cfg} {fuel : Nat} {f : FuncId} {m : MFunc} (hf : cfg.fn f = some m) {args : List PV} {st : St} {R : PV → St → Prop}
 (h : WC cfg (Nbj cfg fuel) (fuel + 1) m.body ⟨Nas args 0 .leaf, st⟩ fun e x => (∀ id, e ≠ .ex id) ∧ ∃ vs, mapO (NeA x) m.res = some vs ∧ R (Neh vs) x.st) : ∃ r st', Nbj cfg (fuel + 1) f args st = some (r, st') ∧ R r st' := by
 obtain ⟨e, x, h1, h2, vs, h3, h4⟩ := h
 refine ⟨Neh vs, x.st, ?_, h4⟩
 refine NgU hf ⟨e, x, h1, h2, rfl, vs, h3, ?_⟩
 unfold Neh; rfl
theorem Nj9 {r : Option (PV × St)} {Q R : PV → St → Prop} (h : ∃ v st, r = some (v, st) ∧ R v st) (q : ∀ v st, R v st → Q v st) : WV r Q := by
 obtain ⟨v, st, h1, h2⟩ := h
 exact ⟨v, st, h1, q v st h2⟩
theorem Z0B_ (d most : Nat) : NaB none d most = some d := rfl
theorem Nbs {k : IntKind} {n : Int} {d most : Nat} (h : 0 ≤ n ∧ n ≤ most) : NaB (some (.i k n)) d most = some n.toNat := by
 show (if 0 ≤ n ∧ n ≤ (most : Int) then some n.toNat else none) = some n.toNat
 rw [if_pos h]
theorem NbG {cfg : Cfg} {callE : CallE} {f : FuncId} {g : List PV → Option PV} (h : cfg.ext f = some g) (args : List PV) : Nay cfg callE f args = g args := by
 unfold Nay; rw [h]
def PV.flat : PV → Bool
 | .i .. | .b _ | .s _ | .nsl | .fsl .. | .und => true
 | _ => false
theorem NbQ {st : St} : ∀ {l : List PV}, l.all PV.flat = true → Nbx st l = some l
 | [], _ => rfl
 | v :: l, h => by
   simp only [List.all_cons, Bool.and_eq_true] at h
   have ih := NbQ (st := st) h.2
   unfold Nbx at ih ⊢
   have e : deep st Ncf v = some v := by cases v <;> first | rfl | (simp [PV.flat] at h; done)
   simp only [mapO, e, ih]
theorem Nc0 {st : St} : ∀ {l : List PV}, l.all PV.flat = true → keysL st l = []
 | [], _ => rfl
 | v :: l, h => by
   simp only [List.all_cons, Bool.and_eq_true] at h
   have ih := Nc0 (st := st) h.2
   unfold keysL at ih ⊢
   have e : keysP st Ncf v = [] := by cases v <;> first | rfl | (simp [PV.flat] at h; done)
   simp only [List.flatMap_cons, e, ih, List.append_nil]
theorem NaI {g : List PV → Option PV} {st : St} {key : Nat} {ps : List PV} {r : PV} (hp : ps.all PV.flat = true) (hg : g ps = some r) (hr : Nax st key r = some (r, st)) : NaG g false st key ps = some (r, st) := by
 unfold NaG
 simp only [NbQ hp, hg, Nc0 hp, Nah, ite_self, hr]
theorem Nb4 {st : St} {vs : List PV} (h : vs.all PV.flat = true) : NaP st (.tup vs) = some (.tup vs) := by
 have e : ∀ l : List PV, l.all PV.flat = true → NaN st l = none := by
  intro l
  induction l with
  | nil => intro _; rfl
  | cons v l ih =>
    intro hl
    simp only [List.all_cons, Bool.and_eq_true] at hl
    have hv : NeW? st v = none := by cases v <;> first | rfl | (simp [PV.flat] at hl; done)
    simp only [NaN, hv, ih hl.2, Option.map_none]
 simp only [NaP, e vs h, NbQ h, map_some]
theorem Nfj {st : St} {k : Nat} {fz : Bool} {l : List UInt8} (hk : st.get k = some (.cells (NaE l) fz)) {i : Nat} (hi : i < l.length) : NaY st 1 (.ptr k (0 + i * 1)) = some [.i .u8 (l.getD i 0).toNat] := by
 have hc : cut? (NaE l) (0 + i * 1) 1 = some [.i .u8 (l.getD i 0).toNat] := by
  unfold cut? NaE
  rw [if_pos (by simp; omega)]
  apply congrArg
  apply List.ext_getElem?
  intro j
  cases j with
  | zero => simp [List.getElem?_take, List.getElem?_drop, List.getElem?_map, List.getElem?_eq_getElem hi, List.getD_eq_getElem?_getD]
  | succ j => simp [List.getElem?_take]
 unfold NaY
 simp only [hk, hc]
end Go.Pe
set_option linter.unusedVariables false
set_option linter.unusedSimpArgs false
namespace Go.Pe
open Go
theorem ZC (cfg : Cfg) (callE : CallE) (ρ : Arg → PV) (st : St) (key : Nat) (x : Arg) (Q : PV → St → Prop) : WV (Nae cfg callE ρ st key (.mv x)) Q ↔ WV (some (ρ x, st)) Q := Iff.trans Iff.rfl Iff.rfl
theorem ZD (cfg : Cfg) (callE : CallE) (ρ : Arg → PV) (st : St) (key : Nat) (c : Arg) (a : Arg) (b : Arg) (Q : PV → St → Prop) : WV (Nae cfg callE ρ st key (.pick c a b)) Q ↔ WV (match ρ c with
 | .b x => some (if x then ρ a else ρ b, st)
 | _ => none) Q := Iff.trans Iff.rfl Iff.rfl
theorem ZE (cfg : Cfg) (callE : CallE) (ρ : Arg → PV) (st : St) (key : Nat) (zero : List PV) (Q : PV → St → Prop) : WV (Nae cfg callE ρ st key (.alloc zero)) Q ↔ WV (some (.ptr key 0, st.put key (some (.cells zero false)))) Q := Iff.trans Iff.rfl Iff.rfl
theorem ZF (cfg : Cfg) (callE : CallE) (ρ : Arg → PV) (st : St) (key : Nat) (x : Arg) (Q : PV → St → Prop) : WV (Nae cfg callE ρ st key (.box x)) Q ↔ WV (if (ρ x).cells.all PV.one then some (.ptr key 0, st.put key (some (.cells (ρ x).cells false))) else none) Q := Iff.trans Iff.rfl Iff.rfl
theorem ZG (cfg : Cfg) (callE : CallE) (ρ : Arg → PV) (st : St) (key : Nat) (zero : List PV) (parts : List (Nat × Nat × Arg)) (Q : PV → St → Prop) : WV (Nae cfg callE ρ st key (.build zero parts)) Q ↔ WV ((NaA zero (parts.map fun p => (p.1, p.2.1, ρ p.2.2))).map fun cs => (.agg cs, st)) Q := Iff.trans Iff.rfl Iff.rfl
theorem ZH (cfg : Cfg) (callE : CallE) (ρ : Arg → PV) (st : St) (key : Nat) (len : Nat) (sz : Nat) (zero : List PV) (parts : List (Nat × Nat × Arg)) (Q : PV → St → Prop) : WV (Nae cfg callE ρ st key (.bslice len sz zero parts)) Q ↔ WV (match NaA zero (parts.map fun p => (p.1, p.2.1, ρ p.2.2)) with
 | some cs => if 0 < sz ∧ cs.length = len * sz then some (.rsl key sz 0 len, st.put key (some (.cells cs false))) else none
 | none => none) Q := Iff.trans Iff.rfl Iff.rfl
theorem ZI (cfg : Cfg) (callE : CallE) (ρ : Arg → PV) (st : St) (key : Nat) (agg : Bool) (n : Nat) (a : Arg) (Q : PV → St → Prop) : WV (Nae cfg callE ρ st key (.load agg n a)) Q ↔ WV (match NaY st n (ρ a) with
 | some cs => (Nab agg cs).map (·, st)
 | none => none) Q := Iff.trans Iff.rfl Iff.rfl
theorem ZJ (cfg : Cfg) (callE : CallE) (ρ : Arg → PV) (st : St) (key : Nat) (n : Nat) (a : Arg) (x : Arg) (Q : PV → St → Prop) : WV (Nae cfg callE ρ st key (.store n a x)) Q ↔ WV ((Naq st n (ρ a) (ρ x)).map (.tup [], ·)) Q := Iff.trans Iff.rfl Iff.rfl
theorem ZK (cfg : Cfg) (callE : CallE) (ρ : Arg → PV) (st : St) (key : Nat) (x : Arg) (Q : PV → St → Prop) : WV (Nae cfg callE ρ st key (.nilck x)) Q ↔ WV (match ρ x with
 | .ptr k o => some (.ptr k o, st)
 | .fptr cs => some (.fptr cs, st)
 | _ => none) Q := Iff.trans Iff.rfl Iff.rfl
theorem ZL (cfg : Cfg) (callE : CallE) (ρ : Arg → PV) (st : St) (key : Nat) (op : BinOp) (x : Arg) (y : Arg) (Q : PV → St → Prop) : WV (Nae cfg callE ρ st key (.bin op x y)) Q ↔ WV ((Nan op (ρ x) (ρ y)).map (·, st)) Q := Iff.trans Iff.rfl Iff.rfl
theorem ZM (cfg : Cfg) (callE : CallE) (ρ : Arg → PV) (st : St) (key : Nat) (neg : Bool) (x : Arg) (y : Arg) (Q : PV → St → Prop) : WV (Nae cfg callE ρ st key (.eqb neg x y)) Q ↔ WV ((NgT neg (ρ x) (ρ y)).map (·, st)) Q := Iff.trans Iff.rfl Iff.rfl
theorem ZN (cfg : Cfg) (callE : CallE) (ρ : Arg → PV) (st : St) (key : Nat) (kd : Nat) (neg : Bool) (x : Arg) (y : Arg) (Q : PV → St → Prop) : WV (Nae cfg callE ρ st key (.eqn kd neg x y)) Q ↔ WV ((NhU kd neg (ρ x) (ρ y)).map (·, st)) Q := Iff.trans Iff.rfl Iff.rfl
theorem ZO (cfg : Cfg) (callE : CallE) (ρ : Arg → PV) (st : St) (key : Nat) (neg : Bool) (fs : List (Nat × Nat)) (x : Arg) (y : Arg) (Q : PV → St → Prop) : WV (Nae cfg callE ρ st key (.eqs neg fs x y)) Q ↔ WV (match ρ x, ρ y with
 | .agg ps, .agg qs => (Nem fs ps qs).map fun b => (.b (b != neg), st)
 | _, _ => none) Q := Iff.trans Iff.rfl Iff.rfl
theorem ZP (cfg : Cfg) (callE : CallE) (ρ : Arg → PV) (st : St) (key : Nat)  (Q : PV → St → Prop) : WV (Nae cfg callE ρ st key (.mkmap )) Q ↔ WV (some (.mp key, st.put key (some (.map [])))) Q := Iff.trans Iff.rfl Iff.rfl
theorem ZQ (cfg : Cfg) (callE : CallE) (ρ : Arg → PV) (st : St) (key : Nat) (ck : Nat) (ok : Bool) (zero : PV) (m : Arg) (k : Arg) (Q : PV → St → Prop) : WV (Nae cfg callE ρ st key (.lookup ck ok zero m k)) Q ↔ WV (match ρ m with
 | .nmp => if ck = 3 then none else some (if ok then .tup [zero, .b false] else zero, st)
 | .mp j => match st.get j with
   | some (.map es) => (Na1 ck (ρ k) es).map fun r => (if ok then .tup [r.getD zero, .b r.isSome] else r.getD zero, st)
   | _ => none
 | _ => none) Q := Iff.trans Iff.rfl Iff.rfl
theorem ZR (cfg : Cfg) (callE : CallE) (ρ : Arg → PV) (st : St) (key : Nat) (ck : Nat) (m : Arg) (k : Arg) (v : Arg) (Q : PV → St → Prop) : WV (Nae cfg callE ρ st key (.mapup ck m k v)) Q ↔ WV (match ρ m with
 | .mp j => match st.get j with
   | some (.map es) => (Na2 ck (ρ k) (ρ v) es).map fun es' => (.tup [], st.put j (some (.map es')))
   | _ => none
 | _ => none) Q := Iff.trans Iff.rfl Iff.rfl
theorem ZS (cfg : Cfg) (callE : CallE) (ρ : Arg → PV) (st : St) (key : Nat) (m : Arg) (Q : PV → St → Prop) : WV (Nae cfg callE ρ st key (.mlen m)) Q ↔ WV (match ρ m with
 | .nmp => some (.i .i64 0, st)
 | .mp j => match st.get j with
   | some (.map es) => some (.i .i64 es.length, st)
   | _ => none
 | _ => none) Q := Iff.trans Iff.rfl Iff.rfl
theorem ZT (cfg : Cfg) (callE : CallE) (ρ : Arg → PV) (st : St) (key : Nat) (x : Arg) (Q : PV → St → Prop) : WV (Nae cfg callE ρ st key (.srange x)) Q ↔ WV (match ρ x with
 | .s l => some (.ptr key 0, st.put key (some (.iter l 0)))
 | _ => none) Q := Iff.trans Iff.rfl Iff.rfl
theorem ZU (cfg : Cfg) (callE : CallE) (ρ : Arg → PV) (st : St) (key : Nat) (x : Arg) (Q : PV → St → Prop) : WV (Nae cfg callE ρ st key (.snext x)) Q ↔ WV (match ρ x with
 | .ptr k 0 => match st.get k with
   | some (.iter l p) => if p < l.length then some (.tup [.b true, .i .i64 p, .i .i32 (Utf8.decode ⟨l.toArray⟩ p).1], st.put k (some (.iter l (p + (Utf8.decode ⟨l.toArray⟩ p).2)))) else some (.tup [.b false], st)
   | _ => none
 | _ => none) Q := Iff.trans Iff.rfl Iff.rfl
theorem ZV (cfg : Cfg) (callE : CallE) (ρ : Arg → PV) (st : St) (key : Nat) (x : Arg) (Q : PV → St → Prop) : WV (Nae cfg callE ρ st key (.mark x)) Q ↔ WV (match ρ x with
 | .rsl k z off n => match st.get k with
   | some (.cells _ _) => some (.rsl k z off n, st)
   | _ => none
 | _ => none) Q := Iff.trans Iff.rfl Iff.rfl
theorem ZW (cfg : Cfg) (callE : CallE) (ρ : Arg → PV) (st : St) (key : Nat)  (Q : PV → St → Prop) : WV (Nae cfg callE ρ st key (.bad )) Q ↔ WV (none) Q := Iff.trans Iff.rfl Iff.rfl
theorem ZX (cfg : Cfg) (callE : CallE) (ρ : Arg → PV) (st : St) (key : Nat) (op : UnOp) (x : Arg) (Q : PV → St → Prop) : WV (Nae cfg callE ρ st key (.un op x)) Q ↔ WV ((unP op (ρ x)).map (·, st)) Q := Iff.trans Iff.rfl Iff.rfl
theorem ZY (cfg : Cfg) (callE : CallE) (ρ : Arg → PV) (st : St) (key : Nat) (c : Cv) (x : Arg) (Q : PV → St → Prop) : WV (Nae cfg callE ρ st key (.conv c x)) Q ↔ WV (match c, ρ x with
 | .int k, .i _ n => some (.i k (k.wrap n), st)
 | .same, .s l => some (.s l, st)
 | .s2b, .s l => if l.length ≤ maxBytes then some (.rsl key 1 0 l.length, st.put key (some (.cells (NaE l) false))) else none
 | .b2s, v => match cellsOf st 1 v with
   | some (_, cs) => (NaM? cs).map fun l => (.s l, st)
   | none => none
 | .up, .ptr k 0 => match st.get k with
   | some (.bld _) => some (.ptr k 0, st)
   | _ => none
 | .down Ts, .ptr k 0 => match st.get k with
   | some (.bld T) => if T ∈ Ts then some (.ptr k 0, st) else none
   | _ => none
 | _, _ => none) Q := Iff.trans Iff.rfl Iff.rfl
theorem ZZ (cfg : Cfg) (callE : CallE) (ρ : Arg → PV) (st : St) (key : Nat) (f : FuncId) (cap : List Arg) (Q : PV → St → Prop) : WV (Nae cfg callE ρ st key (.mkfn f cap)) Q ↔ WV (some (.fn f (cap.map ρ), st)) Q := Iff.trans Iff.rfl Iff.rfl
theorem Njo (cfg : Cfg) (callE : CallE) (ρ : Arg → PV) (st : St) (key : Nat) (f : FuncId) (pre : List Arg) (Q : PV → St → Prop) : WV (Nae cfg callE ρ st key (.mkbfn f pre)) Q ↔ WV (some (.bfn f (pre.map ρ), st)) Q := Iff.trans Iff.rfl Iff.rfl
theorem Njp (cfg : Cfg) (callE : CallE) (ρ : Arg → PV) (st : St) (key : Nat) (sz : Nat) (bytes : Nat) (zero : List PV) (l : Arg) (Q : PV → St → Prop) : WV (Nae cfg callE ρ st key (.mkslice sz bytes zero l)) Q ↔ WV (match ρ l with
 | .i _ n => if 0 ≤ n ∧ n.toNat * bytes ≤ maxBytes ∧ 0 < bytes ∧ zero.length = sz ∧ 0 < sz then some (.rsl key sz 0 n.toNat, st.put key (some (.cells (List.flatten (List.replicate n.toNat zero)) false))) else none
 | _ => none) Q := Iff.trans Iff.rfl Iff.rfl
theorem Njq (cfg : Cfg) (callE : CallE) (ρ : Arg → PV) (st : St) (key : Nat) (N : Nat) (sz : Nat) (x : Arg) (lo : Option Arg) (hi : Option Arg) (Q : PV → St → Prop) : WV (Nae cfg callE ρ st key (.slice (some N) sz x lo hi)) Q ↔ WV (match ρ x with
 | .ptr k off => match NaB (hi.map ρ) N N, st.get k with
   | some h, some (.cells cs _) => match NaB (lo.map ρ) 0 h with
     | some l => if l < N ∧ 0 < sz ∧ off + N * sz ≤ cs.length ∧ N < 4294967296 then some (.rsl k sz (off + l * sz) (h - l), st) else none
     | none => none
   | _, _ => none
 | _ => none) Q := Iff.trans Iff.rfl Iff.rfl
theorem Njr (cfg : Cfg) (callE : CallE) (ρ : Arg → PV) (st : St) (key : Nat) (sz : Nat) (x : Arg) (lo : Option Arg) (hi : Option Arg) (Q : PV → St → Prop) : WV (Nae cfg callE ρ st key (.slice none sz x lo hi)) Q ↔ WV ((NbM sz (lo.map ρ) (hi.map ρ) (ρ x)).map (·, st)) Q := Iff.trans Iff.rfl Iff.rfl
theorem Njs (cfg : Cfg) (callE : CallE) (ρ : Arg → PV) (st : St) (key : Nat) (x : Arg) (lo : Option Arg) (hi : Option Arg) (Q : PV → St → Prop) : WV (Nae cfg callE ρ st key (.substr x lo hi)) Q ↔ WV (match ρ x with
 | .s l => match NaB (hi.map ρ) l.length l.length with
   | some h => match NaB (lo.map ρ) 0 h with
     | some k => some (.s ((l.drop k).take (h - k)), st)
     | none => none
   | none => none
 | _ => none) Q := Iff.trans Iff.rfl Iff.rfl
theorem Njt (cfg : Cfg) (callE : CallE) (ρ : Arg → PV) (st : St) (key : Nat) (off : Nat) (x : Arg) (Q : PV → St → Prop) : WV (Nae cfg callE ρ st key (.fieldAddr off x)) Q ↔ WV (match ρ x with
 | .ptr k o => some (.ptr k (o + off), st)
 | .fptr cs => some (.fptr (cs.drop off), st)
 | _ => none) Q := Iff.trans Iff.rfl Iff.rfl
theorem Nju (cfg : Cfg) (callE : CallE) (ρ : Arg → PV) (st : St) (key : Nat) (agg : Bool) (off : Nat) (n : Nat) (x : Arg) (Q : PV → St → Prop) : WV (Nae cfg callE ρ st key (.field agg off n x)) Q ↔ WV (match ρ x with
 | .agg cs => match cut? cs off n with
   | some l => (Nab agg l).map (·, st)
   | none => none
 | _ => none) Q := Iff.trans Iff.rfl Iff.rfl
theorem Njv (cfg : Cfg) (callE : CallE) (ρ : Arg → PV) (st : St) (key : Nat) (N : Nat) (sz : Nat) (x : Arg) (i : Arg) (Q : PV → St → Prop) : WV (Nae cfg callE ρ st key (.indexAddr (some N) sz x i)) Q ↔ WV (match ρ x, ρ i with
 | .ptr k o, .i _ j => if 0 ≤ j ∧ j < N then some (.ptr k (o + j.toNat * sz), st) else none
 | .fptr cs, .i _ j => if 0 ≤ j ∧ j < N then some (.fptr (cs.drop (j.toNat * sz)), st) else none
 | _, _ => none) Q := Iff.trans Iff.rfl Iff.rfl
theorem Njw (cfg : Cfg) (callE : CallE) (ρ : Arg → PV) (st : St) (key : Nat) (sz : Nat) (x : Arg) (i : Arg) (Q : PV → St → Prop) : WV (Nae cfg callE ρ st key (.indexAddr none sz x i)) Q ↔ WV (match ρ x, ρ i with
 | .rsl k z off n, .i _ j => if z = sz ∧ 0 ≤ j ∧ j < n then some (.ptr k (off + j.toNat * sz), st) else none
 | .fsl n cs, .i _ j => if cs.length = n * sz ∧ 0 < sz ∧ 0 ≤ j ∧ j < n then some (.fptr (cs.drop (j.toNat * sz)), st) else none
 | _, _ => none) Q := Iff.trans Iff.rfl Iff.rfl
theorem Njx (cfg : Cfg) (callE : CallE) (ρ : Arg → PV) (st : St) (key : Nat) (len : Nat) (agg : Bool) (n : Nat) (x : Arg) (i : Arg) (Q : PV → St → Prop) : WV (Nae cfg callE ρ st key (.index len agg n x i)) Q ↔ WV (match ρ x, ρ i with
 | .agg cs, .i _ j => if 0 ≤ j ∧ j < len then match cut? cs (j.toNat * n) n with
  | some l => (Nab agg l).map (·, st)
  | none => none
   else none
 | _, _ => none) Q := Iff.trans Iff.rfl Iff.rfl
theorem NjW (cfg : Cfg) (callE : CallE) (ρ : Arg → PV) (st : St) (key : Nat) (x : Arg) (i : Arg) (Q : PV → St → Prop) : WV (Nae cfg callE ρ st key (.sindex x i)) Q ↔ WV (match ρ x, ρ i with
 | .s l, .i _ j => if 0 ≤ j then (l[j.toNat]?).map fun c => (.i .u8 c.toNat, st) else none
 | _, _ => none) Q := Iff.trans Iff.rfl Iff.rfl
theorem NjX (cfg : Cfg) (callE : CallE) (ρ : Arg → PV) (st : St) (key : Nat) (i : Nat) (x : Arg) (Q : PV → St → Prop) : WV (Nae cfg callE ρ st key (.extract i x)) Q ↔ WV (match ρ x with
 | .tup vs => (vs[i]?).map (·, st)
 | _ => none) Q := Iff.trans Iff.rfl Iff.rfl
theorem NjY (cfg : Cfg) (callE : CallE) (ρ : Arg → PV) (st : St) (key : Nat) (f : FuncId) (own : Bool) (args : List Arg) (Q : PV → St → Prop) : WV (Nae cfg callE ρ st key (.call f own args)) Q ↔ WV (NaG (Nay cfg callE f) own st key (args.map ρ)) Q := Iff.trans Iff.rfl Iff.rfl
theorem NjZ (cfg : Cfg) (callE : CallE) (ρ : Arg → PV) (st : St) (key : Nat) (f : FuncId) (args : List Arg) (Q : PV → St → Prop) : WV (Nae cfg callE ρ st key (.calle f args)) Q ↔ WV (match cfg.ext f with
 | some _ => none
 | none => callE f (args.map ρ) st) Q := Iff.trans Iff.rfl Iff.rfl
theorem Nj0 (cfg : Cfg) (callE : CallE) (ρ : Arg → PV) (st : St) (key : Nat) (f : FuncId) (args : List Arg) (Q : PV → St → Prop) : WV (Nae cfg callE ρ st key (.callq f args)) Q ↔ WV (match Nbx st (args.map ρ) with
 | some l => match Nay cfg callE f l with
   | some r => if r.closedB then Nax st key r else none
   | none => none
 | none => none) Q := Iff.trans Iff.rfl Iff.rfl
theorem Nj1 (cfg : Cfg) (callE : CallE) (ρ : Arg → PV) (st : St) (key : Nat) (f : Arg) (args : List Arg) (Q : PV → St → Prop) : WV (Nae cfg callE ρ st key (.callv f args)) Q ↔ WV (match ρ f with
 | .fn g cap => match cfg.ext g with
   | some _ => none
   | none => callE g (args.map ρ ++ cap) st
 | .bfn g pre => match cfg.ext g with
   | some _ => none
   | none => callE g (pre ++ args.map ρ) st
 | _ => none) Q := Iff.trans Iff.rfl Iff.rfl
theorem Nj2 (cfg : Cfg) (callE : CallE) (ρ : Arg → PV) (st : St) (key : Nat) (sz : Nat) (bytes : Nat) (s : Arg) (x : Arg) (Q : PV → St → Prop) : WV (Nae cfg callE ρ st key (.append sz bytes s x)) Q ↔ WV (match cellsOf st sz (ρ x) with
 | some (m, news) => if 0 < sz ∧ 0 < bytes ∧ news.all PV.one then NaH st key sz bytes m news (ρ s) else none
 | none => none) Q := Iff.trans Iff.rfl Iff.rfl
theorem Nj3 (cfg : Cfg) (callE : CallE) (ρ : Arg → PV) (st : St) (key : Nat) (s : Arg) (x : Arg) (Q : PV → St → Prop) : WV (Nae cfg callE ρ st key (.appstr s x)) Q ↔ WV (match ρ x with
 | .s l => NaH st key 1 1 l.length (NaE l) (ρ s)
 | _ => none) Q := Iff.trans Iff.rfl Iff.rfl
theorem Nj4 (cfg : Cfg) (callE : CallE) (ρ : Arg → PV) (st : St) (key : Nat) (x : Arg) (Q : PV → St → Prop) : WV (Nae cfg callE ρ st key (.len x)) Q ↔ WV ((NfG (ρ x)).map (·, st)) Q := Iff.trans Iff.rfl Iff.rfl
theorem Nj5 (cfg : Cfg) (callE : CallE) (ρ : Arg → PV) (st : St) (key : Nat) (x : Arg) (Q : PV → St → Prop) : WV (Nae cfg callE ρ st key (.slen x)) Q ↔ WV (match ρ x with
 | .s l => some (.i .i64 l.length, st)
 | _ => none) Q := Iff.trans Iff.rfl Iff.rfl
theorem Nj6 (cfg : Cfg) (callE : CallE) (ρ : Arg → PV) (st : St) (key : Nat) (n : Nat) (Q : PV → St → Prop) : WV (Nae cfg callE ρ st key (.alen n)) Q ↔ WV (some (.i .i64 n, st)) Q := Iff.trans Iff.rfl Iff.rfl
theorem Nj7 (cfg : Cfg) (callE : CallE) (ρ : Arg → PV) (st : St) (key : Nat) (sz : Nat) (d : Arg) (s : Arg) (Q : PV → St → Prop) : WV (Nae cfg callE ρ st key (.copy sz d s)) Q ↔ WV (match cellsOf st sz (ρ s) with
 | some (m, cs) => NbJ st sz m cs (ρ d)
 | none => none) Q := Iff.trans Iff.rfl Iff.rfl
theorem Nj8 (cfg : Cfg) (callE : CallE) (ρ : Arg → PV) (st : St) (key : Nat) (x : Arg) (ys : List Arg) (Q : PV → St → Prop) : WV (Nae cfg callE ρ st key (.min x ys)) Q ↔ WV ((Ngx (ρ x) (ys.map ρ)).map (·, st)) Q := Iff.trans Iff.rfl Iff.rfl
theorem Z0n_ (cfg : Cfg) (callE : CallE) (ρ : Arg → PV) (st : St) (key : Nat) (x : Arg) (ys : List Arg) (Q : PV → St → Prop) : WV (Nae cfg callE ρ st key (.max x ys)) Q ↔ WV ((Nht (ρ x) (ys.map ρ)).map (·, st)) Q := Iff.trans Iff.rfl Iff.rfl
end Go.Pe
set_option linter.unusedVariables false
set_option linter.unusedSimpArgs false
namespace Go.Pe
open Go

noncomputable def Nid (o : Option PObj) (n off : Nat) : Option (List PV) := match o with
 | some (.cells cs _) => cut? cs off n
 | some (.bld _) => cut? [.nptr, .nsl] off n
 | _ => none
theorem Njy (st : St) (n k off : Nat) : NaY st n (.ptr k off) = Nid (st.get k) n off := Eq.trans rfl rfl
theorem Njz (cs : List PV) (fz : Bool) (n off : Nat) : Nid (some (.cells cs fz)) n off = cut? cs off n := Eq.trans rfl rfl
theorem NjA (st : St) (n : Nat) (cs : List PV) : NaY st n (.fptr cs) = cut? cs 0 n := Eq.trans rfl rfl
noncomputable def NgD (st : St) (k : Nat) (o : Option PObj) (n off : Nat) (v : PV) : Option St := match o with
 | some (.cells cs false) => if v.cells.length = n ∧ off + n ≤ cs.length ∧ v.cells.all PV.one then some (st.put k (some (.cells (cs.take off ++ v.cells ++ cs.drop (off + n)) false))) else none
 | some (.bld _) => match v with
   | .ptr j 0 => if j = k ∧ off = 0 ∧ n = 1 then some (st.put k (some (.cells [.ptr k 0, .nsl] false))) else none
   | _ => none
 | _ => none
theorem NjB (st : St) (n k off : Nat) (v : PV) : Naq st n (.ptr k off) v = NgD st k (st.get k) n off v := Eq.trans rfl rfl
theorem NjC (st : St) (k : Nat) (cs : List PV) (n off : Nat) (v : PV) : NgD st k (some (.cells cs false)) n off v = if v.cells.length = n ∧ off + n ≤ cs.length ∧ v.cells.all PV.one then some (st.put k (some (.cells (cs.take off ++ v.cells ++ cs.drop (off + n)) false))) else none := Eq.trans rfl rfl
theorem NjD (st : St) (k : Nat) (o : Option PObj) : (st.put k o).get k = o := St.get_putk st k o
theorem NjE (st : St) (k k' : Nat) (o : Option PObj) (h : k ≠ k') : (st.put k o).get k' = st.get k' := St.get_put_ne h
theorem NjF (st : St) (c k : Nat) : St.get ⟨st.sto, c⟩ k = st.get k := Eq.trans rfl rfl
theorem NjG (c k : Nat) : St.get ⟨.leaf, c⟩ k = none := Eq.trans rfl rfl
theorem NjH (st : St) (k : Nat) (o : Option PObj) : (st.put k o).cnt = st.cnt := Eq.trans rfl rfl
theorem NjI (s : Trie PObj) (c : Nat) : (⟨s, c⟩ : St).cnt = c := Eq.trans rfl rfl
theorem NjJ (cs : List PV) : (PV.agg cs).cells = cs := Eq.trans rfl rfl
theorem NjK (k : IntKind) (n : Int) : (PV.i k n).cells = [.i k n] := Eq.trans rfl rfl
theorem NjL (x : Bool) : (PV.b x).cells = [.b x] := Eq.trans rfl rfl
theorem NjM (l : List UInt8) : (PV.s l).cells = [.s l] := Eq.trans rfl rfl
theorem NjN : PV.nsl.cells = [.nsl] := Eq.trans rfl rfl
theorem NjO (n : Nat) (l : List PV) : (PV.fsl n l).cells = [.fsl n l] := Eq.trans rfl rfl
theorem NjP (a b c d : Nat) : (PV.rsl a b c d).cells = [.rsl a b c d] := Eq.trans rfl rfl
theorem NjQ (a b : Nat) : (PV.ptr a b).cells = [.ptr a b] := Eq.trans rfl rfl
theorem NjR (a : Nat) : (PV.mp a).cells = [.mp a] := Eq.trans rfl rfl
theorem NjS (k : IntKind) (n : Int) : (PV.i k n).one = true := Eq.trans rfl rfl
theorem NjT (x : Bool) : (PV.b x).one = true := Eq.trans rfl rfl
theorem NjU (l : List UInt8) : (PV.s l).one = true := Eq.trans rfl rfl
theorem NjV : PV.nsl.one = true := Eq.trans rfl rfl
theorem Nka (n : Nat) (l : List PV) : (PV.fsl n l).one = true := Eq.trans rfl rfl
theorem Nkb (a b c d : Nat) : (PV.rsl a b c d).one = true := Eq.trans rfl rfl
theorem Nkc (a b : Nat) : (PV.ptr a b).one = true := Eq.trans rfl rfl
theorem Nkd (a : Nat) : (PV.mp a).one = true := Eq.trans rfl rfl
theorem Nke : PV.nptr.one = true := Eq.trans rfl rfl
theorem Nkf : PV.nmp.one = true := Eq.trans rfl rfl
theorem Nkg (cs : List PV) (off n : Nat) : cut? cs off n = if off + n ≤ cs.length then some ((cs.drop off).take n) else none := Eq.trans rfl rfl
theorem Nkh (cs : List PV) : NaA cs [] = some cs := by unfold NaA; rfl
theorem Nki (cs : List PV) (off n : Nat) (v : PV) (r : List (Nat × Nat × PV)) : NaA cs ((off, n, v) :: r) = if v.cells.length = n ∧ off + n ≤ cs.length ∧ v.cells.all PV.one then NaA (cs.take off ++ v.cells ++ cs.drop (off + n)) r else none := by rw [NaA]
theorem Nkj (xs ys : List PV) : Nem [] xs ys = some true := by unfold Nem; rfl
def eqC (r : Option Bool) (k : Option Bool) : Option Bool := match r with
 | some true => k
 | some false => some false
 | none => none
def NiT (ck : Nat) (p q : Option PV) : Option Bool := match p, q with
 | some p, some q => eq1 ck p q
 | _, _ => none
theorem Nkk (o ck : Nat) (r : List (Nat × Nat)) (xs ys : List PV) : Nem ((o, ck) :: r) xs ys = eqC (NiT ck xs[o]? ys[o]?) (Nem r xs ys) := by
 rw [Nem]
 unfold eqC NiT
 cases xs[o]? <;> cases ys[o]? <;> simp
 rename_i p q
 cases eq1 ck p q with
 | none => rfl
 | some b => cases b <;> rfl
theorem Nkl (k : Option Bool) : eqC (some true) k = k := Eq.trans rfl rfl
theorem Nkm (k : Option Bool) : eqC (some false) k = some false := Eq.trans rfl rfl
theorem Nkn (ck : Nat) (p q : PV) : NiT ck (some p) (some q) = eq1 ck p q := Eq.trans rfl rfl
theorem Nko (k : IntKind) (a c : Int) : eq1 0 (.i k a) (.i k c) = some (a == c) := by simp [eq1]
theorem Nkp (x y : Bool) : eq1 1 (.b x) (.b y) = some (x == y) := by simp [eq1]
theorem Nkq (x y : List UInt8) : eq1 2 (.s x) (.s y) = some (x == y) := by simp [eq1]
theorem Nkr : (true != false) = true := Eq.trans rfl rfl
theorem Nks : (false != false) = false := Eq.trans rfl rfl
theorem Nkt : (true != true) = false := Eq.trans rfl rfl
theorem Z1k_ : (false != true) = true := Eq.trans rfl rfl
theorem NhE {P : Program} {Gl : Gmap} {cfg : Cfg} (hc : CfgOK P Gl cfg) {f : FuncId} {g : List PV → Option PV} (h : ∀ args r, g args = some r → ∃ fuel, evP cfg fuel f args = some r) : NaX P Gl f g := by
 intro args r hr
 obtain ⟨fuel, hf⟩ := h args r hr
 exact Ne9 hc fuel _ args r hf
theorem NhV {cfg : Cfg} {f : FuncId} (hx : cfg.ext f = none) {fuel : Nat} {args : List PV} {r : PV} (ho : Nao args = (args, { sto := .leaf, cnt := 1 })) (h : ∃ r' st', Nbj cfg fuel f args { sto := .leaf, cnt := 1 } = some (r', st') ∧ NaP st' r' = some r) : evP cfg fuel f args = some r := by
 obtain ⟨r', st', h1, h2⟩ := h
 unfold evP Nay
 simp only [hx]
 unfold NdR
 rw [ho, h1]
 exact h2
end Go.Pe
set_option linter.unusedVariables false
set_option linter.unusedSimpArgs false
namespace Go.Pe
open Go Go.Am Go.RowKit

theorem Nfx (c : UInt8) : ∀ (l : List UInt8) (n : Nat), Ndl c l n = if Lib.indexByte l c = -1 then -1 else Lib.indexByte l c + n
 | [], n => by simp [Ndl, Lib.indexByte]
 | b :: l, n => by
   have h := Lib.indexByte_ge l c
   unfold Ndl Lib.indexByte
   by_cases hb : b = c
   ·simp [hb]
   ·rw [Nfx c l (n + 1)]
    by_cases h1 : Lib.indexByte l c = -1
    ·simp [hb, h1]
    ·have h2 : ¬ (Lib.indexByte l c + 1 = -1) := by omega
     simp [hb, h1, h2]
     omega
theorem NdW (c : UInt8) : ∀ (l : List UInt8) (n : Nat), NeI c l n = l.count c + n
 | [], n => by simp [NeI]
 | b :: l, n => by
   unfold NeI
   rw [NdW c l]
   by_cases hb : b = c
   ·simp [hb]; omega
   ·simp [hb, List.count_cons]
theorem Nfh (sub : List UInt8) : ∀ (l : List UInt8), Nfg sub l = Lib.contains l sub
 | [] => by
   unfold Nfg Lib.contains Lib.index
   cases sub <;> simp
 | b :: l => by
   have h := Lib.index_ge l sub
   unfold Nfg
   rw [Nfh sub l]
   unfold Lib.contains
   rw [Lib.index]
   by_cases hb : sub.isPrefixOf (b :: l) = true
   ·simp [hb]
   ·by_cases h1 : Lib.index l sub = -1
    ·simp [hb, h1]
    ·simp [hb, h1]
     omega
theorem FC.two {F : Nat → Nat → Option Value} {vs : List Value} {p q : PV} (h : FC F vs [p, q]) : ∃ u v, vs = [u, v] ∧ FRel F u p ∧ FRel F v q := by
 match vs, h with
 | [u, v], h => exact ⟨u, v, rfl, h.2 0 u p rfl rfl, h.2 1 v q rfl rfl⟩
 | [], h => have := h.1; simp at this
 | [_], h => have := h.1; simp at this
 | _ :: _ :: _ :: _, h => have := h.1; simp at this
theorem FRel.s_inv {F : Nat → Nat → Option Value} {v : Value} {l : List UInt8} (h : FRel F v (.s l)) : v = .string ⟨l.toArray⟩ := by cases h; rfl
theorem FRel.i_inv {F : Nat → Nat → Option Value} {v : Value} {k : IntKind} {n : Int} (h : FRel F v (.i k n)) : v = .int k n := by cases h; rfl
theorem NdX {P : Program} {Gl : Gmap} {f : FuncId} {gb : Nat} {m : Int} (hg : Gl gb 0 = some (.int .i64 m)) (hc : ∀ (s sub : ByteArray) (m : Int) (w : World), s.size < 4294967281 → w.cell? ⟨gb, 0, none⟩ = some (.int .i64 m) →
 Calls P f #[.string s, .string sub] w fun e w' => e = .returned (.bool (Lib.contains s.data.toList sub.data.toList)) ∧ w' = w) : NaX P Gl f gContains := by
 refine NbY fun args r hr => ?_
 unfold gContains at hr
 split at hr
 ·rename_i a b
  split at hr
  ·rename_i hl
   simp only [Sj] at hr
   subst hr
   refine ⟨rfl, rfl, fun vs F w hw hf => ?_⟩
   obtain ⟨u, v, rfl, hu, hv⟩ := hf.two
   rw [hu.s_inv, hv.s_inv]
   refine (hc ⟨a.toArray⟩ ⟨b.toArray⟩ m w (by simpa [ByteArray.size] using hl) (hw _ _ _ hg)).mono ?_
   rintro e w' ⟨rfl, rfl⟩
   exact ⟨_, rfl, by rw [Nfh]; exact .b _, rfl⟩
  ·simp at hr
 ·simp at hr
theorem NfS {P : Program} {Gl : Gmap} {f : FuncId} (hc : ∀ (s : ByteArray) (c : UInt8) (w : World),
 Calls P f #[.string s, .string ⟨#[c]⟩] w fun e w' => e = .returned (.int .i64 (Lib.countByte s.data.toList c)) ∧ w' = w) : NaX P Gl f gCount := by
 refine NbY fun args r hr => ?_
 unfold gCount at hr
 split at hr
 ·rename_i a c
  simp only [Sj] at hr
  subst hr
  refine ⟨rfl, rfl, fun vs F w hw hf => ?_⟩
  obtain ⟨u, v, rfl, hu, hv⟩ := hf.two
  rw [hu.s_inv, hv.s_inv]
  refine (hc ⟨a.toArray⟩ c w).mono ?_
  rintro e w' ⟨rfl, rfl⟩
  exact ⟨_, rfl, by rw [NdW]; exact .i _ _, rfl⟩
 ·simp at hr
theorem Ndy {P : Program} {Gl : Gmap} {f : FuncId} (hc : ∀ (s : ByteArray) (c : Int) (w : World),
 Calls P f #[.string s, .int .u8 c] w fun e w' => e = .returned (.int .i64 (Lib.indexByte s.data.toList c.toNat.toUInt8)) ∧ w' = w) : NaX P Gl f gIndexByte := by
 refine NbY fun args r hr => ?_
 unfold gIndexByte at hr
 split at hr
 ·rename_i a c
  simp only [Sj] at hr
  subst hr
  refine ⟨rfl, rfl, fun vs F w hw hf => ?_⟩
  obtain ⟨u, v, rfl, hu, hv⟩ := hf.two
  rw [hu.s_inv, hv.i_inv]
  refine (hc ⟨a.toArray⟩ c w).mono ?_
  rintro e w' ⟨rfl, rfl⟩
  refine ⟨_, rfl, ?_, rfl⟩
  have : Ndl c.toNat.toUInt8 a 0 = Lib.indexByte a c.toNat.toUInt8 := by
   rw [Nfx]
   split
   ·rename_i h; rw [h]
   ·simp
  rw [this]; exact .i _ _
 ·simp at hr
theorem Xp : type_of% @Z1 ∧ type_of% @Z2 ∧ type_of% @Z3 ∧ type_of% @Z4 ∧ type_of% @Z5 ∧ type_of% @Z6 ∧ type_of% @Z7 ∧ type_of% @Zb ∧ type_of% @Zc ∧ type_of% @Ze ∧ type_of% @Zf ∧ type_of% @Zg ∧ type_of% @Zh ∧ type_of% @Zi ∧ type_of% @Zm ∧ type_of% @Zn ∧ type_of% @Zj ∧ type_of% @Zq ∧ type_of% @Zr ∧ type_of% @Zx ∧ type_of% @Zy ∧ type_of% @Zz ∧ type_of% @ZA ∧ type_of% @ZB ∧ type_of% @ZC ∧ type_of% @ZD ∧ type_of% @ZE ∧ type_of% @ZF ∧ type_of% @ZG ∧ type_of% @ZH ∧ type_of% @ZI ∧ type_of% @ZJ ∧ type_of% @ZK ∧ type_of% @ZL ∧ type_of% @ZM ∧ type_of% @ZN ∧ type_of% @ZO ∧ type_of% @ZP ∧ type_of% @ZQ ∧ type_of% @ZR ∧ type_of% @ZS ∧ type_of% @ZT ∧ type_of% @ZU ∧ type_of% @ZV ∧ type_of% @ZW ∧ type_of% @ZX ∧ type_of% @ZY ∧ type_of% @ZZ ∧ type_of% @Njo ∧ type_of% @Njp ∧ type_of% @Njq ∧ type_of% @Njr ∧ type_of% @Njs ∧ type_of% @Njt ∧ type_of% @Nju ∧ type_of% @Njv ∧ type_of% @Njw ∧ type_of% @Njx ∧ type_of% @NjW ∧ type_of% @NjX ∧ type_of% @NjY ∧ type_of% @NjZ ∧ type_of% @Nj0 ∧ type_of% @Nj1 ∧ type_of% @Nj2 ∧ type_of% @Nj3 ∧ type_of% @Nj4 ∧ type_of% @Nj5 ∧ type_of% @Nj6 ∧ type_of% @Nj7 ∧ type_of% @Nj8 ∧ type_of% @Z0n_ := ⟨@Z1, @Z2, @Z3, @Z4, @Z5, @Z6, @Z7, @Zb, @Zc, @Ze, @Zf, @Zg, @Zh, @Zi, @Zm, @Zn, @Zj, @Zq, @Zr, @Zx, @Zy, @Zz, @ZA, @ZB, @ZC, @ZD, @ZE, @ZF, @ZG, @ZH, @ZI, @ZJ, @ZK, @ZL, @ZM, @ZN, @ZO, @ZP, @ZQ, @ZR, @ZS, @ZT, @ZU, @ZV, @ZW, @ZX, @ZY, @ZZ, @Njo, @Njp, @Njq, @Njr, @Njs, @Njt, @Nju, @Njv, @Njw, @Njx, @NjW, @NjX, @NjY, @NjZ, @Nj0, @Nj1, @Nj2, @Nj3, @Nj4, @Nj5, @Nj6, @Nj7, @Nj8, @Z0n_⟩
theorem Xt : type_of% @NiC ∧ type_of% @NiD ∧ type_of% @NiE ∧ type_of% @NiF ∧ type_of% @NiG ∧ type_of% @Z0A_ := ⟨@NiC, @NiD, @NiE, @NiF, @NiG, @Z0A_⟩
theorem Xq : type_of% @Z1 ∧ type_of% @Z7 ∧ type_of% @Zb ∧ type_of% @Zc ∧ type_of% @Ze ∧ type_of% @Zf ∧ type_of% @Zg ∧ type_of% @Zh ∧ type_of% @Zi ∧ type_of% @Zm ∧ type_of% @Zn ∧ type_of% @Zo ∧ type_of% @Zj ∧ type_of% @Zq ∧ type_of% @Zr ∧ type_of% @Zx ∧ type_of% @Zz ∧ type_of% @NiA ∧ type_of% @NhL ∧ type_of% @NiB ∧ type_of% @NiL ∧ type_of% @NiM ∧ type_of% @NiN ∧ type_of% @NiC ∧ type_of% @NiD ∧ type_of% @NiE ∧ type_of% @NiF ∧ type_of% @NiG ∧ type_of% @Z0A_ ∧ type_of% @Env.get_put ∧ type_of% @Env.get_leaf ∧ type_of% @map_some ∧ type_of% @ZA ∧ type_of% @Z0B_ := ⟨@Z1, @Z7, @Zb, @Zc, @Ze, @Zf, @Zg, @Zh, @Zi, @Zm, @Zn, @Zo, @Zj, @Zq, @Zr, @Zx, @Zz, @NiA, @NhL, @NiB, @NiL, @NiM, @NiN, @NiC, @NiD, @NiE, @NiF, @NiG, @Z0A_, @Env.get_put, @Env.get_leaf, @map_some, @ZA, @Z0B_⟩
theorem Xc : type_of% @List.length_cons.{0} ∧ type_of% @List.length_nil.{0} ∧ type_of% @Nat.add_assoc ∧ type_of% @ne_eq.{1} ∧ type_of% @not_true_eq_false ∧ type_of% @decide_eq_true_eq ∧ type_of% @decide_true ∧ type_of% @decide_false ∧ type_of% @Bool.false_eq_true ∧ type_of% @Int.toNat_natCast ∧ type_of% @and_true ∧ type_of% @true_and ∧ type_of% @Bool.not_true ∧ type_of% @Bool.not_false ∧ type_of% @Option.map_none.{0, 0} ∧ type_of% @List.map_cons.{0, 0} ∧ type_of% @List.map_nil.{0, 0} ∧ type_of% @eq_self_iff_true.{1} ∧ type_of% @Bool.true_eq_false := ⟨@List.length_cons.{0}, @List.length_nil.{0}, @Nat.add_assoc, @ne_eq.{1}, @not_true_eq_false, @decide_eq_true_eq, @decide_true, @decide_false, @Bool.false_eq_true, @Int.toNat_natCast, @and_true, @true_and, @Bool.not_true, @Bool.not_false, @Option.map_none.{0, 0}, @List.map_cons.{0, 0}, @List.map_nil.{0, 0}, @eq_self_iff_true.{1}, @Bool.true_eq_false⟩
theorem Xm : type_of% @Njy ∧ type_of% @Njz ∧ type_of% @NjA ∧ type_of% @NjB ∧ type_of% @NjC ∧ type_of% @NjD ∧ type_of% @NjE ∧ type_of% @NjF ∧ type_of% @NjG ∧ type_of% @NjH ∧ type_of% @NjI ∧ type_of% @NjJ ∧ type_of% @NjK ∧ type_of% @NjL ∧ type_of% @NjM ∧ type_of% @NjN ∧ type_of% @NjO ∧ type_of% @NjP ∧ type_of% @NjQ ∧ type_of% @NjR ∧ type_of% @NjS ∧ type_of% @NjT ∧ type_of% @NjU ∧ type_of% @NjV ∧ type_of% @Nka ∧ type_of% @Nkb ∧ type_of% @Nkc ∧ type_of% @Nkd ∧ type_of% @Nke ∧ type_of% @Nkf ∧ type_of% @Nkg ∧ type_of% @Nkh ∧ type_of% @Nki ∧ type_of% @Nkj ∧ type_of% @Nkk ∧ type_of% @Nkl ∧ type_of% @Nkm ∧ type_of% @Nkn ∧ type_of% @Nko ∧ type_of% @Nkp ∧ type_of% @Nkq ∧ type_of% @List.take_succ_cons.{0} ∧ type_of% @List.take_zero.{0} ∧ type_of% @List.drop_succ_cons.{0} ∧ type_of% @List.drop_zero.{0} ∧ type_of% @List.cons_append.{0} ∧ type_of% @List.nil_append.{0} ∧ type_of% @List.append_nil.{0} ∧ type_of% @List.all_cons.{0} ∧ type_of% @List.all_nil.{0} ∧ type_of% @Bool.and_self ∧ type_of% @Bool.and_true ∧ type_of% @Bool.true_and ∧ type_of% @Nat.zero_add ∧ type_of% @Nat.add_zero ∧ type_of% @Nat.le_refl ∧ type_of% @List.getElem?_cons_zero.{0} ∧ type_of% @List.getElem?_cons_succ.{0} ∧ type_of% @Nat.add_left_cancel_iff ∧ type_of% @Nat.left_eq_add ∧ type_of% @Nat.add_eq_left ∧ type_of% @not_false_eq_true ∧ type_of% @Nkr ∧ type_of% @Nks ∧ type_of% @Nkt ∧ type_of% @Z1k_ := ⟨@Njy, @Njz, @NjA, @NjB, @NjC, @NjD, @NjE, @NjF, @NjG, @NjH, @NjI, @NjJ, @NjK, @NjL, @NjM, @NjN, @NjO, @NjP, @NjQ, @NjR, @NjS, @NjT, @NjU, @NjV, @Nka, @Nkb, @Nkc, @Nkd, @Nke, @Nkf, @Nkg, @Nkh, @Nki, @Nkj, @Nkk, @Nkl, @Nkm, @Nkn, @Nko, @Nkp, @Nkq, @List.take_succ_cons.{0}, @List.take_zero.{0}, @List.drop_succ_cons.{0}, @List.drop_zero.{0}, @List.cons_append.{0}, @List.nil_append.{0}, @List.append_nil.{0}, @List.all_cons.{0}, @List.all_nil.{0}, @Bool.and_self, @Bool.and_true, @Bool.true_and, @Nat.zero_add, @Nat.add_zero, @Nat.le_refl, @List.getElem?_cons_zero.{0}, @List.getElem?_cons_succ.{0}, @Nat.add_left_cancel_iff, @Nat.left_eq_add, @Nat.add_eq_left, @not_false_eq_true, @Nkr, @Nks, @Nkt, @Z1k_⟩
end Go.Pe
