/-
 The interpreter of plain data, quick for the kernel; a logic for it; the library's functions; memory. No condition; nothing of the program.
-/
import Derived.Test.YtnnokaklkegngaaDoorPe3
import Derived.Laws.BitsLemmas
import Derived.Laws.Bits64
import Derived.Lib.Bytealg
import Derived.Lib.IndexMore
set_option linter.unusedVariables false
set_option linter.unusedSimpArgs false
namespace Go.Pe
open Go
noncomputable section
abbrev FArm := Cfg → CallE → (Arg → PV) → St → Nat → Option (PV × St)
def NkA (x : Arg) : FArm := fun cfg callE ρ st key => some (ρ x, st)
def NhR (c a b : Arg) : FArm := fun cfg callE ρ st key => match ρ c with
    | .b x => some (if x then ρ a else ρ b, st)
    | _ => none
def Nhm (zero : List PV) : FArm := fun cfg callE ρ st key => some (.ptr key 0, st.put key (some (.cells zero false)))
def NiI (x : Arg) : FArm := fun cfg callE ρ st key => if (ρ x).cells.all PV.one then some (.ptr key 0, st.put key (some (.cells (ρ x).cells false))) else none
def Ng2 (zero : List PV) (parts : List (Nat × Nat × Arg)) : FArm := fun cfg callE ρ st key => (NaH zero (parts.map fun p => (p.1, p.2.1, ρ p.2.2))).map fun cs => (.agg cs, st)
def Nf5 (len sz : Nat) (zero : List PV) (parts : List (Nat × Nat × Arg)) : FArm := fun cfg callE ρ st key => match NaH zero (parts.map fun p => (p.1, p.2.1, ρ p.2.2)) with
    | some cs => if 0 < sz ∧ cs.length = len * sz then some (.rsl key sz 0 len, st.put key (some (.cells cs false))) else none
    | none => none
def Nie (agg : Bool) (n : Nat) (a : Arg) : FArm := fun cfg callE ρ st key => match NaR st n (ρ a) with
    | some cs => (Naa agg cs).map (·, st)
    | none => none
def Nhx (n : Nat) (a x : Arg) : FArm := fun cfg callE ρ st key => (NaA st n (ρ a) (ρ x)).map (.tup [], ·)
def Ng5 (x : Arg) : FArm := fun cfg callE ρ st key => match ρ x with
    | .ptr k o => some (.ptr k o, st)
    | .fptr cs => some (.fptr cs, st)
    | _ => none
def Ni2 (op : BinOp) (x y : Arg) : FArm := fun cfg callE ρ st key => (Nai op (ρ x) (ρ y)).map (·, st)
def NiJ (neg : Bool) (x y : Arg) : FArm := fun cfg callE ρ st key => (NgU neg (ρ x) (ρ y)).map (·, st)
def NiP (kd : Nat) (neg : Bool) (x y : Arg) : FArm := fun cfg callE ρ st key => (NhT kd neg (ρ x) (ρ y)).map (·, st)
def NiE (neg : Bool) (fs : List (Nat × Nat)) (x y : Arg) : FArm := fun cfg callE ρ st key => match ρ x, ρ y with
    | .agg ps, .agg qs => (NeD fs ps qs).map fun b => (.b (b != neg), st)
    | _, _ => none
def NgS  : FArm := fun cfg callE ρ st key => some (.mp key, st.put key (some (.map [])))
def Nf1 (ck : Nat) (ok : Bool) (zero : PV) (m k : Arg) : FArm := fun cfg callE ρ st key => match ρ m with
    | .nmp => some (if ok then .tup [zero, .b false] else zero, st)
    | .mp j => match st.get j with
      | some (.map es) => (NaZ ck (ρ k) es).map fun r => (if ok then .tup [r.getD zero, .b r.isSome] else r.getD zero, st)
      | _ => none
    | _ => none
def Nhr (ck : Nat) (m k v : Arg) : FArm := fun cfg callE ρ st key => match ρ m with
    | .mp j => match st.get j with
      | some (.map es) => (Nbf ck (ρ k) (ρ v) es).map fun es' => (.tup [], st.put j (some (.map es')))
      | _ => none
    | _ => none
def NhE (m : Arg) : FArm := fun cfg callE ρ st key => match ρ m with
    | .nmp => some (.i .i64 0, st)
    | .mp j => match st.get j with
      | some (.map es) => some (.i .i64 es.length, st)
      | _ => none
    | _ => none
def NfZ (x : Arg) : FArm := fun cfg callE ρ st key => match ρ x with
    | .s l => some (.ptr key 0, st.put key (some (.iter l 0)))
    | _ => none
def Nhd (x : Arg) : FArm := fun cfg callE ρ st key => match ρ x with
    | .ptr k 0 => match st.get k with
      | some (.iter l p) => if p < l.length then some (.tup [.b true, .i .i64 p, .i .i32 (Utf8.decode ⟨l.toArray⟩ p).1], st.put k (some (.iter l (p + (Utf8.decode ⟨l.toArray⟩ p).2)))) else some (.tup [.b false], st)
      | _ => none
    | _ => none
def Nij (x : Arg) : FArm := fun cfg callE ρ st key => match ρ x with
    | .rsl k z off n => match st.get k with
      | some (.cells _ _) => some (.rsl k z off n, st)
      | _ => none
    | _ => none
def NiX  : FArm := fun cfg callE ρ st key => none
def Nkw (op : UnOp) (x : Arg) : FArm := fun cfg callE ρ st key => (unP op (ρ x)).map (·, st)
def NhB (c : Cv) (x : Arg) : FArm := fun cfg callE ρ st key => match c, ρ x with
    | .int k, .i _ n => some (.i k (k.wrap n), st)
    | .same, .s l => some (.s l, st)
    | .s2b, .s l => if l.length ≤ NaB then some (.rsl key 1 0 l.length, st.put key (some (.cells (NaL l) false))) else none
    | .b2s, v => match cellsOf st 1 v with
      | some (_, cs) => (bytesOf? cs).map fun l => (.s l, st)
      | none => none
    | _, _ => none
def NhW (f : FuncId) (cap : List Arg) : FArm := fun cfg callE ρ st key => some (.fn f (cap.map ρ), st)
def Nhk (f : FuncId) (pre : List Arg) : FArm := fun cfg callE ρ st key => some (.bfn f (pre.map ρ), st)
def NfG (sz bytes : Nat) (zero : List PV) (l : Arg) : FArm := fun cfg callE ρ st key => match ρ l with
    | .i _ n => if 0 ≤ n ∧ n.toNat * bytes ≤ NaB ∧ 0 < bytes ∧ zero.length = sz ∧ 0 < sz then some (.rsl key sz 0 n.toNat, st.put key (some (.cells (List.flatten (List.replicate n.toNat zero)) false))) else none
    | _ => none
def Nhl (arr : Option Nat) (sz : Nat) (x : Arg) (lo hi : Option Arg) : FArm := fun cfg callE ρ st key => match arr with
 | some N => match ρ x with
  | .ptr k off => match NaJ (hi.map ρ) N N, st.get k with
    | some h, some (.cells cs _) => match NaJ (lo.map ρ) 0 h with
      | some l => if l < N ∧ 0 < sz ∧ off + N * sz ≤ cs.length ∧ N < 4294967296 then some (.rsl k sz (off + l * sz) (h - l), st) else none
      | none => none
    | _, _ => none
  | _ => none
 | none => (NbY sz (lo.map ρ) (hi.map ρ) (ρ x)).map (·, st)
def NfN (x : Arg) (lo hi : Option Arg) : FArm := fun cfg callE ρ st key => match ρ x with
    | .s l => match NaJ (hi.map ρ) l.length l.length with
      | some h => match NaJ (lo.map ρ) 0 h with
        | some k => some (.s ((l.drop k).take (h - k)), st)
        | none => none
      | none => none
    | _ => none
def Nd2 (off : Nat) (x : Arg) : FArm := fun cfg callE ρ st key => match ρ x with
    | .ptr k o => some (.ptr k (o + off), st)
    | .fptr cs => some (.fptr (cs.drop off), st)
    | _ => none
def NgW (agg : Bool) (off n : Nat) (x : Arg) : FArm := fun cfg callE ρ st key => match ρ x with
    | .agg cs => match cut? cs off n with
      | some l => (Naa agg l).map (·, st)
      | none => none
    | _ => none
def Nd4 (arr : Option Nat) (sz : Nat) (x i : Arg) : FArm := fun cfg callE ρ st key => match arr with
 | some N => match ρ x, ρ i with
  | .ptr k o, .i _ j => if 0 ≤ j ∧ j < N then some (.ptr k (o + j.toNat * sz), st) else none
  | .fptr cs, .i _ j => if 0 ≤ j ∧ j < N then some (.fptr (cs.drop (j.toNat * sz)), st) else none
  | _, _ => none
 | none => match ρ x, ρ i with
  | .rsl k z off n, .i _ j => if z = sz ∧ 0 ≤ j ∧ j < n then some (.ptr k (off + j.toNat * sz), st) else none
  | .fsl n cs, .i _ j => if cs.length = n * sz ∧ 0 < sz ∧ 0 ≤ j ∧ j < n then some (.fptr (cs.drop (j.toNat * sz)), st) else none
  | _, _ => none
def Ng4 (len : Nat) (agg : Bool) (n : Nat) (x i : Arg) : FArm := fun cfg callE ρ st key => match ρ x, ρ i with
    | .agg cs, .i _ j => if 0 ≤ j ∧ j < len then match cut? cs (j.toNat * n) n with
     | some l => (Naa agg l).map (·, st)
     | none => none
      else none
    | _, _ => none
def Ngh (x i : Arg) : FArm := fun cfg callE ρ st key => match ρ x, ρ i with
    | .s l, .i _ j => if 0 ≤ j then (l[j.toNat]?).map fun c => (.i .u8 c.toNat, st) else none
    | _, _ => none
def Nfw (i : Nat) (x : Arg) : FArm := fun cfg callE ρ st key => match ρ x with
    | .tup vs => (vs[i]?).map (·, st)
    | _ => none
def Nh1 (f : FuncId) (own : Bool) (args : List Arg) : FArm := fun cfg callE ρ st key => Nau (Nam cfg callE f) own st key (args.map ρ)
def Nhn (f : FuncId) (args : List Arg) : FArm := fun cfg callE ρ st key => match cfg.ext f with
    | some _ => none
    | none => callE f (args.map ρ) st
def Nhi (f : FuncId) (args : List Arg) : FArm := fun cfg callE ρ st key => match Na8 st (args.map ρ) with
    | some l => match Nam cfg callE f l with
      | some r => if r.closedB then Nay st key r else none
      | none => none
    | none => none
def Nhc (f : Arg) (args : List Arg) : FArm := fun cfg callE ρ st key => match ρ f with
    | .fn g cap => match cfg.ext g with
      | some _ => none
      | none => callE g (args.map ρ ++ cap) st
    | .bfn g pre => match cfg.ext g with
      | some _ => none
      | none => callE g (pre ++ args.map ρ) st
    | _ => none
def NfL (sz bytes : Nat) (s x : Arg) : FArm := fun cfg callE ρ st key => match cellsOf st sz (ρ x) with
    | some (m, news) => if 0 < sz ∧ 0 < bytes ∧ news.all PV.one then NaI st key sz bytes m news (ρ s) else none
    | none => none
def NfY (s x : Arg) : FArm := fun cfg callE ρ st key => match ρ x with
    | .s l => NaI st key 1 1 l.length (NaL l) (ρ s)
    | _ => none
def NiV (x : Arg) : FArm := fun cfg callE ρ st key => (Nfy (ρ x)).map (·, st)
def NhK (x : Arg) : FArm := fun cfg callE ρ st key => match ρ x with
    | .s l => some (.i .i64 l.length, st)
    | _ => none
def NhC (n : Nat) : FArm := fun cfg callE ρ st key => some (.i .i64 n, st)
def Nh5 (sz : Nat) (d s : Arg) : FArm := fun cfg callE ρ st key => match cellsOf st sz (ρ s) with
    | some (m, cs) => NbV st sz m cs (ρ d)
    | none => none
def NiG (x : Arg) (ys : List Arg) : FArm := fun cfg callE ρ st key => (Ngy (ρ x) (ys.map ρ)).map (·, st)
def NiQ (x : Arg) (ys : List Arg) : FArm := fun cfg callE ρ st key => (Nhg (ρ x) (ys.map ρ)).map (·, st)
def fOp (m : MOp) : FArm := MOp.rec (motive := fun _ => FArm) NkA NhR Nhm NiI Ng2 Nf5 Nie Nhx Ng5 Ni2 NiJ NiP NiE NgS Nf1 Nhr NhE NfZ Nhd Nij NiX Nkw NhB NhW Nhk NfG Nhl NfN Nd2 NgW Nd4 Ng4 Ngh Nfw Nh1 Nhn Nhi Nhc NfL NfY NiV NhK NhC Nh5 NiG NiQ m
theorem NhV (m : MOp) (cfg : Cfg) (callE : CallE) (ρ : Arg → PV) (st : St) (key : Nat) : fOp m cfg callE ρ st key = Nak cfg callE ρ st key m := by
 cases m with
 | slice arr sz x lo hi => cases arr <;> rfl
 | indexAddr arr sz x i => cases arr <;> rfl
 | _ => rfl
def rdF (env loc : Env) (a : Arg) : PV := Arg.rec (motive := fun _ => PV) (fun t => Env.get env t) (fun t => Env.get loc t) (fun v => v) a
theorem Nfz (env loc : Env) (st : St) : rdF env loc = Loc.rd { env, loc, st } := by
 funext a; cases a <;> rfl
def Niu (l : List MOper) : Nat := List.rec (motive := fun _ => Nat) 0 (fun _ _ ih => Nat.add ih 1) l
theorem NfA : ∀ l : List MOper, Niu l = l.length
 | [] => rfl
 | _ :: l => by show Nat.add (Niu l) 1 = _; rw [NfA l]; rfl
abbrev FOps := Nat → Env → Env → St → Option Loc
def Niw (ih : FOps) (dst : MDst) (key : Nat) (env loc : Env) (v : PV) (st : St) : Option Loc :=
 MDst.rec (motive := fun _ => Option Loc) (ih (Nat.add key 8) env loc st) (fun t => ih (Nat.add key 8) (Env.put env t v) loc st) (fun t => ih (Nat.add key 8) env (Env.put loc t v) st) dst
def NeF (cfg : Cfg) (callE : CallE) (dst : MDst) (op : MOp) (ih : FOps) (key : Nat) (env loc : Env) (st : St) : Option Loc :=
 Option.rec (motive := fun _ => Option Loc) none (fun p => Prod.rec (motive := fun _ => Option Loc) (fun v st' => Niw ih dst key env loc v st') p) (fOp op cfg callE (rdF env loc) st key)
def Ndw (v : PV) (want : Bool) : Option Bool := match v with
 | .b y => some (y == want)
 | .tup [] => some false
 | _ => none
def Nkt (cfg : Cfg) (callE : CallE) (o : MOper) (ih : FOps) (key : Nat) (env loc : Env) (st : St) : Option Loc :=
 MOper.rec (motive := fun _ => Option Loc) (fun dst op guard => Option.rec (motive := fun _ => Option Loc) (NeF cfg callE dst op ih key env loc st)
  (fun g => Prod.rec (motive := fun _ => Option Loc) (fun x want => Option.rec (motive := fun _ => Option Loc) none (fun b => Bool.rec (motive := fun _ => Option Loc) (Niw ih dst key env loc (.tup []) st) (NeF cfg callE dst op ih key env loc st) b) (Ndw (rdF env loc x) want)) g) guard) o
def Nhz (cfg : Cfg) (callE : CallE) (l : List MOper) : FOps := List.rec (motive := fun _ => FOps) (fun _ env loc st => some { env, loc, st }) (fun o _ ih => Nkt cfg callE o ih) l
theorem NfB {cfg : Cfg} {callE : CallE} {ih : FOps} {l : List MOper} (h : ∀ key env loc st, ih key env loc st = NaG cfg callE l key { env, loc, st }) (dst : MDst) (key : Nat) (env loc : Env) (v : PV) (st : St) : Niw ih dst key env loc v st = NaG cfg callE l (key + 8) (({ env, loc, st } : Loc).wr dst v) := by
 cases dst <;> exact h _ _ _ _
theorem Net {cfg : Cfg} {callE : CallE} {ih : FOps} {l : List MOper} (h : ∀ key env loc st, ih key env loc st = NaG cfg callE l key { env, loc, st }) (dst : MDst) (op : MOp) (key : Nat) (env loc : Env) (st : St) : NeF cfg callE dst op ih key env loc st = match Nak cfg callE (Loc.rd { env, loc, st }) st key op with
 | some (v, st') => NaG cfg callE l (key + 8) (({ env, loc, st := st' } : Loc).wr dst v)
 | none => none := by
 unfold NeF
 rw [NhV, Nfz env loc st]
 cases Nak cfg callE (Loc.rd { env, loc, st }) st key op with
 | none => rfl
 | some p => exact NfB h dst key env loc p.1 p.2
theorem Ndm (cfg : Cfg) (callE : CallE) : ∀ (l : List MOper) (key : Nat) (env loc : Env) (st : St), Nhz cfg callE l key env loc st = NaG cfg callE l key { env, loc, st }
 | [], _, _, _, _ => rfl
 | ⟨dst, op, none⟩ :: l, key, env, loc, st => by
   show NeF cfg callE dst op (Nhz cfg callE l) key env loc st = _
   rw [Net (Ndm cfg callE l)]; rfl
 | ⟨dst, op, some (x, want)⟩ :: l, key, env, loc, st => by
   show Option.rec (motive := fun _ => Option Loc) none (fun b => Bool.rec (motive := fun _ => Option Loc) (Niw (Nhz cfg callE l) dst key env loc (.tup []) st) (NeF cfg callE dst op (Nhz cfg callE l) key env loc st) b) (Ndw (rdF env loc x) want) = _
   rw [Net (Ndm cfg callE l), NfB (Ndm cfg callE l), Nfz env loc st]
   simp only [NaG]
   have e : Nan { env, loc, st } (some (x, want)) = Ndw (Loc.rd { env, loc, st } x) want := by
    unfold Nan Ndw; rfl
   rw [e]
   cases Ndw (Loc.rd { env, loc, st } x) want with
   | none => rfl
   | some b => cases b <;> rfl
abbrev FCode := Cfg → CallE → Nat → Now → Option (MExit × Now)
def Nik (v : PV) : Option Bool := match v with
 | .b y => some y
 | _ => none
def NhX : FCode := fun _ _ _ c => some (.nrm, c)
def Nf6 (ops : List MOper) : FCode := fun cfg callE _ c => Now.rec (motive := fun _ => Option (MExit × Now)) (fun env st => St.rec (motive := fun _ => Option (MExit × Now)) (fun sto cnt =>
 Option.rec (motive := fun _ => Option (MExit × Now)) none (fun l => Loc.rec (motive := fun _ => Option (MExit × Now)) (fun env' _ st' => some (.nrm, { env := env', st := st' })) l) (Nhz cfg callE ops cnt env .leaf { sto, cnt := Nat.add cnt (Nat.mul 8 (Niu ops)) })) st) c
def Nhw (ops : List MOper) (masks : List Nat) (sw : Option (Nat × Nat)) : FCode := fun cfg callE _ c => (Nb2 cfg callE ops masks sw c).map (.nrm, ·)
def Ng3 (a b : MCode) (ia ib : FCode) : FCode := fun cfg callE fuel c => Option.rec (motive := fun _ => Option (MExit × Now)) none (fun r => Prod.rec (motive := fun _ => Option (MExit × Now)) (fun e c' => MExit.rec (motive := fun _ => Option (MExit × Now)) (ib cfg callE fuel c') (fun id => some (.ex id, c')) (some (.ret, c')) e) r) (ia cfg callE fuel c)
def Nfx (x : Arg) (a b : MCode) (ia ib : FCode) : FCode := fun cfg callE fuel c => Option.rec (motive := fun _ => Option (MExit × Now)) none (fun y => Bool.rec (motive := fun _ => Option (MExit × Now)) (ib cfg callE fuel c) (ia cfg callE fuel c) y) (Nik (rdF c.env .leaf x))
def Nee (id : Nat) (a : MCode) (ia : FCode) : FCode := fun cfg callE fuel c => Option.rec (motive := fun _ => Option (MExit × Now)) none (fun r => Prod.rec (motive := fun _ => Option (MExit × Now)) (fun e c' => MExit.rec (motive := fun _ => Option (MExit × Now)) (some (.nrm, c')) (fun j => Bool.rec (motive := fun _ => Option (MExit × Now)) (some (.ex j, c')) (some (.nrm, c')) (Nat.beq j id)) (some (.ret, c')) e) r) (ia cfg callE fuel c)
def Ngf (body : Now → Option (MExit × Now)) (n : Nat) : Now → Option (MExit × Now) := Nat.rec (motive := fun _ => Now → Option (MExit × Now)) (fun _ => none) (fun _ ih c => Option.rec (motive := fun _ => Option (MExit × Now)) none (fun r => Prod.rec (motive := fun _ => Option (MExit × Now)) (fun e c' => MExit.rec (motive := fun _ => Option (MExit × Now)) (ih c') (fun id => some (.ex id, c')) (some (.ret, c')) e) r) (body c)) n
def Nig (a : MCode) (ia : FCode) : FCode := fun cfg callE fuel c => Ngf (ia cfg callE fuel) fuel c
def NhZ (id : Nat) : FCode := fun _ _ _ c => some (.ex id, c)
def Nhu (a : MCode) (ia : FCode) : FCode := ia
def Ni4 : FCode := fun _ _ _ c => some (.ret, c)
def Ndn (m : MCode) : FCode := MCode.rec (motive := fun _ => FCode) NhX Nf6 Nhw Ng3 Nfx Nee Nig NhZ Nhu Ni4 m
theorem Nei {b b' : Now → Option (MExit × Now)} (h : ∀ c, b c = b' c) : ∀ (n : Nat) (c : Now), Ngf b n c = Nbt b' n c
 | 0, _ => rfl
 | n + 1, c => by
   show Option.rec (motive := fun _ => Option (MExit × Now)) none (fun r => Prod.rec (motive := fun _ => Option (MExit × Now)) (fun e c' => MExit.rec (motive := fun _ => Option (MExit × Now)) (Ngf b n c') (fun id => some (.ex id, c')) (some (.ret, c')) e) r) (b c) = _
   simp only [Nbt]
   rw [h c]
   cases b' c with
   | none => rfl
   | some r =>
     obtain ⟨e, c'⟩ := r
     cases e with
     | nrm => exact Nei h n c'
     | ex id => rfl
     | ret => rfl
theorem loopE_nrm {b : Now → Option (MExit × Now)} : ∀ (n : Nat) (c c' : Now), Nbt b n c ≠ some (.nrm, c')
 | 0, _, _ => by simp [Nbt]
 | n + 1, c, c' => by
   simp only [Nbt]
   split
   ·exact loopE_nrm n _ _
   ·rename_i e c1 hne _
    intro h
    simp only [Sj, Pj] at h
    obtain ⟨rfl, _⟩ := h
    exact hne rfl
   ·simp
theorem Nbb (cfg : Cfg) (callE : CallE) (fuel : Nat) : ∀ (m : MCode) (c : Now), Ndn m cfg callE fuel c = Naj cfg callE fuel m c
 | .skip, _ => rfl
 | .region ops, c => by
   obtain ⟨env, sto, cnt⟩ := c
   show Option.rec (motive := fun _ => Option (MExit × Now)) none (fun l => Loc.rec (motive := fun _ => Option (MExit × Now)) (fun env' _ st' => some (.nrm, { env := env', st := st' })) l) (Nhz cfg callE ops cnt env .leaf { sto, cnt := Nat.add cnt (Nat.mul 8 (Niu ops)) }) = _
   rw [Ndm, NfA]
   simp only [Naj, NaX]
   show Option.rec (motive := fun _ => Option (MExit × Now)) none (fun l => Loc.rec (motive := fun _ => Option (MExit × Now)) (fun env' _ st' => some (.nrm, { env := env', st := st' })) l) (NaG cfg callE ops cnt { env, loc := .leaf, st := { sto, cnt := cnt + 8 * ops.length } }) = _
   cases NaG cfg callE ops cnt { env, loc := .leaf, st := { sto, cnt := cnt + 8 * ops.length } } <;> rfl
 | .chain ops masks sw, c => rfl
 | .seq a b, c => by
   show Ng3 a b (Ndn a) (Ndn b) cfg callE fuel c = _
   unfold Ng3
   simp only [Naj]
   rw [Nbb cfg callE fuel a c]
   cases Naj cfg callE fuel a c with
   | none => rfl
   | some r =>
     obtain ⟨e, c'⟩ := r
     cases e with
     | nrm => exact Nbb cfg callE fuel b c'
     | ex id => rfl
     | ret => rfl
 | .cond x a b, c => by
   show Nfx x a b (Ndn a) (Ndn b) cfg callE fuel c = _
   unfold Nfx
   simp only [Naj]
   rw [Nfz c.env .leaf c.st, Nbb cfg callE fuel a c, Nbb cfg callE fuel b c]
   cases ({ env := c.env, loc := .leaf, st := c.st } : Loc).rd x with
   | b y => cases y <;> rfl
   | _ => rfl
 | .block id a, c => by
   show Nee id a (Ndn a) cfg callE fuel c = _
   unfold Nee
   simp only [Naj]
   rw [Nbb cfg callE fuel a c]
   cases Naj cfg callE fuel a c with
   | none => rfl
   | some r =>
     obtain ⟨e, c'⟩ := r
     cases e with
     | nrm => rfl
     | ex j =>
       show Bool.rec (motive := fun _ => Option (MExit × Now)) (some (.ex j, c')) (some (.nrm, c')) (Nat.beq j id) = _
       rw [Nbw]
     | ret => rfl
 | .loop a, c => by
   show Ngf (Ndn a cfg callE fuel) fuel c = _
   rw [Nei (Nbb cfg callE fuel a)]
   simp only [Naj]
   split
   ·rename_i h; exact absurd h (loopE_nrm _ _ _)
   ·rfl
 | .exit id, _ => rfl
 | .scope a, c => Nbb cfg callE fuel a c
 | .ret, _ => rfl
def Nil (c : Now) (l : List MRes) : Option (PV × St) := match mapO (NeG c) l with
 | some [v] => some (v, c.st)
 | some vs => some (.tup vs, c.st)
 | none => none
def Nhq (cfg : Cfg) (callE : CallE) (fuel : Nat) (m : MFunc) (args : List PV) (st : St) : Option (PV × St) :=
 MFunc.rec (motive := fun _ => Option (PV × St)) (fun body res => Option.rec (motive := fun _ => Option (PV × St)) none (fun r => Prod.rec (motive := fun _ => Option (PV × St)) (fun e c => MExit.rec (motive := fun _ => Option (PV × St)) (Nil c res) (fun _ => none) (Nil c res) e) r) (Ndn body cfg callE fuel { env := Nas args 0 .leaf, st })) m
theorem Nf9 (cfg : Cfg) (callE : CallE) (fuel : Nat) (m : MFunc) (args : List PV) (st : St) : Nhq cfg callE fuel m args st = Nck cfg callE fuel m args st := by
 obtain ⟨body, res⟩ := m
 show Option.rec (motive := fun _ => Option (PV × St)) none (fun r => Prod.rec (motive := fun _ => Option (PV × St)) (fun e c => MExit.rec (motive := fun _ => Option (PV × St)) (Nil c res) (fun _ => none) (Nil c res) e) r) (Ndn body cfg callE fuel { env := Nas args 0 .leaf, st }) = _
 rw [Nbb]
 unfold Nck
 simp only []
 cases Naj cfg callE fuel body { env := Nas args 0 .leaf, st } with
 | none => rfl
 | some r =>
   obtain ⟨e, c⟩ := r
   cases e <;> rfl
def fFn (cfg : Cfg) (n : Nat) : CallE := Nat.rec (motive := fun _ => CallE) (fun _ _ _ => none) (fun fuel ih f args st => Option.rec (motive := fun _ => Option (PV × St)) none (fun m => Nhq cfg ih (Nat.add fuel 1) m args st) (cfg.fn f)) n
theorem NgD (cfg : Cfg) : ∀ n, fFn cfg n = NaT cfg n
 | 0 => rfl
 | n + 1 => by
   funext f args st
   show Option.rec (motive := fun _ => Option (PV × St)) none (fun m => Nhq cfg (fFn cfg n) (Nat.add n 1) m args st) (cfg.fn f) = _
   rw [NgD cfg n]
   show _ = match cfg.fn f with
    | some m => Nck cfg (NaT cfg n) (n + 1) m args st
    | none => none
   cases cfg.fn f with
   | none => rfl
   | some m => exact Nf9 _ _ _ _ _ _
def fvP (cfg : Cfg) (fuel : Nat) (f : FuncId) (args : List PV) : Option PV := Nam cfg (fFn cfg fuel) f args
theorem NgH (cfg : Cfg) (fuel : Nat) (f : FuncId) (args : List PV) : fvP cfg fuel f args = evP cfg fuel f args := by
 unfold fvP evP
 rw [NgD]
def Ncp (f : Nat) (l : List (Nat × MFunc)) : Option MFunc := List.rec (motive := fun _ => Option MFunc) none (fun p _ ih => Bool.rec (motive := fun _ => Option MFunc) ih (some p.2) (Nat.beq f p.1)) l
def Nh6 (P : Program) (modes : FuncId → Option Bool) : List (Nat × MFunc) → Prop
 | [] => True
 | p :: r => Nal P modes p.1 = some p.2 ∧ Nh6 P modes r
theorem Ney {P : Program} {modes : FuncId → Option Bool} {f : Nat} {m : MFunc} : ∀ l : List (Nat × MFunc), Nh6 P modes l → Ncp f l = some m → Nal P modes f = some m
 | [], _, h => by simp [Ncp] at h
 | p :: r, ha, h => by
   have e : Bool.rec (motive := fun _ => Option MFunc) (Ncp f r) (some p.2) (Nat.beq f p.1) = some m := h
   rw [Nbw] at e
   split at e
   ·rename_i hf
    rw [hf, ← e]; exact ha.1
   ·exact Ney r ha.2 e
theorem NdW {P : Program} {Gl : Gmap} {modes : FuncId → Option Bool} {l : List (Nat × MFunc)} (hl : Nh6 P modes l) {ext : FuncId → Option (List PV → Option PV)} (h : ∀ f g, ext f = some g → Na6 P Gl f g) : CfgOK P Gl { fn := fun f => Ncp f l, ext } := ⟨h, modes, fun f m hm => Ney l hl hm⟩
end
end Go.Pe
set_option linter.unusedVariables false
set_option linter.unusedSimpArgs false
namespace Go.Pe
open Go

def WO (cfg : Cfg) (callE : CallE) (ops : List MOper) (key : Nat) (c : Loc) (Q : Loc → Prop) : Prop := ∃ c', NaG cfg callE ops key c = some c' ∧ Q c'
def WC (cfg : Cfg) (callE : CallE) (n : Nat) (m : MCode) (x : Now) (Q : MExit → Now → Prop) : Prop := ∃ e x', Naj cfg callE n m x = some (e, x') ∧ Q e x'
def WV (r : Option (PV × St)) (Q : PV → St → Prop) : Prop := ∃ v st, r = some (v, st) ∧ Q v st
@[congr] theorem Zu {r r' : Option (PV × St)} (h : r = r') (Q : PV → St → Prop) : WV r Q = WV r' Q := by rw [h]
@[congr] theorem Zv {cfg : Cfg} {callE : CallE} {ops : List MOper} {key key' : Nat} {c c' : Loc} (h : key = key') (h2 : c = c') (Q : Loc → Prop) : WO cfg callE ops key c Q = WO cfg callE ops key' c' Q := by rw [h, h2]
@[congr] theorem Zw {cfg : Cfg} {callE : CallE} {n : Nat} {m : MCode} {x x' : Now} (h : x = x') (Q : MExit → Now → Prop) : WC cfg callE n m x Q = WC cfg callE n m x' Q := by rw [h]
def WI (c A B : Prop) : Prop := (c → A) ∧ (¬ c → B)
@[congr] theorem Zt {c c' : Prop} (h : c = c') (A B : Prop) : WI c A B = WI c' A B := by rw [h]
theorem Zq (A B : Prop) : WI True A B ↔ A := by simp [WI]
theorem Zr (A B : Prop) : WI False A B ↔ B := by simp [WI]
theorem Zs (c A B : Prop) [Decidable c] : (if c then A else B) ↔ WI c A B := by
 by_cases h : c <;> simp [WI, h]
theorem Zx (v : PV) (st : St) (Q : PV → St → Prop) : WV (some (v, st)) Q ↔ Q v st := by
 constructor
 ·rintro ⟨a, b, h, q⟩
  simp only [Sj, Pj] at h
  obtain ⟨rfl, rfl⟩ := h
  exact q
 ·intro q; exact ⟨v, st, rfl, q⟩
theorem Zz (c : Prop) [Decidable c] (r : Option (PV × St)) (Q : PV → St → Prop) : WV (if c then r else none) Q ↔ c ∧ WV r Q := by
 by_cases h : c
 ·simp [h]
 ·simp [h, WV]
theorem Ze (cfg : Cfg) (callE : CallE) (key : Nat) (c : Loc) (Q : Loc → Prop) : WO cfg callE [] key c Q ↔ Q c := by
 constructor
 ·rintro ⟨c', h, q⟩
  simp only [NaG, Sj] at h
  subst h; exact q
 ·intro q; exact ⟨c, rfl, q⟩
theorem Zb (cfg : Cfg) (callE : CallE) (d : MDst) (op : MOp) (l : List MOper) (key : Nat) (env loc : Env) (st : St) (Q : Loc → Prop) :
 WO cfg callE (⟨d, op, none⟩ :: l) key ⟨env, loc, st⟩ Q ↔ WV (Nak cfg callE (Loc.rd ⟨env, loc, st⟩) st key op) fun v st' => WO cfg callE l (key + 8) ((⟨env, loc, st'⟩ : Loc).wr d v) Q := by
 unfold WO WV
 simp only [NaG, Nan]
 cases Nak cfg callE (Loc.rd ⟨env, loc, st⟩) st key op with
 | none => simp
 | some p =>
   obtain ⟨v, st'⟩ := p
   constructor
   ·rintro ⟨c', h, q⟩; exact ⟨v, st', rfl, c', h, q⟩
   ·rintro ⟨a, b, h, c', h2, q⟩
    simp only [Sj, Pj] at h
    obtain ⟨rfl, rfl⟩ := h
    exact ⟨c', h2, q⟩
theorem Zd (cfg : Cfg) (callE : CallE) (d : MDst) (op : MOp) (x : Arg) (w y : Bool) (l : List MOper) (key : Nat) (env loc : Env) (st : St) (Q : Loc → Prop) (h : Loc.rd ⟨env, loc, st⟩ x = .b y) :
 WO cfg callE (⟨d, op, some (x, w)⟩ :: l) key ⟨env, loc, st⟩ Q ↔ if y = w then WV (Nak cfg callE (Loc.rd ⟨env, loc, st⟩) st key op) (fun v st' => WO cfg callE l (key + 8) ((⟨env, loc, st'⟩ : Loc).wr d v) Q) else WO cfg callE l (key + 8) ((⟨env, loc, st⟩ : Loc).wr d (.tup [])) Q := by
 have hg : Nan ⟨env, loc, st⟩ (some (x, w)) = some (y == w) := by unfold Nan; simp only [h]
 by_cases hw : y = w
 ·rw [if_pos hw, ← Zb]
  have h1 : Nan ⟨env, loc, st⟩ (some (x, w)) = some true := by rw [hg, hw]; simp
  unfold WO
  simp only [NaG, h1]
  simp only [Nan]
 ·rw [if_neg hw]
  have h1 : Nan ⟨env, loc, st⟩ (some (x, w)) = some false := by rw [hg]; simp [hw]
  unfold WO
  simp only [NaG, h1]
theorem Z1 (cfg : Cfg) (callE : CallE) (n : Nat) (l : List MOper) (env : Env) (st : St) (Q : MExit → Now → Prop) :
 WC cfg callE n (.region l) ⟨env, st⟩ Q ↔ WO cfg callE l st.cnt ⟨env, .leaf, { st with cnt := st.cnt + 8 * l.length }⟩ fun c => Q .nrm ⟨c.env, c.st⟩ := by
 unfold WC WO
 simp only [Naj, NaX, Option.map_map, Option.map_eq_some_iff, Function.comp_def]
 constructor
 ·rintro ⟨e, x', ⟨c', h, h2⟩, q⟩
  simp only [Pj] at h2
  obtain ⟨rfl, rfl⟩ := h2
  exact ⟨c', h, q⟩
 ·rintro ⟨c', h, q⟩
  exact ⟨.nrm, _, ⟨c', h, rfl⟩, q⟩
def NeP (Q : MExit → Now → Prop) (k : Now → Prop) : MExit → Now → Prop
 | .nrm, x => k x
 | .ex id, x => Q (.ex id) x
 | .ret, x => Q .ret x
theorem Z0 (cfg : Cfg) (callE : CallE) (n : Nat) (a b : MCode) (x : Now) (Q : MExit → Now → Prop) : WC cfg callE n (.seq a b) x Q ↔ WC cfg callE n a x (NeP Q fun x' => WC cfg callE n b x' Q) := by
 unfold WC
 simp only [Naj]
 cases Naj cfg callE n a x with
 | none => simp
 | some r =>
   obtain ⟨e, x'⟩ := r
   cases e <;> simp [NeP, and_assoc]
theorem Z4 (cfg : Cfg) (callE : CallE) (n : Nat) (x : Now) (Q : MExit → Now → Prop) : WC cfg callE n .skip x Q ↔ Q .nrm x := by simp [WC, Naj, and_assoc]
theorem Z5 (cfg : Cfg) (callE : CallE) (n id : Nat) (x : Now) (Q : MExit → Now → Prop) : WC cfg callE n (.exit id) x Q ↔ Q (.ex id) x := by simp [WC, Naj, and_assoc]
theorem Z6 (cfg : Cfg) (callE : CallE) (n : Nat) (x : Now) (Q : MExit → Now → Prop) : WC cfg callE n .ret x Q ↔ Q .ret x := by simp [WC, Naj, and_assoc]
theorem Z3 (cfg : Cfg) (callE : CallE) (n : Nat) (a : MCode) (x : Now) (Q : MExit → Now → Prop) : WC cfg callE n (.scope a) x Q ↔ WC cfg callE n a x Q := by simp [WC, Naj]
theorem Z8 (cfg : Cfg) (callE : CallE) (n : Nat) (t : Arg) (a b : MCode) (env : Env) (st : St) (Q : MExit → Now → Prop) (y : Bool) (h : Loc.rd ⟨env, .leaf, st⟩ t = .b y) :
 WC cfg callE n (.cond t a b) ⟨env, st⟩ Q ↔ if y = true then WC cfg callE n a ⟨env, st⟩ Q else WC cfg callE n b ⟨env, st⟩ Q := by
 unfold WC
 simp only [Naj, h]
 cases y <;> simp
def Ncl (id : Nat) (Q : MExit → Now → Prop) : MExit → Now → Prop
 | .nrm, x => Q .nrm x
 | .ex j, x => if j = id then Q .nrm x else Q (.ex j) x
 | .ret, x => Q .ret x
theorem Z2 (cfg : Cfg) (callE : CallE) (n id : Nat) (a : MCode) (x : Now) (Q : MExit → Now → Prop) : WC cfg callE n (.block id a) x Q ↔ WC cfg callE n a x (Ncl id Q) := by
 unfold WC
 simp only [Naj]
 cases Naj cfg callE n a x with
 | none => simp
 | some r =>
   obtain ⟨e, x'⟩ := r
   cases e with
   | nrm => simp [Ncl, and_assoc]
   | ret => simp [Ncl, and_assoc]
   | ex j =>
     by_cases hj : j = id
     ·simp [Ncl, hj, and_assoc]
     ·simp [Ncl, hj, and_assoc]
theorem Z9 {cfg : Cfg} {callE : CallE} {n : Nat} {a : MCode} {Q : MExit → Now → Prop} (I : Nat → Now → Prop)
 (h : ∀ k x, I k x → WC cfg callE n a x fun e x' => match e with | .nrm => ∃ j, j < k ∧ I j x' | .ex id => Q (.ex id) x' | .ret => Q .ret x')
 {k : Nat} {x : Now} (hI : I k x) (hk : k < n) : WC cfg callE n (.loop a) x Q := by
 have key : ∀ m k x, I k x → k < m → ∃ e x', Nbt (Naj cfg callE n a) m x = some (e, x') ∧ e ≠ .nrm ∧ Q e x' := by
  intro m
  induction m with
  | zero => intro k x _ h; omega
  | succ m ih =>
    intro k x hx hm
    obtain ⟨e, x', h1, h2⟩ := h k x hx
    simp only [Nbt, h1]
    cases e with
    | nrm =>
      obtain ⟨j, hj, h3⟩ := h2
      exact ih j x' h3 (by omega)
    | ex id => exact ⟨_, _, rfl, by simp, h2⟩
    | ret => exact ⟨_, _, rfl, by simp, h2⟩
 obtain ⟨e, x', h1, h2, h3⟩ := key n k x hI hk
 refine ⟨e, x', ?_, h3⟩
 simp only [Naj, h1]
 cases e with
 | nrm => exact absurd rfl h2
 | ex id => rfl
 | ret => rfl
theorem WC.mono {cfg : Cfg} {callE : CallE} {n : Nat} {m : MCode} {x : Now} {Q Q' : MExit → Now → Prop} (h : WC cfg callE n m x Q) (q : ∀ e x', Q e x' → Q' e x') : WC cfg callE n m x Q' := by
 obtain ⟨e, x', h1, h2⟩ := h
 exact ⟨e, x', h1, q _ _ h2⟩
theorem Nip (Q : MExit → Now → Prop) (k : Now → Prop) (x : Now) : NeP Q k .nrm x ↔ k x := Iff.trans Iff.rfl Iff.rfl
theorem Niq (Q : MExit → Now → Prop) (k : Now → Prop) (id : Nat) (x : Now) : NeP Q k (.ex id) x ↔ Q (.ex id) x := Iff.trans Iff.rfl Iff.rfl
theorem Nio (Q : MExit → Now → Prop) (k : Now → Prop) (x : Now) : NeP Q k .ret x ↔ Q .ret x := Iff.trans Iff.rfl Iff.rfl
theorem Niv (id : Nat) (Q : MExit → Now → Prop) (x : Now) : Ncl id Q .nrm x ↔ Q .nrm x := Iff.trans Iff.rfl Iff.rfl
theorem Nir (id j : Nat) (Q : MExit → Now → Prop) (x : Now) : Ncl id Q (.ex j) x ↔ if j = id then Q .nrm x else Q (.ex j) x := Iff.trans Iff.rfl Iff.rfl
theorem Z0A_ (id : Nat) (Q : MExit → Now → Prop) (x : Now) : Ncl id Q .ret x ↔ Q .ret x := Iff.trans Iff.rfl Iff.rfl
theorem Env.get_leaf (u : Nat) : Env.get .leaf u = .und := rfl
theorem Nis (env loc : Env) (st : St) (t : Nat) : Loc.rd ⟨env, loc, st⟩ (.t t) = env.get t := Eq.trans rfl rfl
theorem Nh3 (env loc : Env) (st : St) (t : Nat) : Loc.rd ⟨env, loc, st⟩ (.l t) = Env.get loc t := Eq.trans rfl rfl
theorem Nit (env loc : Env) (st : St) (v : PV) : Loc.rd ⟨env, loc, st⟩ (.c v) = v := Eq.trans rfl rfl
theorem NiU (env loc : Env) (st : St) (v : PV) : Loc.wr ⟨env, loc, st⟩ .no v = ⟨env, loc, st⟩ := Eq.trans rfl rfl
theorem NiN (env loc : Env) (st : St) (t : Nat) (v : PV) : Loc.wr ⟨env, loc, st⟩ (.t t) v = ⟨env.put t v, loc, st⟩ := Eq.trans rfl rfl
theorem Ni5 (env loc : Env) (st : St) (t : Nat) (v : PV) : Loc.wr ⟨env, loc, st⟩ (.l t) v = ⟨env, Env.put loc t v, st⟩ := Eq.trans rfl rfl
theorem Nhs {cfg : Cfg} {fuel : Nat} {f : FuncId} {m : MFunc} (hf : cfg.fn f = some m) {args : List PV} {st : St} {r : PV} {st' : St}
 (h : WC cfg (NaT cfg fuel) (fuel + 1) m.body ⟨Nas args 0 .leaf, st⟩ fun e x => (∀ id, e ≠ .ex id) ∧ x.st = st' ∧ ∃ vs, mapO (NeG x) m.res = some vs ∧ r = (match vs with | [v] => v | vs => .tup vs)) : NaT cfg (fuel + 1) f args st = some (r, st') := by
 obtain ⟨e, x, h1, h2, rfl, vs, h3, rfl⟩ := h
 show (match cfg.fn f with
  | some m => Nck cfg (NaT cfg fuel) (fuel + 1) m args st
  | none => none) = _
 rw [hf]
 simp only [Nck, h1, h3]
 cases e with
 | ex id => exact absurd rfl (h2 id)
 | nrm =>
   match vs with
   | [] => rfl
   | [v] => rfl
   | _ :: _ :: _ => rfl
 | ret =>
   match vs with
   | [] => rfl
   | [v] => rfl
   | _ :: _ :: _ => rfl
def WB (v : PV) (A B : Prop) : Prop := match v with
 | .b y => if y = true then A else B
 | _ => False
@[congr] theorem Zp {v v' : PV} (h : v = v') (A B : Prop) : WB v A B = WB v' A B := by rw [h]
theorem Zo (y : Bool) (A B : Prop) : WB (.b y) A B ↔ WI (y = true) A B := Zs _ _ _
theorem Z7 (cfg : Cfg) (callE : CallE) (n : Nat) (t : Arg) (a b : MCode) (env : Env) (st : St) (Q : MExit → Now → Prop) :
 WC cfg callE n (.cond t a b) ⟨env, st⟩ Q ↔ WB (Loc.rd ⟨env, .leaf, st⟩ t) (WC cfg callE n a ⟨env, st⟩ Q) (WC cfg callE n b ⟨env, st⟩ Q) := by
 cases h : Loc.rd ⟨env, .leaf, st⟩ t with
 | b y => rw [Z8 cfg callE n t a b env st Q y h]; rfl
 | _ =>
   unfold WC WB
   simp only [Naj, h]
   simp
def WG (v : PV) (w : Bool) (A B : Prop) : Prop := match v with
 | .b y => if y = w then A else B
 | .tup [] => B
 | _ => False
@[congr] theorem Zl {v v' : PV} (h : v = v') (w : Bool) (A B : Prop) : WG v w A B = WG v' w A B := by rw [h]
theorem Zf (A B : Prop) : WG (.b true) true A B ↔ A := by simp [WG]
theorem Zg (A B : Prop) : WG (.b true) false A B ↔ B := by simp [WG]
theorem Zh (A B : Prop) : WG (.b false) true A B ↔ B := by simp [WG]
theorem Zi (A B : Prop) : WG (.b false) false A B ↔ A := by simp [WG]
theorem Zm (A B : Prop) : WB (.b true) A B ↔ A := by simp [WB]
theorem Zn (A B : Prop) : WB (.b false) A B ↔ B := by simp [WB]
theorem Zj (w : Bool) (A B : Prop) : WG (.tup []) w A B ↔ B := Iff.trans Iff.rfl Iff.rfl
theorem Zc (cfg : Cfg) (callE : CallE) (d : MDst) (op : MOp) (x : Arg) (w : Bool) (l : List MOper) (key : Nat) (env loc : Env) (st : St) (Q : Loc → Prop) :
 WO cfg callE (⟨d, op, some (x, w)⟩ :: l) key ⟨env, loc, st⟩ Q ↔ WG (Loc.rd ⟨env, loc, st⟩ x) w (WV (Nak cfg callE (Loc.rd ⟨env, loc, st⟩) st key op) (fun v st' => WO cfg callE l (key + 8) ((⟨env, loc, st'⟩ : Loc).wr d v) Q)) (WO cfg callE l (key + 8) ((⟨env, loc, st⟩ : Loc).wr d (.tup [])) Q) := by
 cases h : Loc.rd ⟨env, loc, st⟩ x with
 | b y => rw [Zd cfg callE d op x w y l key env loc st Q h]; rfl
 | tup vs =>
   cases vs with
   | nil =>
     have h1 : Nan ⟨env, loc, st⟩ (some (x, w)) = some false := by unfold Nan; simp only [h]
     unfold WO
     simp only [NaG, h1]
     rfl
   | cons a r =>
     have h1 : Nan ⟨env, loc, st⟩ (some (x, w)) = none := by unfold Nan; simp only [h]
     unfold WO WG
     simp only [NaG, h1]
     simp
 | _ =>
   have h1 : Nan ⟨env, loc, st⟩ (some (x, w)) = none := by unfold Nan; simp only [h]
   unfold WO WG
   simp only [NaG, h1]
   simp
theorem St.get_cnt (st : St) (c k : Nat) : St.get ⟨st.sto, c⟩ k = st.get k := rfl
theorem Na2 (n : Int) (h : -9223372036854775808 ≤ n ∧ n < 9223372036854775808) : IntKind.i64.wrap n = n := by
 rw [IntKind.wrap_i64]; omega
theorem NhM (n : Int) (h : 0 ≤ n ∧ n < 256) : IntKind.u8.wrap n = n := by
 rw [IntKind.wrap_u8]; omega
theorem NgP (n : Int) (h : 0 ≤ n ∧ n < 18446744073709551616) : IntKind.u64.wrap n = n := by
 rw [IntKind.wrap_u64]; omega
theorem NgA (n : Int) (h : 0 ≤ n ∧ n < 4294967296) : IntKind.u32.wrap n = n := by
 rw [IntKind.wrap_u32]; omega
theorem map_some {α β : Type} (f : α → β) (a : α) : (some a).map f = some (f a) := rfl
theorem ZB {α : Type} (c : Prop) [Decidable c] (r : Option α) (f : α → PV × St) (Q : PV → St → Prop) : WV ((if c then r else none).map f) Q ↔ c ∧ WV (r.map f) Q := by
 by_cases h : c
 ·simp [h]
 ·simp [h, WV]
theorem Zy (Q : PV → St → Prop) : WV none Q ↔ False := by simp [WV]
theorem ZA (l : List UInt8) (n : Nat) (f : UInt8 → PV × St) (Q : PV → St → Prop) : WV ((l[n]?).map f) Q ↔ n < l.length ∧ WV (some (f (l.getD n 0))) Q := by
 by_cases h : n < l.length
 ·simp only [List.getElem?_eq_getElem h, Option.map_some, List.getD_eq_getElem?_getD, Option.getD_some, h, true_and]
 ·have e : l[n]? = none := List.getElem?_eq_none (by omega)
  rw [e]
  simp [WV, h]
def Nbu (vs : List PV) : PV := match vs with
 | [v] => v
 | vs => .tup vs
theorem Nbk {cfg : Cfg} {fuel : Nat} {f : FuncId} {m : MFunc} (hf : cfg.fn f = some m) {args : List PV} {st : St} {R : PV → St → Prop}
 (h : WC cfg (NaT cfg fuel) (fuel + 1) m.body ⟨Nas args 0 .leaf, st⟩ fun e x => (∀ id, e ≠ .ex id) ∧ ∃ vs, mapO (NeG x) m.res = some vs ∧ R (Nbu vs) x.st) : ∃ r st', NaT cfg (fuel + 1) f args st = some (r, st') ∧ R r st' := by
 obtain ⟨e, x, h1, h2, vs, h3, h4⟩ := h
 refine ⟨Nbu vs, x.st, ?_, h4⟩
 refine Nhs hf ⟨e, x, h1, h2, rfl, vs, h3, ?_⟩
 unfold Nbu; rfl
theorem NjT {r : Option (PV × St)} {Q R : PV → St → Prop} (h : ∃ v st, r = some (v, st) ∧ R v st) (q : ∀ v st, R v st → Q v st) : WV r Q := by
 obtain ⟨v, st, h1, h2⟩ := h
 exact ⟨v, st, h1, q v st h2⟩
theorem Z0B_ (d most : Nat) : NaJ none d most = some d := rfl
theorem NbC {k : IntKind} {n : Int} {d most : Nat} (h : 0 ≤ n ∧ n ≤ most) : NaJ (some (.i k n)) d most = some n.toNat := by
 show (if 0 ≤ n ∧ n ≤ (most : Int) then some n.toNat else none) = some n.toNat
 rw [if_pos h]
theorem Na7 {cfg : Cfg} {callE : CallE} {f : FuncId} {g : List PV → Option PV} (h : cfg.ext f = some g) (args : List PV) : Nam cfg callE f args = g args := by
 unfold Nam; rw [h]
def PV.flat : PV → Bool
 | .i .. | .b _ | .s _ | .nsl | .fsl .. | .und => true
 | _ => false
theorem Nb8 {st : St} : ∀ {l : List PV}, l.all PV.flat = true → Na8 st l = some l
 | [], _ => rfl
 | v :: l, h => by
   simp only [List.all_cons, Bool.and_eq_true] at h
   have ih := Nb8 (st := st) h.2
   unfold Na8 at ih ⊢
   have e : deep st Ncn v = some v := by cases v <;> first | rfl | (simp [PV.flat] at h; done)
   simp only [mapO, e, ih]
theorem Ndd {st : St} : ∀ {l : List PV}, l.all PV.flat = true → keysL st l = []
 | [], _ => rfl
 | v :: l, h => by
   simp only [List.all_cons, Bool.and_eq_true] at h
   have ih := Ndd (st := st) h.2
   unfold keysL at ih ⊢
   have e : keysP st Ncn v = [] := by cases v <;> first | rfl | (simp [PV.flat] at h; done)
   simp only [List.flatMap_cons, e, ih, List.append_nil]
theorem NaC {g : List PV → Option PV} {st : St} {key : Nat} {ps : List PV} {r : PV} (hp : ps.all PV.flat = true) (hg : g ps = some r) (hr : Nay st key r = some (r, st)) : Nau g false st key ps = some (r, st) := by
 unfold Nau
 simp only [Nb8 hp, hg, Ndd hp, Nao, ite_self, hr]
theorem Ncj {st : St} {vs : List PV} (h : vs.all PV.flat = true) : NaO st (.tup vs) = some (.tup vs) := by
 have e : ∀ l : List PV, l.all PV.flat = true → NaW st l = none := by
  intro l
  induction l with
  | nil => intro _; rfl
  | cons v l ih =>
    intro hl
    simp only [List.all_cons, Bool.and_eq_true] at hl
    have hv : NeH? st v = none := by cases v <;> first | rfl | (simp [PV.flat] at hl; done)
    simp only [NaW, hv, ih hl.2, Option.map_none]
 simp only [NaO, e vs h, Nb8 h, map_some]
theorem Nfl {st : St} {k : Nat} {fz : Bool} {l : List UInt8} (hk : st.get k = some (.cells (NaL l) fz)) {i : Nat} (hi : i < l.length) : NaR st 1 (.ptr k (0 + i * 1)) = some [.i .u8 (l.getD i 0).toNat] := by
 have hc : cut? (NaL l) (0 + i * 1) 1 = some [.i .u8 (l.getD i 0).toNat] := by
  unfold cut? NaL
  rw [if_pos (by simp; omega)]
  apply congrArg
  apply List.ext_getElem?
  intro j
  cases j with
  | zero => simp [List.getElem?_take, List.getElem?_drop, List.getElem?_map, List.getElem?_eq_getElem hi, List.getD_eq_getElem?_getD]
  | succ j => simp [List.getElem?_take]
 unfold NaR
 simp only [hk, hc]
end Go.Pe
set_option linter.unusedVariables false
set_option linter.unusedSimpArgs false
namespace Go.Pe
open Go
theorem ZC (cfg : Cfg) (callE : CallE) (ρ : Arg → PV) (st : St) (key : Nat) (x : Arg) (Q : PV → St → Prop) : WV (Nak cfg callE ρ st key (.mv x)) Q ↔ WV (some (ρ x, st)) Q := Iff.trans Iff.rfl Iff.rfl
theorem ZD (cfg : Cfg) (callE : CallE) (ρ : Arg → PV) (st : St) (key : Nat) (c : Arg) (a : Arg) (b : Arg) (Q : PV → St → Prop) : WV (Nak cfg callE ρ st key (.pick c a b)) Q ↔ WV (match ρ c with
 | .b x => some (if x then ρ a else ρ b, st)
 | _ => none) Q := Iff.trans Iff.rfl Iff.rfl
theorem ZE (cfg : Cfg) (callE : CallE) (ρ : Arg → PV) (st : St) (key : Nat) (zero : List PV) (Q : PV → St → Prop) : WV (Nak cfg callE ρ st key (.alloc zero)) Q ↔ WV (some (.ptr key 0, st.put key (some (.cells zero false)))) Q := Iff.trans Iff.rfl Iff.rfl
theorem ZF (cfg : Cfg) (callE : CallE) (ρ : Arg → PV) (st : St) (key : Nat) (x : Arg) (Q : PV → St → Prop) : WV (Nak cfg callE ρ st key (.box x)) Q ↔ WV (if (ρ x).cells.all PV.one then some (.ptr key 0, st.put key (some (.cells (ρ x).cells false))) else none) Q := Iff.trans Iff.rfl Iff.rfl
theorem ZG (cfg : Cfg) (callE : CallE) (ρ : Arg → PV) (st : St) (key : Nat) (zero : List PV) (parts : List (Nat × Nat × Arg)) (Q : PV → St → Prop) : WV (Nak cfg callE ρ st key (.build zero parts)) Q ↔ WV ((NaH zero (parts.map fun p => (p.1, p.2.1, ρ p.2.2))).map fun cs => (.agg cs, st)) Q := Iff.trans Iff.rfl Iff.rfl
theorem ZH (cfg : Cfg) (callE : CallE) (ρ : Arg → PV) (st : St) (key : Nat) (len : Nat) (sz : Nat) (zero : List PV) (parts : List (Nat × Nat × Arg)) (Q : PV → St → Prop) : WV (Nak cfg callE ρ st key (.bslice len sz zero parts)) Q ↔ WV (match NaH zero (parts.map fun p => (p.1, p.2.1, ρ p.2.2)) with
 | some cs => if 0 < sz ∧ cs.length = len * sz then some (.rsl key sz 0 len, st.put key (some (.cells cs false))) else none
 | none => none) Q := Iff.trans Iff.rfl Iff.rfl
theorem ZI (cfg : Cfg) (callE : CallE) (ρ : Arg → PV) (st : St) (key : Nat) (agg : Bool) (n : Nat) (a : Arg) (Q : PV → St → Prop) : WV (Nak cfg callE ρ st key (.load agg n a)) Q ↔ WV (match NaR st n (ρ a) with
 | some cs => (Naa agg cs).map (·, st)
 | none => none) Q := Iff.trans Iff.rfl Iff.rfl
theorem ZJ (cfg : Cfg) (callE : CallE) (ρ : Arg → PV) (st : St) (key : Nat) (n : Nat) (a : Arg) (x : Arg) (Q : PV → St → Prop) : WV (Nak cfg callE ρ st key (.store n a x)) Q ↔ WV ((NaA st n (ρ a) (ρ x)).map (.tup [], ·)) Q := Iff.trans Iff.rfl Iff.rfl
theorem ZK (cfg : Cfg) (callE : CallE) (ρ : Arg → PV) (st : St) (key : Nat) (x : Arg) (Q : PV → St → Prop) : WV (Nak cfg callE ρ st key (.nilck x)) Q ↔ WV (match ρ x with
 | .ptr k o => some (.ptr k o, st)
 | .fptr cs => some (.fptr cs, st)
 | _ => none) Q := Iff.trans Iff.rfl Iff.rfl
theorem ZL (cfg : Cfg) (callE : CallE) (ρ : Arg → PV) (st : St) (key : Nat) (op : BinOp) (x : Arg) (y : Arg) (Q : PV → St → Prop) : WV (Nak cfg callE ρ st key (.bin op x y)) Q ↔ WV ((Nai op (ρ x) (ρ y)).map (·, st)) Q := Iff.trans Iff.rfl Iff.rfl
theorem ZM (cfg : Cfg) (callE : CallE) (ρ : Arg → PV) (st : St) (key : Nat) (neg : Bool) (x : Arg) (y : Arg) (Q : PV → St → Prop) : WV (Nak cfg callE ρ st key (.eqb neg x y)) Q ↔ WV ((NgU neg (ρ x) (ρ y)).map (·, st)) Q := Iff.trans Iff.rfl Iff.rfl
theorem ZN (cfg : Cfg) (callE : CallE) (ρ : Arg → PV) (st : St) (key : Nat) (kd : Nat) (neg : Bool) (x : Arg) (y : Arg) (Q : PV → St → Prop) : WV (Nak cfg callE ρ st key (.eqn kd neg x y)) Q ↔ WV ((NhT kd neg (ρ x) (ρ y)).map (·, st)) Q := Iff.trans Iff.rfl Iff.rfl
theorem ZO (cfg : Cfg) (callE : CallE) (ρ : Arg → PV) (st : St) (key : Nat) (neg : Bool) (fs : List (Nat × Nat)) (x : Arg) (y : Arg) (Q : PV → St → Prop) : WV (Nak cfg callE ρ st key (.eqs neg fs x y)) Q ↔ WV (match ρ x, ρ y with
 | .agg ps, .agg qs => (NeD fs ps qs).map fun b => (.b (b != neg), st)
 | _, _ => none) Q := Iff.trans Iff.rfl Iff.rfl
theorem ZP (cfg : Cfg) (callE : CallE) (ρ : Arg → PV) (st : St) (key : Nat)  (Q : PV → St → Prop) : WV (Nak cfg callE ρ st key (.mkmap )) Q ↔ WV (some (.mp key, st.put key (some (.map [])))) Q := Iff.trans Iff.rfl Iff.rfl
theorem ZQ (cfg : Cfg) (callE : CallE) (ρ : Arg → PV) (st : St) (key : Nat) (ck : Nat) (ok : Bool) (zero : PV) (m : Arg) (k : Arg) (Q : PV → St → Prop) : WV (Nak cfg callE ρ st key (.lookup ck ok zero m k)) Q ↔ WV (match ρ m with
 | .nmp => some (if ok then .tup [zero, .b false] else zero, st)
 | .mp j => match st.get j with
   | some (.map es) => (NaZ ck (ρ k) es).map fun r => (if ok then .tup [r.getD zero, .b r.isSome] else r.getD zero, st)
   | _ => none
 | _ => none) Q := Iff.trans Iff.rfl Iff.rfl
theorem ZR (cfg : Cfg) (callE : CallE) (ρ : Arg → PV) (st : St) (key : Nat) (ck : Nat) (m : Arg) (k : Arg) (v : Arg) (Q : PV → St → Prop) : WV (Nak cfg callE ρ st key (.mapup ck m k v)) Q ↔ WV (match ρ m with
 | .mp j => match st.get j with
   | some (.map es) => (Nbf ck (ρ k) (ρ v) es).map fun es' => (.tup [], st.put j (some (.map es')))
   | _ => none
 | _ => none) Q := Iff.trans Iff.rfl Iff.rfl
theorem ZS (cfg : Cfg) (callE : CallE) (ρ : Arg → PV) (st : St) (key : Nat) (m : Arg) (Q : PV → St → Prop) : WV (Nak cfg callE ρ st key (.mlen m)) Q ↔ WV (match ρ m with
 | .nmp => some (.i .i64 0, st)
 | .mp j => match st.get j with
   | some (.map es) => some (.i .i64 es.length, st)
   | _ => none
 | _ => none) Q := Iff.trans Iff.rfl Iff.rfl
theorem ZT (cfg : Cfg) (callE : CallE) (ρ : Arg → PV) (st : St) (key : Nat) (x : Arg) (Q : PV → St → Prop) : WV (Nak cfg callE ρ st key (.srange x)) Q ↔ WV (match ρ x with
 | .s l => some (.ptr key 0, st.put key (some (.iter l 0)))
 | _ => none) Q := Iff.trans Iff.rfl Iff.rfl
theorem ZU (cfg : Cfg) (callE : CallE) (ρ : Arg → PV) (st : St) (key : Nat) (x : Arg) (Q : PV → St → Prop) : WV (Nak cfg callE ρ st key (.snext x)) Q ↔ WV (match ρ x with
 | .ptr k 0 => match st.get k with
   | some (.iter l p) => if p < l.length then some (.tup [.b true, .i .i64 p, .i .i32 (Utf8.decode ⟨l.toArray⟩ p).1], st.put k (some (.iter l (p + (Utf8.decode ⟨l.toArray⟩ p).2)))) else some (.tup [.b false], st)
   | _ => none
 | _ => none) Q := Iff.trans Iff.rfl Iff.rfl
theorem ZV (cfg : Cfg) (callE : CallE) (ρ : Arg → PV) (st : St) (key : Nat) (x : Arg) (Q : PV → St → Prop) : WV (Nak cfg callE ρ st key (.mark x)) Q ↔ WV (match ρ x with
 | .rsl k z off n => match st.get k with
   | some (.cells _ _) => some (.rsl k z off n, st)
   | _ => none
 | _ => none) Q := Iff.trans Iff.rfl Iff.rfl
theorem ZW (cfg : Cfg) (callE : CallE) (ρ : Arg → PV) (st : St) (key : Nat)  (Q : PV → St → Prop) : WV (Nak cfg callE ρ st key (.bad )) Q ↔ WV (none) Q := Iff.trans Iff.rfl Iff.rfl
theorem ZX (cfg : Cfg) (callE : CallE) (ρ : Arg → PV) (st : St) (key : Nat) (op : UnOp) (x : Arg) (Q : PV → St → Prop) : WV (Nak cfg callE ρ st key (.un op x)) Q ↔ WV ((unP op (ρ x)).map (·, st)) Q := Iff.trans Iff.rfl Iff.rfl
theorem ZY (cfg : Cfg) (callE : CallE) (ρ : Arg → PV) (st : St) (key : Nat) (c : Cv) (x : Arg) (Q : PV → St → Prop) : WV (Nak cfg callE ρ st key (.conv c x)) Q ↔ WV (match c, ρ x with
 | .int k, .i _ n => some (.i k (k.wrap n), st)
 | .same, .s l => some (.s l, st)
 | .s2b, .s l => if l.length ≤ NaB then some (.rsl key 1 0 l.length, st.put key (some (.cells (NaL l) false))) else none
 | .b2s, v => match cellsOf st 1 v with
   | some (_, cs) => (bytesOf? cs).map fun l => (.s l, st)
   | none => none
 | _, _ => none) Q := Iff.trans Iff.rfl Iff.rfl
theorem ZZ (cfg : Cfg) (callE : CallE) (ρ : Arg → PV) (st : St) (key : Nat) (f : FuncId) (cap : List Arg) (Q : PV → St → Prop) : WV (Nak cfg callE ρ st key (.mkfn f cap)) Q ↔ WV (some (.fn f (cap.map ρ), st)) Q := Iff.trans Iff.rfl Iff.rfl
theorem NjS (cfg : Cfg) (callE : CallE) (ρ : Arg → PV) (st : St) (key : Nat) (f : FuncId) (pre : List Arg) (Q : PV → St → Prop) : WV (Nak cfg callE ρ st key (.mkbfn f pre)) Q ↔ WV (some (.bfn f (pre.map ρ), st)) Q := Iff.trans Iff.rfl Iff.rfl
theorem Nke (cfg : Cfg) (callE : CallE) (ρ : Arg → PV) (st : St) (key : Nat) (sz : Nat) (bytes : Nat) (zero : List PV) (l : Arg) (Q : PV → St → Prop) : WV (Nak cfg callE ρ st key (.mkslice sz bytes zero l)) Q ↔ WV (match ρ l with
 | .i _ n => if 0 ≤ n ∧ n.toNat * bytes ≤ NaB ∧ 0 < bytes ∧ zero.length = sz ∧ 0 < sz then some (.rsl key sz 0 n.toNat, st.put key (some (.cells (List.flatten (List.replicate n.toNat zero)) false))) else none
 | _ => none) Q := Iff.trans Iff.rfl Iff.rfl
theorem NjG (cfg : Cfg) (callE : CallE) (ρ : Arg → PV) (st : St) (key : Nat) (N : Nat) (sz : Nat) (x : Arg) (lo : Option Arg) (hi : Option Arg) (Q : PV → St → Prop) : WV (Nak cfg callE ρ st key (.slice (some N) sz x lo hi)) Q ↔ WV (match ρ x with
 | .ptr k off => match NaJ (hi.map ρ) N N, st.get k with
   | some h, some (.cells cs _) => match NaJ (lo.map ρ) 0 h with
     | some l => if l < N ∧ 0 < sz ∧ off + N * sz ≤ cs.length ∧ N < 4294967296 then some (.rsl k sz (off + l * sz) (h - l), st) else none
     | none => none
   | _, _ => none
 | _ => none) Q := Iff.trans Iff.rfl Iff.rfl
theorem Nkj (cfg : Cfg) (callE : CallE) (ρ : Arg → PV) (st : St) (key : Nat) (sz : Nat) (x : Arg) (lo : Option Arg) (hi : Option Arg) (Q : PV → St → Prop) : WV (Nak cfg callE ρ st key (.slice none sz x lo hi)) Q ↔ WV ((NbY sz (lo.map ρ) (hi.map ρ) (ρ x)).map (·, st)) Q := Iff.trans Iff.rfl Iff.rfl
theorem NjD (cfg : Cfg) (callE : CallE) (ρ : Arg → PV) (st : St) (key : Nat) (x : Arg) (lo : Option Arg) (hi : Option Arg) (Q : PV → St → Prop) : WV (Nak cfg callE ρ st key (.substr x lo hi)) Q ↔ WV (match ρ x with
 | .s l => match NaJ (hi.map ρ) l.length l.length with
   | some h => match NaJ (lo.map ρ) 0 h with
     | some k => some (.s ((l.drop k).take (h - k)), st)
     | none => none
   | none => none
 | _ => none) Q := Iff.trans Iff.rfl Iff.rfl
theorem Njr (cfg : Cfg) (callE : CallE) (ρ : Arg → PV) (st : St) (key : Nat) (off : Nat) (x : Arg) (Q : PV → St → Prop) : WV (Nak cfg callE ρ st key (.fieldAddr off x)) Q ↔ WV (match ρ x with
 | .ptr k o => some (.ptr k (o + off), st)
 | .fptr cs => some (.fptr (cs.drop off), st)
 | _ => none) Q := Iff.trans Iff.rfl Iff.rfl
theorem Nj9 (cfg : Cfg) (callE : CallE) (ρ : Arg → PV) (st : St) (key : Nat) (agg : Bool) (off : Nat) (n : Nat) (x : Arg) (Q : PV → St → Prop) : WV (Nak cfg callE ρ st key (.field agg off n x)) Q ↔ WV (match ρ x with
 | .agg cs => match cut? cs off n with
   | some l => (Naa agg l).map (·, st)
   | none => none
 | _ => none) Q := Iff.trans Iff.rfl Iff.rfl
theorem NjL (cfg : Cfg) (callE : CallE) (ρ : Arg → PV) (st : St) (key : Nat) (N : Nat) (sz : Nat) (x : Arg) (i : Arg) (Q : PV → St → Prop) : WV (Nak cfg callE ρ st key (.indexAddr (some N) sz x i)) Q ↔ WV (match ρ x, ρ i with
 | .ptr k o, .i _ j => if 0 ≤ j ∧ j < N then some (.ptr k (o + j.toNat * sz), st) else none
 | .fptr cs, .i _ j => if 0 ≤ j ∧ j < N then some (.fptr (cs.drop (j.toNat * sz)), st) else none
 | _, _ => none) Q := Iff.trans Iff.rfl Iff.rfl
theorem NjR (cfg : Cfg) (callE : CallE) (ρ : Arg → PV) (st : St) (key : Nat) (sz : Nat) (x : Arg) (i : Arg) (Q : PV → St → Prop) : WV (Nak cfg callE ρ st key (.indexAddr none sz x i)) Q ↔ WV (match ρ x, ρ i with
 | .rsl k z off n, .i _ j => if z = sz ∧ 0 ≤ j ∧ j < n then some (.ptr k (off + j.toNat * sz), st) else none
 | .fsl n cs, .i _ j => if cs.length = n * sz ∧ 0 < sz ∧ 0 ≤ j ∧ j < n then some (.fptr (cs.drop (j.toNat * sz)), st) else none
 | _, _ => none) Q := Iff.trans Iff.rfl Iff.rfl
theorem Njq (cfg : Cfg) (callE : CallE) (ρ : Arg → PV) (st : St) (key : Nat) (len : Nat) (agg : Bool) (n : Nat) (x : Arg) (i : Arg) (Q : PV → St → Prop) : WV (Nak cfg callE ρ st key (.index len agg n x i)) Q ↔ WV (match ρ x, ρ i with
 | .agg cs, .i _ j => if 0 ≤ j ∧ j < len then match cut? cs (j.toNat * n) n with
  | some l => (Naa agg l).map (·, st)
  | none => none
   else none
 | _, _ => none) Q := Iff.trans Iff.rfl Iff.rfl
theorem Nje (cfg : Cfg) (callE : CallE) (ρ : Arg → PV) (st : St) (key : Nat) (x : Arg) (i : Arg) (Q : PV → St → Prop) : WV (Nak cfg callE ρ st key (.sindex x i)) Q ↔ WV (match ρ x, ρ i with
 | .s l, .i _ j => if 0 ≤ j then (l[j.toNat]?).map fun c => (.i .u8 c.toNat, st) else none
 | _, _ => none) Q := Iff.trans Iff.rfl Iff.rfl
theorem Nkc (cfg : Cfg) (callE : CallE) (ρ : Arg → PV) (st : St) (key : Nat) (i : Nat) (x : Arg) (Q : PV → St → Prop) : WV (Nak cfg callE ρ st key (.extract i x)) Q ↔ WV (match ρ x with
 | .tup vs => (vs[i]?).map (·, st)
 | _ => none) Q := Iff.trans Iff.rfl Iff.rfl
theorem Nj6 (cfg : Cfg) (callE : CallE) (ρ : Arg → PV) (st : St) (key : Nat) (f : FuncId) (own : Bool) (args : List Arg) (Q : PV → St → Prop) : WV (Nak cfg callE ρ st key (.call f own args)) Q ↔ WV (Nau (Nam cfg callE f) own st key (args.map ρ)) Q := Iff.trans Iff.rfl Iff.rfl
theorem Njg (cfg : Cfg) (callE : CallE) (ρ : Arg → PV) (st : St) (key : Nat) (f : FuncId) (args : List Arg) (Q : PV → St → Prop) : WV (Nak cfg callE ρ st key (.calle f args)) Q ↔ WV (match cfg.ext f with
 | some _ => none
 | none => callE f (args.map ρ) st) Q := Iff.trans Iff.rfl Iff.rfl
theorem Njf (cfg : Cfg) (callE : CallE) (ρ : Arg → PV) (st : St) (key : Nat) (f : FuncId) (args : List Arg) (Q : PV → St → Prop) : WV (Nak cfg callE ρ st key (.callq f args)) Q ↔ WV (match Na8 st (args.map ρ) with
 | some l => match Nam cfg callE f l with
   | some r => if r.closedB then Nay st key r else none
   | none => none
 | none => none) Q := Iff.trans Iff.rfl Iff.rfl
theorem NjU (cfg : Cfg) (callE : CallE) (ρ : Arg → PV) (st : St) (key : Nat) (f : Arg) (args : List Arg) (Q : PV → St → Prop) : WV (Nak cfg callE ρ st key (.callv f args)) Q ↔ WV (match ρ f with
 | .fn g cap => match cfg.ext g with
   | some _ => none
   | none => callE g (args.map ρ ++ cap) st
 | .bfn g pre => match cfg.ext g with
   | some _ => none
   | none => callE g (pre ++ args.map ρ) st
 | _ => none) Q := Iff.trans Iff.rfl Iff.rfl
theorem NjA (cfg : Cfg) (callE : CallE) (ρ : Arg → PV) (st : St) (key : Nat) (sz : Nat) (bytes : Nat) (s : Arg) (x : Arg) (Q : PV → St → Prop) : WV (Nak cfg callE ρ st key (.append sz bytes s x)) Q ↔ WV (match cellsOf st sz (ρ x) with
 | some (m, news) => if 0 < sz ∧ 0 < bytes ∧ news.all PV.one then NaI st key sz bytes m news (ρ s) else none
 | none => none) Q := Iff.trans Iff.rfl Iff.rfl
theorem Nju (cfg : Cfg) (callE : CallE) (ρ : Arg → PV) (st : St) (key : Nat) (s : Arg) (x : Arg) (Q : PV → St → Prop) : WV (Nak cfg callE ρ st key (.appstr s x)) Q ↔ WV (match ρ x with
 | .s l => NaI st key 1 1 l.length (NaL l) (ρ s)
 | _ => none) Q := Iff.trans Iff.rfl Iff.rfl
theorem Nkg (cfg : Cfg) (callE : CallE) (ρ : Arg → PV) (st : St) (key : Nat) (x : Arg) (Q : PV → St → Prop) : WV (Nak cfg callE ρ st key (.len x)) Q ↔ WV ((Nfy (ρ x)).map (·, st)) Q := Iff.trans Iff.rfl Iff.rfl
theorem NjX (cfg : Cfg) (callE : CallE) (ρ : Arg → PV) (st : St) (key : Nat) (x : Arg) (Q : PV → St → Prop) : WV (Nak cfg callE ρ st key (.slen x)) Q ↔ WV (match ρ x with
 | .s l => some (.i .i64 l.length, st)
 | _ => none) Q := Iff.trans Iff.rfl Iff.rfl
theorem Nj2 (cfg : Cfg) (callE : CallE) (ρ : Arg → PV) (st : St) (key : Nat) (n : Nat) (Q : PV → St → Prop) : WV (Nak cfg callE ρ st key (.alen n)) Q ↔ WV (some (.i .i64 n, st)) Q := Iff.trans Iff.rfl Iff.rfl
theorem Nka (cfg : Cfg) (callE : CallE) (ρ : Arg → PV) (st : St) (key : Nat) (sz : Nat) (d : Arg) (s : Arg) (Q : PV → St → Prop) : WV (Nak cfg callE ρ st key (.copy sz d s)) Q ↔ WV (match cellsOf st sz (ρ s) with
 | some (m, cs) => NbV st sz m cs (ρ d)
 | none => none) Q := Iff.trans Iff.rfl Iff.rfl
theorem NjW (cfg : Cfg) (callE : CallE) (ρ : Arg → PV) (st : St) (key : Nat) (x : Arg) (ys : List Arg) (Q : PV → St → Prop) : WV (Nak cfg callE ρ st key (.min x ys)) Q ↔ WV ((Ngy (ρ x) (ys.map ρ)).map (·, st)) Q := Iff.trans Iff.rfl Iff.rfl
theorem Z0n_ (cfg : Cfg) (callE : CallE) (ρ : Arg → PV) (st : St) (key : Nat) (x : Arg) (ys : List Arg) (Q : PV → St → Prop) : WV (Nak cfg callE ρ st key (.max x ys)) Q ↔ WV ((Nhg (ρ x) (ys.map ρ)).map (·, st)) Q := Iff.trans Iff.rfl Iff.rfl
end Go.Pe
set_option linter.unusedVariables false
set_option linter.unusedSimpArgs false
namespace Go.Pe
open Go

noncomputable def Nif (o : Option PObj) (n off : Nat) : Option (List PV) := match o with
 | some (.cells cs _) => cut? cs off n
 | _ => none
theorem Nj5 (st : St) (n k off : Nat) : NaR st n (.ptr k off) = Nif (st.get k) n off := Eq.trans rfl rfl
theorem Njl (cs : List PV) (fz : Bool) (n off : Nat) : Nif (some (.cells cs fz)) n off = cut? cs off n := Eq.trans rfl rfl
theorem NjN (st : St) (n : Nat) (cs : List PV) : NaR st n (.fptr cs) = cut? cs 0 n := Eq.trans rfl rfl
noncomputable def NgJ (st : St) (k : Nat) (o : Option PObj) (n off : Nat) (v : PV) : Option St := match o with
 | some (.cells cs false) => if v.cells.length = n ∧ off + n ≤ cs.length ∧ v.cells.all PV.one then some (st.put k (some (.cells (cs.take off ++ v.cells ++ cs.drop (off + n)) false))) else none
 | _ => none
theorem NjI (st : St) (n k off : Nat) (v : PV) : NaA st n (.ptr k off) v = NgJ st k (st.get k) n off v := Eq.trans rfl rfl
theorem NjZ (st : St) (k : Nat) (cs : List PV) (n off : Nat) (v : PV) : NgJ st k (some (.cells cs false)) n off v = if v.cells.length = n ∧ off + n ≤ cs.length ∧ v.cells.all PV.one then some (st.put k (some (.cells (cs.take off ++ v.cells ++ cs.drop (off + n)) false))) else none := Eq.trans rfl rfl
theorem Njc (st : St) (k : Nat) (o : Option PObj) : (st.put k o).get k = o := St.get_putk st k o
theorem NhI (st : St) (k k' : Nat) (o : Option PObj) (h : k ≠ k') : (st.put k o).get k' = st.get k' := St.get_put_ne h
theorem Nic (st : St) (c k : Nat) : St.get ⟨st.sto, c⟩ k = st.get k := Eq.trans rfl rfl
theorem Nj0 (c k : Nat) : St.get ⟨.leaf, c⟩ k = none := Eq.trans rfl rfl
theorem NeY (st : St) (k : Nat) (o : Option PObj) : (st.put k o).cnt = st.cnt := Eq.trans rfl rfl
theorem NjK (s : Trie PObj) (c : Nat) : (⟨s, c⟩ : St).cnt = c := Eq.trans rfl rfl
theorem NjP (cs : List PV) : (PV.agg cs).cells = cs := Eq.trans rfl rfl
theorem Nj7 (k : IntKind) (n : Int) : (PV.i k n).cells = [.i k n] := Eq.trans rfl rfl
theorem NjC (x : Bool) : (PV.b x).cells = [.b x] := Eq.trans rfl rfl
theorem Nkn (l : List UInt8) : (PV.s l).cells = [.s l] := Eq.trans rfl rfl
theorem Nkr : PV.nsl.cells = [.nsl] := Eq.trans rfl rfl
theorem NjO (n : Nat) (l : List PV) : (PV.fsl n l).cells = [.fsl n l] := Eq.trans rfl rfl
theorem NjF (a b c d : Nat) : (PV.rsl a b c d).cells = [.rsl a b c d] := Eq.trans rfl rfl
theorem NjB (a b : Nat) : (PV.ptr a b).cells = [.ptr a b] := Eq.trans rfl rfl
theorem Nki (a : Nat) : (PV.mp a).cells = [.mp a] := Eq.trans rfl rfl
theorem Njw (k : IntKind) (n : Int) : (PV.i k n).one = true := Eq.trans rfl rfl
theorem NjJ (x : Bool) : (PV.b x).one = true := Eq.trans rfl rfl
theorem Nkf (l : List UInt8) : (PV.s l).one = true := Eq.trans rfl rfl
theorem NjY : PV.nsl.one = true := Eq.trans rfl rfl
theorem Njs (n : Nat) (l : List PV) : (PV.fsl n l).one = true := Eq.trans rfl rfl
theorem NjE (a b c d : Nat) : (PV.rsl a b c d).one = true := Eq.trans rfl rfl
theorem NjQ (a b : Nat) : (PV.ptr a b).one = true := Eq.trans rfl rfl
theorem Njz (a : Nat) : (PV.mp a).one = true := Eq.trans rfl rfl
theorem Njk : PV.nptr.one = true := Eq.trans rfl rfl
theorem Nji : PV.nmp.one = true := Eq.trans rfl rfl
theorem Nj3 (cs : List PV) (off n : Nat) : cut? cs off n = if off + n ≤ cs.length then some ((cs.drop off).take n) else none := Eq.trans rfl rfl
theorem Nkq (cs : List PV) : NaH cs [] = some cs := by unfold NaH; rfl
theorem Nj4 (cs : List PV) (off n : Nat) (v : PV) (r : List (Nat × Nat × PV)) : NaH cs ((off, n, v) :: r) = if v.cells.length = n ∧ off + n ≤ cs.length ∧ v.cells.all PV.one then NaH (cs.take off ++ v.cells ++ cs.drop (off + n)) r else none := by rw [NaH]
theorem Nks (xs ys : List PV) : NeD [] xs ys = some true := by unfold NeD; rfl
def eqC (r : Option Bool) (k : Option Bool) : Option Bool := match r with
 | some true => k
 | some false => some false
 | none => none
def NiS (ck : Nat) (p q : Option PV) : Option Bool := match p, q with
 | some p, some q => eq1 ck p q
 | _, _ => none
theorem Nkd (o ck : Nat) (r : List (Nat × Nat)) (xs ys : List PV) : NeD ((o, ck) :: r) xs ys = eqC (NiS ck xs[o]? ys[o]?) (NeD r xs ys) := by
 rw [NeD]
 unfold eqC NiS
 cases xs[o]? <;> cases ys[o]? <;> simp
 rename_i p q
 cases eq1 ck p q with
 | none => rfl
 | some b => cases b <;> rfl
theorem Nko (k : Option Bool) : eqC (some true) k = k := Eq.trans rfl rfl
theorem Njo (k : Option Bool) : eqC (some false) k = some false := Eq.trans rfl rfl
theorem Nj1 (ck : Nat) (p q : PV) : NiS ck (some p) (some q) = eq1 ck p q := Eq.trans rfl rfl
theorem Nkm (k : IntKind) (a c : Int) : eq1 0 (.i k a) (.i k c) = some (a == c) := by simp [eq1]
theorem Njj (x y : Bool) : eq1 1 (.b x) (.b y) = some (x == y) := by simp [eq1]
theorem NjM (x y : List UInt8) : eq1 2 (.s x) (.s y) = some (x == y) := by simp [eq1]
theorem Njh : (true != false) = true := Eq.trans rfl rfl
theorem Njt : (false != false) = false := Eq.trans rfl rfl
theorem Nkk : (true != true) = false := Eq.trans rfl rfl
theorem Z1k_ : (false != true) = true := Eq.trans rfl rfl
theorem Nhf {P : Program} {Gl : Gmap} {cfg : Cfg} (hc : CfgOK P Gl cfg) {f : FuncId} {g : List PV → Option PV} (h : ∀ args r, g args = some r → ∃ fuel, evP cfg fuel f args = some r) : Na6 P Gl f g := by
 intro args r hr
 obtain ⟨fuel, hf⟩ := h args r hr
 exact NeZ hc fuel _ args r hf
theorem NgB {cfg : Cfg} {f : FuncId} (hx : cfg.ext f = none) {fuel : Nat} {args : List PV} {r : PV} (ho : Naq args = (args, { sto := .leaf, cnt := 1 })) (h : ∃ r' st', NaT cfg fuel f args { sto := .leaf, cnt := 1 } = some (r', st') ∧ NaO st' r' = some r) : evP cfg fuel f args = some r := by
 obtain ⟨r', st', h1, h2⟩ := h
 unfold evP Nam
 simp only [hx]
 unfold Ned
 rw [ho, h1]
 exact h2
end Go.Pe
set_option linter.unusedVariables false
set_option linter.unusedSimpArgs false
namespace Go.Pe
open Go Go.Am Go.RowKit

theorem Nfh (c : UInt8) : ∀ (l : List UInt8) (n : Nat), Ndv c l n = if Lib.indexByte l c = -1 then -1 else Lib.indexByte l c + n
 | [], n => by simp [Ndv, Lib.indexByte]
 | b :: l, n => by
   have h := Lib.indexByte_ge l c
   unfold Ndv Lib.indexByte
   by_cases hb : b = c
   ·simp [hb]
   ·rw [Nfh c l (n + 1)]
    by_cases h1 : Lib.indexByte l c = -1
    ·simp [hb, h1]
    ·have h2 : ¬ (Lib.indexByte l c + 1 = -1) := by omega
     simp [hb, h1, h2]
     omega
theorem Nef (c : UInt8) : ∀ (l : List UInt8) (n : Nat), NeB c l n = l.count c + n
 | [], n => by simp [NeB]
 | b :: l, n => by
   unfold NeB
   rw [Nef c l]
   by_cases hb : b = c
   ·simp [hb]; omega
   ·simp [hb, List.count_cons]
theorem Nfd (sub : List UInt8) : ∀ (l : List UInt8), NfC sub l = Lib.contains l sub
 | [] => by
   unfold NfC Lib.contains Lib.index
   cases sub <;> simp
 | b :: l => by
   have h := Lib.index_ge l sub
   unfold NfC
   rw [Nfd sub l]
   unfold Lib.contains
   rw [Lib.index]
   by_cases hb : sub.isPrefixOf (b :: l) = true
   ·simp [hb]
   ·by_cases h1 : Lib.index l sub = -1
    ·simp [hb, h1]
    ·simp [hb, h1]
     omega
theorem FC.two {F : Nat → Nat → Option Value} {vs : List Value} {p q : PV} (h : FC F vs [p, q]) : ∃ u v, vs = [u, v] ∧ FRel F u p ∧ FRel F v q := by
 match vs, h with
 | [u, v], h => exact ⟨u, v, rfl, h.2 0 u p rfl rfl, h.2 1 v q rfl rfl⟩
 | [], h => have := h.1; simp at this
 | [_], h => have := h.1; simp at this
 | _ :: _ :: _ :: _, h => have := h.1; simp at this
theorem FRel.s_inv {F : Nat → Nat → Option Value} {v : Value} {l : List UInt8} (h : FRel F v (.s l)) : v = .string ⟨l.toArray⟩ := by cases h; rfl
theorem FRel.i_inv {F : Nat → Nat → Option Value} {v : Value} {k : IntKind} {n : Int} (h : FRel F v (.i k n)) : v = .int k n := by cases h; rfl
theorem Nd0 {P : Program} {Gl : Gmap} {f : FuncId} {gb : Nat} {m : Int} (hg : Gl gb 0 = some (.int .i64 m)) (hc : ∀ (s sub : ByteArray) (m : Int) (w : World), s.size < 4294967281 → w.cell? ⟨gb, 0, none⟩ = some (.int .i64 m) →
 Calls P f #[.string s, .string sub] w fun e w' => e = .returned (.bool (Lib.contains s.data.toList sub.data.toList)) ∧ w' = w) : Na6 P Gl f gContains := by
 refine Nb6 fun args r hr => ?_
 unfold gContains at hr
 split at hr
 ·rename_i a b
  split at hr
  ·rename_i hl
   simp only [Sj] at hr
   subst hr
   refine ⟨rfl, rfl, fun vs F w hw hf => ?_⟩
   obtain ⟨u, v, rfl, hu, hv⟩ := hf.two
   rw [hu.s_inv, hv.s_inv]
   refine (hc ⟨a.toArray⟩ ⟨b.toArray⟩ m w (by simpa [ByteArray.size] using hl) (hw _ _ _ hg)).mono ?_
   rintro e w' ⟨rfl, rfl⟩
   exact ⟨_, rfl, by rw [Nfd]; exact .b _, rfl⟩
  ·simp at hr
 ·simp at hr
theorem NfO {P : Program} {Gl : Gmap} {f : FuncId} (hc : ∀ (s : ByteArray) (c : UInt8) (w : World),
 Calls P f #[.string s, .string ⟨#[c]⟩] w fun e w' => e = .returned (.int .i64 (Lib.countByte s.data.toList c)) ∧ w' = w) : Na6 P Gl f gCount := by
 refine Nb6 fun args r hr => ?_
 unfold gCount at hr
 split at hr
 ·rename_i a c
  simp only [Sj] at hr
  subst hr
  refine ⟨rfl, rfl, fun vs F w hw hf => ?_⟩
  obtain ⟨u, v, rfl, hu, hv⟩ := hf.two
  rw [hu.s_inv, hv.s_inv]
  refine (hc ⟨a.toArray⟩ c w).mono ?_
  rintro e w' ⟨rfl, rfl⟩
  exact ⟨_, rfl, by rw [Nef]; exact .i _ _, rfl⟩
 ·simp at hr
theorem NdL {P : Program} {Gl : Gmap} {f : FuncId} (hc : ∀ (s : ByteArray) (c : Int) (w : World),
 Calls P f #[.string s, .int .u8 c] w fun e w' => e = .returned (.int .i64 (Lib.indexByte s.data.toList c.toNat.toUInt8)) ∧ w' = w) : Na6 P Gl f gIndexByte := by
 refine Nb6 fun args r hr => ?_
 unfold gIndexByte at hr
 split at hr
 ·rename_i a c
  simp only [Sj] at hr
  subst hr
  refine ⟨rfl, rfl, fun vs F w hw hf => ?_⟩
  obtain ⟨u, v, rfl, hu, hv⟩ := hf.two
  rw [hu.s_inv, hv.i_inv]
  refine (hc ⟨a.toArray⟩ c w).mono ?_
  rintro e w' ⟨rfl, rfl⟩
  refine ⟨_, rfl, ?_, rfl⟩
  have : Ndv c.toNat.toUInt8 a 0 = Lib.indexByte a c.toNat.toUInt8 := by
   rw [Nfh]
   split
   ·rename_i h; rw [h]
   ·simp
  rw [this]; exact .i _ _
 ·simp at hr
theorem Xp : type_of% @Z1 ∧ type_of% @Z2 ∧ type_of% @Z3 ∧ type_of% @Z4 ∧ type_of% @Z5 ∧ type_of% @Z6 ∧ type_of% @Z7 ∧ type_of% @Zb ∧ type_of% @Zc ∧ type_of% @Ze ∧ type_of% @Zf ∧ type_of% @Zg ∧ type_of% @Zh ∧ type_of% @Zi ∧ type_of% @Zm ∧ type_of% @Zn ∧ type_of% @Zj ∧ type_of% @Zq ∧ type_of% @Zr ∧ type_of% @Zx ∧ type_of% @Zy ∧ type_of% @Zz ∧ type_of% @ZA ∧ type_of% @ZB ∧ type_of% @ZC ∧ type_of% @ZD ∧ type_of% @ZE ∧ type_of% @ZF ∧ type_of% @ZG ∧ type_of% @ZH ∧ type_of% @ZI ∧ type_of% @ZJ ∧ type_of% @ZK ∧ type_of% @ZL ∧ type_of% @ZM ∧ type_of% @ZN ∧ type_of% @ZO ∧ type_of% @ZP ∧ type_of% @ZQ ∧ type_of% @ZR ∧ type_of% @ZS ∧ type_of% @ZT ∧ type_of% @ZU ∧ type_of% @ZV ∧ type_of% @ZW ∧ type_of% @ZX ∧ type_of% @ZY ∧ type_of% @ZZ ∧ type_of% @NjS ∧ type_of% @Nke ∧ type_of% @NjG ∧ type_of% @Nkj ∧ type_of% @NjD ∧ type_of% @Njr ∧ type_of% @Nj9 ∧ type_of% @NjL ∧ type_of% @NjR ∧ type_of% @Njq ∧ type_of% @Nje ∧ type_of% @Nkc ∧ type_of% @Nj6 ∧ type_of% @Njg ∧ type_of% @Njf ∧ type_of% @NjU ∧ type_of% @NjA ∧ type_of% @Nju ∧ type_of% @Nkg ∧ type_of% @NjX ∧ type_of% @Nj2 ∧ type_of% @Nka ∧ type_of% @NjW ∧ type_of% @Z0n_ := ⟨@Z1, @Z2, @Z3, @Z4, @Z5, @Z6, @Z7, @Zb, @Zc, @Ze, @Zf, @Zg, @Zh, @Zi, @Zm, @Zn, @Zj, @Zq, @Zr, @Zx, @Zy, @Zz, @ZA, @ZB, @ZC, @ZD, @ZE, @ZF, @ZG, @ZH, @ZI, @ZJ, @ZK, @ZL, @ZM, @ZN, @ZO, @ZP, @ZQ, @ZR, @ZS, @ZT, @ZU, @ZV, @ZW, @ZX, @ZY, @ZZ, @NjS, @Nke, @NjG, @Nkj, @NjD, @Njr, @Nj9, @NjL, @NjR, @Njq, @Nje, @Nkc, @Nj6, @Njg, @Njf, @NjU, @NjA, @Nju, @Nkg, @NjX, @Nj2, @Nka, @NjW, @Z0n_⟩
theorem Xt : type_of% @Nip ∧ type_of% @Niq ∧ type_of% @Nio ∧ type_of% @Niv ∧ type_of% @Nir ∧ type_of% @Z0A_ := ⟨@Nip, @Niq, @Nio, @Niv, @Nir, @Z0A_⟩
theorem Xq : type_of% @Z1 ∧ type_of% @Z7 ∧ type_of% @Zb ∧ type_of% @Zc ∧ type_of% @Ze ∧ type_of% @Zf ∧ type_of% @Zg ∧ type_of% @Zh ∧ type_of% @Zi ∧ type_of% @Zm ∧ type_of% @Zn ∧ type_of% @Zo ∧ type_of% @Zj ∧ type_of% @Zq ∧ type_of% @Zr ∧ type_of% @Zx ∧ type_of% @Zz ∧ type_of% @Nis ∧ type_of% @Nh3 ∧ type_of% @Nit ∧ type_of% @NiN ∧ type_of% @Ni5 ∧ type_of% @NiU ∧ type_of% @Nip ∧ type_of% @Niq ∧ type_of% @Nio ∧ type_of% @Niv ∧ type_of% @Nir ∧ type_of% @Z0A_ ∧ type_of% @Env.get_put ∧ type_of% @Env.get_leaf ∧ type_of% @map_some ∧ type_of% @ZA ∧ type_of% @Z0B_ := ⟨@Z1, @Z7, @Zb, @Zc, @Ze, @Zf, @Zg, @Zh, @Zi, @Zm, @Zn, @Zo, @Zj, @Zq, @Zr, @Zx, @Zz, @Nis, @Nh3, @Nit, @NiN, @Ni5, @NiU, @Nip, @Niq, @Nio, @Niv, @Nir, @Z0A_, @Env.get_put, @Env.get_leaf, @map_some, @ZA, @Z0B_⟩
theorem Xc : type_of% @List.length_cons.{0} ∧ type_of% @List.length_nil.{0} ∧ type_of% @Nat.add_assoc ∧ type_of% @ne_eq.{1} ∧ type_of% @not_true_eq_false ∧ type_of% @decide_eq_true_eq ∧ type_of% @decide_true ∧ type_of% @decide_false ∧ type_of% @Bool.false_eq_true ∧ type_of% @Int.toNat_natCast ∧ type_of% @and_true ∧ type_of% @true_and ∧ type_of% @Bool.not_true ∧ type_of% @Bool.not_false ∧ type_of% @Option.map_none.{0, 0} ∧ type_of% @List.map_cons.{0, 0} ∧ type_of% @List.map_nil.{0, 0} ∧ type_of% @eq_self_iff_true.{1} ∧ type_of% @Bool.true_eq_false := ⟨@List.length_cons.{0}, @List.length_nil.{0}, @Nat.add_assoc, @ne_eq.{1}, @not_true_eq_false, @decide_eq_true_eq, @decide_true, @decide_false, @Bool.false_eq_true, @Int.toNat_natCast, @and_true, @true_and, @Bool.not_true, @Bool.not_false, @Option.map_none.{0, 0}, @List.map_cons.{0, 0}, @List.map_nil.{0, 0}, @eq_self_iff_true.{1}, @Bool.true_eq_false⟩
theorem Xm : type_of% @Nj5 ∧ type_of% @Njl ∧ type_of% @NjN ∧ type_of% @NjI ∧ type_of% @NjZ ∧ type_of% @Njc ∧ type_of% @NhI ∧ type_of% @Nic ∧ type_of% @Nj0 ∧ type_of% @NeY ∧ type_of% @NjK ∧ type_of% @NjP ∧ type_of% @Nj7 ∧ type_of% @NjC ∧ type_of% @Nkn ∧ type_of% @Nkr ∧ type_of% @NjO ∧ type_of% @NjF ∧ type_of% @NjB ∧ type_of% @Nki ∧ type_of% @Njw ∧ type_of% @NjJ ∧ type_of% @Nkf ∧ type_of% @NjY ∧ type_of% @Njs ∧ type_of% @NjE ∧ type_of% @NjQ ∧ type_of% @Njz ∧ type_of% @Njk ∧ type_of% @Nji ∧ type_of% @Nj3 ∧ type_of% @Nkq ∧ type_of% @Nj4 ∧ type_of% @Nks ∧ type_of% @Nkd ∧ type_of% @Nko ∧ type_of% @Njo ∧ type_of% @Nj1 ∧ type_of% @Nkm ∧ type_of% @Njj ∧ type_of% @NjM ∧ type_of% @List.take_succ_cons.{0} ∧ type_of% @List.take_zero.{0} ∧ type_of% @List.drop_succ_cons.{0} ∧ type_of% @List.drop_zero.{0} ∧ type_of% @List.cons_append.{0} ∧ type_of% @List.nil_append.{0} ∧ type_of% @List.append_nil.{0} ∧ type_of% @List.all_cons.{0} ∧ type_of% @List.all_nil.{0} ∧ type_of% @Bool.and_self ∧ type_of% @Bool.and_true ∧ type_of% @Bool.true_and ∧ type_of% @Nat.zero_add ∧ type_of% @Nat.add_zero ∧ type_of% @Nat.le_refl ∧ type_of% @List.getElem?_cons_zero.{0} ∧ type_of% @List.getElem?_cons_succ.{0} ∧ type_of% @Nat.add_left_cancel_iff ∧ type_of% @Nat.left_eq_add ∧ type_of% @Nat.add_eq_left ∧ type_of% @not_false_eq_true ∧ type_of% @Njh ∧ type_of% @Njt ∧ type_of% @Nkk ∧ type_of% @Z1k_ := ⟨@Nj5, @Njl, @NjN, @NjI, @NjZ, @Njc, @NhI, @Nic, @Nj0, @NeY, @NjK, @NjP, @Nj7, @NjC, @Nkn, @Nkr, @NjO, @NjF, @NjB, @Nki, @Njw, @NjJ, @Nkf, @NjY, @Njs, @NjE, @NjQ, @Njz, @Njk, @Nji, @Nj3, @Nkq, @Nj4, @Nks, @Nkd, @Nko, @Njo, @Nj1, @Nkm, @Njj, @NjM, @List.take_succ_cons.{0}, @List.take_zero.{0}, @List.drop_succ_cons.{0}, @List.drop_zero.{0}, @List.cons_append.{0}, @List.nil_append.{0}, @List.append_nil.{0}, @List.all_cons.{0}, @List.all_nil.{0}, @Bool.and_self, @Bool.and_true, @Bool.true_and, @Nat.zero_add, @Nat.add_zero, @Nat.le_refl, @List.getElem?_cons_zero.{0}, @List.getElem?_cons_succ.{0}, @Nat.add_left_cancel_iff, @Nat.left_eq_add, @Nat.add_eq_left, @not_false_eq_true, @Njh, @Njt, @Nkk, @Z1k_⟩
end Go.Pe
