/-
  The interpreter of plain data: operations, regions, code, functions. No condition; nothing of the program.
-/
import Derived.Test.YtaepgkghgcchnaaPeD
namespace Go.Pe
open Go
noncomputable section

abbrev CallE := FuncId → List PV → St → Option (PV × St)

/-- handed in by value: the first one, if it is handed over, becomes an object -/
def openArgs : List PV → List PV × St
  | .osl sz n cs :: r => (.rsl 0 sz 0 n :: r, ({ sto := .leaf, cnt := 1 } : St).put 0 (some (.cells cs false)))
  | l => (l, { sto := .leaf, cnt := 1 })
/-- an object as a whole: its key, cells' number, length, cells -/
def whole? (st : St) : PV → Option (Nat × Nat × Nat × List PV)
  | .rsl k sz off n => match st.get k with
    | some (.cells cs false) => if off = 0 ∧ cs.length = n * sz ∧ 0 < sz then some (k, sz, n, cs) else none
    | _ => none
  | _ => none
/-- the first one that is an object as a whole -/
def firstWhole (st : St) : List PV → Option (Nat × Nat × Nat × Nat × List PV)
  | [] => none
  | v :: r => match whole? st v with
    | some x => some (0, x)
    | none => (firstWhole st r).map fun y => (y.1 + 1, y.2)
def keysL (st : St) (l : List PV) : List Nat := l.flatMap (keysP st deepN)
def deepL (st : St) (l : List PV) : Option (List PV) := mapO (deep st deepN) l
/-- results by value: one object as a whole is handed over, all else frozen -/
def closeRes (st : St) (v : PV) : Option PV :=
  match v with
  | .tup vs => match firstWhole st vs with
    | some (i, k, sz, n, cs) =>
      if (keysL st cs ++ keysL st (vs.set i .und)).contains k then none else
      match deepL st cs, deepL st (vs.set i .und) with
      | some l, some us => some (.tup (us.set i (.osl sz n l)))
      | _, _ => none
    | none => (deepL st vs).map .tup
  | v => match whole? st v with
    | some (k, sz, n, cs) => if (keysL st cs).contains k then none else (deepL st cs).map (.osl sz n)
    | none => deep st deepN v
def PV.isO : PV → Option (Nat × Nat × List PV)
  | .osl sz n cs => some (sz, n, cs)
  | _ => none
def firstO : List PV → Option (Nat × Nat × Nat × List PV)
  | [] => none
  | v :: r => match v.isO with
    | some x => some (0, x)
    | none => (firstO r).map fun y => (y.1 + 1, y.2)
/-- a result by value becomes an object -/
def recvRes (st : St) (key : Nat) (v : PV) : Option (PV × St) :=
  match v with
  | .osl sz n cs => some (.rsl key sz 0 n, st.put key (some (.cells cs false)))
  | .tup vs => match firstO vs with
    | some (i, sz, n, cs) => if (vs.set i .und).all (fun v => v.isO.isNone) then some (.tup (vs.set i (.rsl key sz 0 n)), st.put key (some (.cells cs false))) else none
    | none => some (.tup vs, st)
  | v => some (v, st)
def callP (callE : CallE) (f : FuncId) (args : List PV) : Option PV :=
  match callE f (openArgs args).1 (openArgs args).2 with
  | some (r, st') => closeRes st' r
  | none => none
def PV.closedB (v : PV) : Bool := PV.closed deepN v

structure Cfg where
  fn : FuncId → Option MFunc
  ext : FuncId → Option (List PV → Option PV)

def runPure (cfg : Cfg) (callE : CallE) (f : FuncId) (args : List PV) : Option PV :=
  match cfg.ext f with
  | some g => g args
  | none => callP callE f args

/-- a call by value, among objects -/
def callStep (g : List PV → Option PV) (own : Bool) (st : St) (key : Nat) (ps : List PV) : Option (PV × St) :=
  match own, ps with
  | true, .rsl k sz off n :: rest => match st.get k with
    | some (.cells cs false) =>
      if off = 0 ∧ cs.length = n * sz ∧ 0 < sz ∧ (keysL st cs ++ keysL st rest).contains k = false then
        match deepL st cs, deepL st rest with
        | some l, some l2 => match g (.osl sz n l :: l2) with
          | some r => recvRes (if r.closedB then st.put k none else freezeK (st.put k none) (keysL st cs ++ keysL st rest)) key r
          | none => none
        | _, _ => none
      else none
    | _ => none
  | _, vs => match deepL st vs with
    | some l => match g l with
      | some r => recvRes (if r.closedB then st else freezeK st (keysL st vs)) key r
      | none => none
    | none => none
def maxBytes : Nat := 140737488355328

def loadP (st : St) (n : Nat) : PV → Option (List PV)
  | .ptr k off => match st.get k with
    | some (.cells cs _) => cut? cs off n
    | _ => none
  | .fptr cs => cut? cs 0 n
  | _ => none
def storeP (st : St) (n : Nat) (a v : PV) : Option St :=
  match a with
  | .ptr k off => match st.get k with
    | some (.cells cs false) => if v.cells.length = n ∧ off + n ≤ cs.length ∧ v.cells.all PV.one then some (st.put k (some (.cells (cs.take off ++ v.cells ++ cs.drop (off + n)) false))) else none
    | _ => none
  | _ => none

/-- a part of a slice -/
def sliceP (sz : Nat) (pl ph : Option PV) : PV → Option PV
  | .nsl => match bound ph 0 0, bound pl 0 0 with
    | some _, some _ => some .nsl
    | _, _ => none
  | .fsl n cs => match bound ph n n with
    | some h => match bound pl 0 h with
      | some l => if cs.length = n * sz then some (.fsl (h - l) ((cs.drop (l * sz)).take ((h - l) * sz))) else none
      | none => none
    | none => none
  | .rsl k z off n => match bound ph n n with
    | some h => match bound pl 0 h with
      | some l => if z = sz ∧ (l < n ∨ l = 0) then some (.rsl k sz (off + l * sz) (h - l)) else
          if z = sz then some (.fsl 0 []) else none
      | none => none
    | none => none
  | _ => none
/-- append -/
def appendP (st : St) (key sz bytes m : Nat) (news : List PV) : PV → Option (PV × St)
  | .nsl => if m = 0 then some (.nsl, st) else if m * bytes ≤ maxBytes then some (.rsl key sz 0 m, st.put key (some (.cells news false))) else none
  | .rsl k z off n => match st.get k with
    | some (.cells cs false) => if z = sz ∧ off = 0 ∧ cs.length = n * sz ∧ (n + m) * bytes ≤ maxBytes then
        some (.rsl key sz 0 (n + m), (st.put k none).put key (some (.cells (cs ++ news) false))) else none
    | _ => none
  | _ => none
/-- copy -/
def copyP (st : St) (sz m : Nat) (cs : List PV) : PV → Option (PV × St)
  | .rsl k z off n => match st.get k with
    | some (.cells l false) => if z = sz ∧ off + n * sz ≤ l.length ∧ cs.all PV.one then
        some (.i .i64 (Nat.min m n), st.put k (some (.cells (l.take off ++ cs.take (Nat.min m n * sz) ++ l.drop (off + Nat.min m n * sz)) false))) else none
    | _ => none
  | .nsl => some (.i .i64 0, st)
  | .fsl 0 _ => some (.i .i64 0, st)
  | _ => none
/-- how many -/
def lenP : PV → Option PV
  | .nsl => some (.i .i64 0)
  | .fsl n _ => some (.i .i64 n)
  | .rsl _ _ _ n => some (.i .i64 n)
  | _ => none
/-- the least -/
def minP : PV → List PV → Option PV
  | v, [] => some v
  | .i k p, .i l q :: r => if k = l then minP (.i k (if q < p then q else p)) r else none
  | _, _ => none
/-- the greatest -/
def maxP : PV → List PV → Option PV
  | v, [] => some v
  | .i k p, .i l q :: r => if k = l then maxP (.i k (if q > p then q else p)) r else none
  | _, _ => none
def evOp (cfg : Cfg) (callE : CallE) (ρ : Arg → PV) (st : St) (key : Nat) (op : MOp) : Option (PV × St) :=
  match op with
  | .mv x => some (ρ x, st)
  | .pick c a b => match ρ c with
    | .b x => some (if x then ρ a else ρ b, st)
    | _ => none
  | .alloc zero => some (.ptr key 0, st.put key (some (.cells zero false)))
  | .box x => if (ρ x).cells.all PV.one then some (.ptr key 0, st.put key (some (.cells (ρ x).cells false))) else none
  | .build zero parts => (fillP zero (parts.map fun p => (p.1, p.2.1, ρ p.2.2))).map fun cs => (.agg cs, st)
  | .bslice len sz zero parts => match fillP zero (parts.map fun p => (p.1, p.2.1, ρ p.2.2)) with
    | some cs => if 0 < sz ∧ cs.length = len * sz then some (.rsl key sz 0 len, st.put key (some (.cells cs false))) else none
    | none => none
  | .load agg n a => match loadP st n (ρ a) with
    | some cs => (ofCells agg cs).map (·, st)
    | none => none
  | .store n a x => (storeP st n (ρ a) (ρ x)).map (.tup [], ·)
  | .nilck x => match ρ x with
    | .ptr k o => some (.ptr k o, st)
    | .fptr cs => some (.fptr cs, st)
    | _ => none
  | .bin op x y => (binP op (ρ x) (ρ y)).map (·, st)
  | .eqb neg x y => (eqbP neg (ρ x) (ρ y)).map (·, st)
  | .eqn kd neg x y => (eqnP kd neg (ρ x) (ρ y)).map (·, st)
  | .eqs neg fs x y => match ρ x, ρ y with
    | .agg ps, .agg qs => (eqsP fs ps qs).map fun b => (.b (b != neg), st)
    | _, _ => none
  | .mkmap => some (.mp key, st.put key (some (.map [])))
  | .lookup ck ok zero m k => match ρ m with
    | .nmp => some (if ok then .tup [zero, .b false] else zero, st)
    | .mp j => match st.get j with
      | some (.map es) => (mapget ck (ρ k) es).map fun r => (if ok then .tup [r.getD zero, .b r.isSome] else r.getD zero, st)
      | _ => none
    | _ => none
  | .mapup ck m k v => match ρ m with
    | .mp j => match st.get j with
      | some (.map es) => (mapput ck (ρ k) (ρ v) es).map fun es' => (.tup [], st.put j (some (.map es')))
      | _ => none
    | _ => none
  | .mlen m => match ρ m with
    | .nmp => some (.i .i64 0, st)
    | .mp j => match st.get j with
      | some (.map es) => some (.i .i64 es.length, st)
      | _ => none
    | _ => none
  | .srange x => match ρ x with
    | .s l => some (.ptr key 0, st.put key (some (.iter l 0)))
    | _ => none
  | .snext x => match ρ x with
    | .ptr k 0 => match st.get k with
      | some (.iter l p) => if p < l.length then some (.tup [.b true, .i .i64 p, .i .i32 (Utf8.decode ⟨l.toArray⟩ p).1], st.put k (some (.iter l (p + (Utf8.decode ⟨l.toArray⟩ p).2)))) else some (.tup [.b false], st)
      | _ => none
    | _ => none
  | .mark x => match ρ x with
    | .rsl k z off n => match st.get k with
      | some (.cells _ _) => some (.rsl k z off n, st)
      | _ => none
    | _ => none
  | .bad => none
  | .un op x => (unP op (ρ x)).map (·, st)
  | .conv c x => match c, ρ x with
    | .int k, .i _ n => some (.i k (k.wrap n), st)
    | .same, .s l => some (.s l, st)
    | .s2b, .s l => if l.length ≤ maxBytes then some (.rsl key 1 0 l.length, st.put key (some (.cells (ofBytes l) false))) else none
    | .b2s, v => match cellsOf st 1 v with
      | some (_, cs) => (bytesOf? cs).map fun l => (.s l, st)
      | none => none
    | _, _ => none
  | .mkfn f cap => some (.fn f (cap.map ρ), st)
  | .mkbfn f pre => some (.bfn f (pre.map ρ), st)
  | .mkslice sz bytes zero l => match ρ l with
    | .i .i64 n => if 0 ≤ n ∧ n.toNat * bytes ≤ maxBytes ∧ 0 < bytes ∧ zero.length = sz ∧ 0 < sz then some (.rsl key sz 0 n.toNat, st.put key (some (.cells (List.flatten (List.replicate n.toNat zero)) false))) else none
    | _ => none
  | .slice (some N) sz x lo hi => match ρ x with
    | .ptr k off => match bound (hi.map ρ) N N, st.get k with
      | some h, some (.cells cs _) => match bound (lo.map ρ) 0 h with
        | some l => if l < N ∧ 0 < sz ∧ off + N * sz ≤ cs.length ∧ N < 4294967296 then some (.rsl k sz (off + l * sz) (h - l), st) else none
        | none => none
      | _, _ => none
    | _ => none
  | .slice none sz x lo hi => (sliceP sz (lo.map ρ) (hi.map ρ) (ρ x)).map (·, st)
  | .substr x lo hi => match ρ x with
    | .s l => match bound (hi.map ρ) l.length l.length with
      | some h => match bound (lo.map ρ) 0 h with
        | some k => some (.s ((l.drop k).take (h - k)), st)
        | none => none
      | none => none
    | _ => none
  | .fieldAddr off x => match ρ x with
    | .ptr k o => some (.ptr k (o + off), st)
    | .fptr cs => some (.fptr (cs.drop off), st)
    | _ => none
  | .field agg off n x => match ρ x with
    | .agg cs => match cut? cs off n with
      | some l => (ofCells agg l).map (·, st)
      | none => none
    | _ => none
  | .indexAddr (some N) sz x i => match ρ x, ρ i with
    | .ptr k o, .i _ j => if 0 ≤ j ∧ j < N then some (.ptr k (o + j.toNat * sz), st) else none
    | .fptr cs, .i _ j => if 0 ≤ j ∧ j < N then some (.fptr (cs.drop (j.toNat * sz)), st) else none
    | _, _ => none
  | .indexAddr none sz x i => match ρ x, ρ i with
    | .rsl k z off n, .i _ j => if z = sz ∧ 0 ≤ j ∧ j < n then some (.ptr k (off + j.toNat * sz), st) else none
    | .fsl n cs, .i _ j => if cs.length = n * sz ∧ 0 < sz ∧ 0 ≤ j ∧ j < n then some (.fptr (cs.drop (j.toNat * sz)), st) else none
    | _, _ => none
  | .index len agg n x i => match ρ x, ρ i with
    | .agg cs, .i _ j => if 0 ≤ j ∧ j < len then match cut? cs (j.toNat * n) n with
        | some l => (ofCells agg l).map (·, st)
        | none => none
      else none
    | _, _ => none
  | .sindex x i => match ρ x, ρ i with
    | .s l, .i _ j => if 0 ≤ j then (l[j.toNat]?).map fun c => (.i .u8 c.toNat, st) else none
    | _, _ => none
  | .extract i x => match ρ x with
    | .tup vs => (vs[i]?).map (·, st)
    | _ => none
  | .call f own args => callStep (runPure cfg callE f) own st key (args.map ρ)
  | .callq f args => match deepL st (args.map ρ) with
    | some l => match runPure cfg callE f l with
      | some r => if r.closedB then recvRes st key r else none
      | none => none
    | none => none
  | .calle f args => match cfg.ext f with
    | some _ => none
    | none => callE f (args.map ρ) st
  | .callv f args => match ρ f with
    | .fn g cap => match cfg.ext g with
      | some _ => none
      | none => callE g (args.map ρ ++ cap) st
    | .bfn g pre => match cfg.ext g with
      | some _ => none
      | none => callE g (pre ++ args.map ρ) st
    | _ => none
  | .append sz bytes s x => match cellsOf st sz (ρ x) with
    | some (m, news) => if 0 < sz ∧ 0 < bytes ∧ news.all PV.one then appendP st key sz bytes m news (ρ s) else none
    | none => none
  | .appstr s x => match ρ x with
    | .s l => appendP st key 1 1 l.length (ofBytes l) (ρ s)
    | _ => none
  | .len x => (lenP (ρ x)).map (·, st)
  | .slen x => match ρ x with
    | .s l => some (.i .i64 l.length, st)
    | _ => none
  | .alen n => some (.i .i64 n, st)
  | .copy sz d s => match cellsOf st sz (ρ s) with
    | some (m, cs) => copyP st sz m cs (ρ d)
    | none => none
  | .min x ys => (minP (ρ x) (ys.map ρ)).map (·, st)
  | .max x ys => (maxP (ρ x) (ys.map ρ)).map (·, st)

/-- what is going on in a region -/
structure Loc where
  env : Env
  loc : Env
  st : St
def Loc.rd (c : Loc) : Arg → PV
  | .t t => c.env.get t
  | .l t => c.loc.get t
  | .c v => v
def Loc.wr (c : Loc) (d : MDst) (v : PV) : Loc :=
  match d with
  | .no => c
  | .t t => { c with env := c.env.put t v }
  | .l t => { c with loc := c.loc.put t v }
def guardP (c : Loc) : Option (Arg × Bool) → Option Bool
  | none => some true
  | some (x, want) => match c.rd x with
    | .b y => some (y == want)
    | .tup [] => some false
    | _ => none
def evOps (cfg : Cfg) (callE : CallE) : List MOper → Nat → Loc → Option Loc
  | [], _, c => some c
  | o :: r, key, c => match guardP c o.guard with
    | some true => match evOp cfg callE c.rd c.st key o.op with
      | some (v, st) => evOps cfg callE r (key + 8) ({ c with st := st }.wr o.dst v)
      | none => none
    | some false => evOps cfg callE r (key + 8) (c.wr o.dst (.tup []))
    | none => none
inductive MExit where
  | nrm
  | ex (id : Nat)
  | ret
  deriving Inhabited, Repr, DecidableEq
structure Now where
  env : Env
  st : St
def evRegion (cfg : Cfg) (callE : CallE) (ops : List MOper) (c : Now) : Option Now :=
  (evOps cfg callE ops c.st.cnt { env := c.env, loc := .leaf, st := { c.st with cnt := c.st.cnt + 8 * ops.length } }).map fun x => { env := x.env, st := x.st }
/-- what a region in an open order may hold: no object that was there is written -/
def quietB : MOp → Bool
  | .store .. | .append .. | .appstr .. | .copy .. | .mark _ | .mapup .. | .snext _ | .call .. | .calle .. | .callv .. => false
  | _ => true
def aheadB (masks : List Nat) (i j : Nat) : Bool := (masks.getD i 0).testBit j
/-- the text's run, with what was ahead of each operation, and what it gave -/
def evTr (cfg : Cfg) (callE : CallE) : List MOper → Nat → Loc → Option (List (Loc × PV) × Loc)
  | [], _, c => some ([], c)
  | o :: r, key, c => match guardP c o.guard with
    | some true => match evOp cfg callE c.rd c.st key o.op with
      | some (v, st) => (evTr cfg callE r (key + 8) ({ c with st := st }.wr o.dst v)).map fun x => ((c, v) :: x.1, x.2)
      | none => none
    | some false => (evTr cfg callE r (key + 8) (c.wr o.dst (.tup []))).map fun x => ((c, .tup []) :: x.1, x.2)
    | none => none
def stAt (tr : List (Loc × PV)) (c' : Loc) (i : Nat) : St := match tr[i]? with
  | some x => x.1.st
  | none => c'.st
def quietAt (ml : List MOper) (i : Nat) : Bool := match ml[i]? with
  | some o => quietB o.op
  | none => true
/-- the store ahead of an operation, with what all quiet ones behind it will have made -/
def sigA (ml : List MOper) (tr : List (Loc × PV)) (c' : Loc) (key t : Nat) : List Nat → St → St
  | [], st => st
  | q :: l, st => if t ≤ q && quietAt ml q then match (stAt tr c' (q + 1)).get (key + 8 * q) with
      | some o => sigA ml tr c' key t l (st.put (key + 8 * q) (some o))
      | none => sigA ml tr c' key t l st
    else sigA ml tr c' key t l st
def sig (ml : List MOper) (tr : List (Loc × PV)) (c' : Loc) (key t : Nat) : St := sigA ml tr c' key t (List.range ml.length) (stAt tr c' t)
/-- may a quiet operation run where those ahead of 't' of the others have? -/
def mayAt (ml : List MOper) (masks : List Nat) (q t : Nat) : Bool := (List.range ml.length).all fun j => quietAt ml j || ((!aheadB masks q j || decide (j < t)) && (!aheadB masks j q || decide (t ≤ j)))
def textAt (ml : List MOper) (q t : Nat) : Bool := (List.range ml.length).all fun j => quietAt ml j || (decide (j < t) == decide (j < q))
def again (cfg : Cfg) (callE : CallE) (ml : List MOper) (tr : List (Loc × PV)) (c' : Loc) (key q t : Nat) : Bool :=
  (decide (t ≤ q) || PObj.same ((stAt tr c' t).get (key + 8 * q)) ((stAt tr c' (q + 1)).get (key + 8 * q))) && match ml[q]?, tr[q]? with
    | some o, some (c, r) => match guardP c o.guard with
      | some true => match evOp cfg callE c.rd ((sig ml tr c' key t).put (key + 8 * q) none) (key + 8 * q) o.op with
        | some (r', st') => PV.same deepS r' r && PObj.same (st'.get (key + 8 * q)) ((stAt tr c' (q + 1)).get (key + 8 * q))
        | none => false
      | _ => true
    | _, _ => false
def chainDyn (cfg : Cfg) (callE : CallE) (ml : List MOper) (masks : List Nat) (tr : List (Loc × PV)) (c' : Loc) (key : Nat) : Bool :=
  (List.range ml.length).all fun j => if quietAt ml j then
      (List.range (ml.length + 1)).all fun t => (decide (t < ml.length) && quietAt ml t) || textAt ml j t || !mayAt ml masks j t || again cfg callE ml tr c' key j t
    else (List.range ml.length).all fun m => if j < m then ((stAt tr c' (j + 1)).get (key + 8 * m)).isNone
      else if m < j && quietAt ml m then aheadB masks j m || ((stAt tr c' j).get (key + 8 * m)).isNone else true
/-- where two stores change places -/
def storeAt (ml : List MOper) (i : Nat) : Option (Nat × Arg × Arg) := match ml[i]? with
  | some { dst := _, op := .store n a x, guard := none } => some (n, a, x)
  | _ => none
def storeKey (ml : List MOper) (tr : List (Loc × PV)) (i : Nat) : Option Nat := match storeAt ml i, tr[i]? with
  | some (_, a, _), some (c, _) => match c.rd a with
    | .ptr k _ => some k
    | _ => none
  | _, _ => none
def swapSt (ml : List MOper) (tr : List (Loc × PV)) (c' : Loc) (key i j : Nat) : St := match storeAt ml j, tr[j]? with
  | some (n, a, x), some (c, _) => (storeP (sig ml tr c' key i) n (c.rd a) (c.rd x)).getD (sig ml tr c' key i)
  | _, _ => sig ml tr c' key i
def mayS (ml : List MOper) (masks : List Nat) (i q : Nat) : Bool := !aheadB masks q i && (List.range ml.length).all fun w => quietAt ml w || decide (w = i) || !aheadB masks w q
def againS (cfg : Cfg) (callE : CallE) (ml : List MOper) (tr : List (Loc × PV)) (c' : Loc) (key q : Nat) (st : St) : Bool :=
  PObj.same (st.get (key + 8 * q)) ((stAt tr c' (q + 1)).get (key + 8 * q)) && match ml[q]?, tr[q]? with
    | some o, some (c, r) => match guardP c o.guard with
      | some true => match evOp cfg callE c.rd (st.put (key + 8 * q) none) (key + 8 * q) o.op with
        | some (r', st') => PV.same deepS r' r && PObj.same (st'.get (key + 8 * q)) ((stAt tr c' (q + 1)).get (key + 8 * q))
        | none => false
      | _ => true
    | _, _ => false
def swapDyn (cfg : Cfg) (callE : CallE) (ml : List MOper) (masks : List Nat) (tr : List (Loc × PV)) (c' : Loc) (key : Nat) : Option (Nat × Nat) → Bool
  | none => true
  | some (i, j) => match storeKey ml tr i, storeKey ml tr j with
    | some ki, some kj => !decide (ki = kj) && (List.range ml.length).all fun q => !quietAt ml q ||
        ((aheadB masks j q || ((sig ml tr c' key i).get (key + 8 * q)).isNone) && (aheadB masks i q || ((swapSt ml tr c' key i j).get (key + 8 * q)).isNone) &&
          (!mayS ml masks i q || againS cfg callE ml tr c' key q (swapSt ml tr c' key i j)))
    | _, _ => false
/-- in an open order: those that write come one behind the other, and nothing else hangs on when it runs -/
def evChain (cfg : Cfg) (callE : CallE) (ops : List MOper) (masks : List Nat) (sw : Option (Nat × Nat)) (c : Now) : Option Now :=
  match evTr cfg callE ops c.st.cnt { env := c.env, loc := .leaf, st := { c.st with cnt := c.st.cnt + 8 * ops.length } } with
  | some (tr, c') => if chainDyn cfg callE ops masks tr c' c.st.cnt && swapDyn cfg callE ops masks tr c' c.st.cnt sw then some { env := c'.env, st := c'.st } else none
  | none => none
/-- rounds of a loop -/
def loopE (body : Now → Option (MExit × Now)) : Nat → Now → Option (MExit × Now)
  | 0, _ => none
  | f + 1, c => match body c with
    | some (.nrm, c') => loopE body f c'
    | some (e, c') => some (e, c')
    | none => none
def evCode (cfg : Cfg) (callE : CallE) (fuel : Nat) : MCode → Now → Option (MExit × Now)
  | .skip, c => some (.nrm, c)
  | .region ops, c => (evRegion cfg callE ops c).map (.nrm, ·)
  | .chain ops masks sw, c => (evChain cfg callE ops masks sw c).map (.nrm, ·)
  | .seq a b, c => match evCode cfg callE fuel a c with
    | some (.nrm, c') => evCode cfg callE fuel b c'
    | r => r
  | .cond x a b, c => match ({ env := c.env, loc := .leaf, st := c.st : Loc }).rd x with
    | .b y => if y then evCode cfg callE fuel a c else evCode cfg callE fuel b c
    | _ => none
  | .block id a, c => match evCode cfg callE fuel a c with
    | some (.ex j, c') => if j = id then some (.nrm, c') else some (.ex j, c')
    | r => r
  | .loop a, c => match loopE (evCode cfg callE fuel a) fuel c with
    | some (.nrm, _) => none
    | r => r
  | .exit id, c => some (.ex id, c)
  | .scope a, c => evCode cfg callE fuel a c
  | .ret, c => some (.ret, c)
def resP (c : Now) : MRes → Option PV
  | .t t => some (c.env.get t)
  | .cell t agg n => match loadP c.st n (c.env.get t) with
    | some cs => ofCells agg cs
    | none => none
def putArgs : List PV → Nat → Env → Env
  | [], _, e => e
  | v :: r, t, e => putArgs r (t + 1) (e.put t v)
def evBody (cfg : Cfg) (callE : CallE) (fuel : Nat) (m : MFunc) (args : List PV) (st : St) : Option (PV × St) :=
  match evCode cfg callE fuel m.body { env := putArgs args 0 .leaf, st } with
  | some (.ex _, _) => none
  | some (_, c) => match mapO (resP c) m.res with
    | some [v] => some (v, c.st)
    | some vs => some (.tup vs, c.st)
    | none => none
  | none => none
def evFn (cfg : Cfg) : Nat → CallE
  | 0 => fun _ _ _ => none
  | fuel + 1 => fun f args st => match cfg.fn f with
    | some m => evBody cfg (evFn cfg fuel) (fuel + 1) m args st
    | none => none
/-- a function by value -/
def evP (cfg : Cfg) (fuel : Nat) (f : FuncId) (args : List PV) : Option PV := runPure cfg (evFn cfg fuel) f args

/-! ### From the program's form -/
def constP : Value → Option PV
  | .bool x => some (.b x)
  | .int k n => some (.i k n)
  | .string s => some (.s s.data.toList)
  | .pointer none => some .nptr
  | .slice none 0 0 => some .nsl
  | .map none => some .nmp
  | .nilFunc => some .nfn
  | .agg cs => (mapO (fun v => match v with
    | .bool x => some (.b x)
    | .int k n => some (.i k n)
    | .string s => some (.s s.data.toList)
    | .pointer none => some .nptr
    | .slice none 0 0 => some .nsl
    | .map none => some .nmp
    | .nilFunc => some .nfn
    | _ => none) cs.toList).map .agg
  | _ => none
section
variable (P : Program) (V : List Nat)
def cArg : Operand → Option Arg
  | .tmp t => some (if V.contains t then .t t else .l t)
  | .const v => (constP v).map .c
  | .global _ => none
  | .func f => some (.c (.fn f []))
def cArgO : Option Operand → Option (Option Arg)
  | none => some none
  | some x => (cArg V x).map some
def isAggT (t : TypeId) : Option Bool := (P.underlying t).map fun
  | .struct _ | .array _ _ => true
  | _ => false
def zeroT (t : TypeId) : Option (List PV) := do
  let i ← P.info? t
  let z ← i.zero
  let p ← constP z
  if p.cells.length = i.size ∧ p.cells.all PV.one then some p.cells else none
def sizeT (t : TypeId) : Option Nat := (P.info? t).map (·.size)
def bytesT (t : TypeId) : Option Nat := (P.info? t).map (·.bytes)
def sliceT (t : TypeId) : Option TypeId := match P.underlying t with
  | some (.slice e) => some e
  | _ => none
def kdT : TypeDesc → Option Nat
  | .slice _ => some 0
  | .pointer _ => some 1
  | .func .. => some 2
  | .map .. => some 3
  | _ => none
/-- numbers, truths, texts -/
def ckT (t : TypeId) : Option Nat := match P.underlying t with
  | some (.int _) => some 0
  | some .bool => some 1
  | some .string => some 2
  | _ => none
def eqsT (fs : List Field) : Option (List (Nat × Nat)) := mapO (fun f : Field => do
  let ck ← ckT P f.type
  let n ← sizeT P f.type
  if n = 1 ∧ f.name ≠ "_" then some (f.offset, ck) else none) fs
def zeroV (t : TypeId) : Option PV := do
  let i ← P.info? t
  let z ← i.zero
  constP z
def mapT (t : TypeId) : Option (TypeId × TypeId) := match P.underlying t with
  | some (.map k e) => some (k, e)
  | _ => none
def hasBody (f : FuncId) : Bool := match P.funcs[f]? with
  | some fn => fn.body.isSome && !(fn.name == "runtime.NumGoroutine")
  | none => false
def partsT (t : TypeId) (parts : List (Nat × Operand)) : Option (List (Nat × Nat × Arg)) :=
  match P.underlying t with
  | some (.struct fs) => if fs.toList.all (fun f => (sizeT P f.type).isSome) then mapO (fun (p : Nat × Operand) => do
      let f ← fs[p.1]?
      some (f.offset, ← sizeT P f.type, ← cArg V p.2)) parts else none
  | some (.array _ e) => match sizeT P e with
    | none => none
    | some n => mapO (fun (p : Nat × Operand) => do some (p.1 * n, n, ← cArg V p.2)) parts
  | _ => none
def cOp (modes : FuncId → Option Bool) (op : Op) : Option MOp :=
  match op with
  | .move x | .assign x => (cArg V x).map .mv
  | .pick c a b => do some (.pick (← cArg V c) (← cArg V a) (← cArg V b))
  | .alloc e => do some (.alloc (← zeroT P e))
  | .box _ x => do some (.box (← cArg V x))
  | .build t parts => do
    let zero ← zeroT P t
    let ps ← partsT P V t parts.toList
    some (.build zero ps)
  | .buildSlice t len parts => do
    let e ← sliceT P t
    let n ← sizeT P e
    let z ← zeroT P e
    let ps ← mapO (fun (p : Nat × Operand) => do some (p.1 * n, n, ← cArg V p.2)) parts.toList
    if len * n ≤ 16777216 then some (.bslice len n (List.flatten (List.replicate len z)) ps) else none
  | .load t a => do some (.load (← isAggT P t) (← sizeT P t) (← cArg V a))
  | .store t a x => do some (.store (← sizeT P t) (← cArg V a) (← cArg V x))
  | .nilCheck x => do some (.nilck (← cArg V x))
  | .binOp op t x y _ => do
    let a ← cArg V x
    let c ← cArg V y
    match P.underlying t with
    | some (.int _) | some .string => some (.bin op a c)
    | some .bool => match op with
      | .eql => some (.eqb false a c)
      | .neq => some (.eqb true a c)
      | _ => none
    | some (.struct fs) => do
      let l ← eqsT P fs.toList
      if P.stoodInHeld t || P.eqGuardType P.depth t then none else match op with
        | .eql => some (.eqs false l a c)
        | .neq => some (.eqs true l a c)
        | _ => none
    | some d => match kdT d, op with
      | some kd, .eql => some (.eqn kd false a c)
      | some kd, .neq => some (.eqn kd true a c)
      | _, _ => none
    | _ => none
  | .unOp op _ x => do some (.un op (← cArg V x))
  | .convert src dst x => do
    let a ← cArg V x
    match P.underlying src, P.underlying dst with
    | some (.int _), some (.int k) => some (.conv (.int k) a)
    | some .string, some .string => some (.conv .same a)
    | some .string, some (.slice e) => match P.underlying e with
      | some (.int .u8) => some (.conv .s2b a)
      | _ => none
    | some (.slice e), some .string => match P.underlying e with
      | some (.int .u8) => some (.conv .b2s a)
      | _ => none
    | some (.slice _), some (.slice e) => match P.underlying e with
      | some (.int .u8) => if src = dst then some (.mark a) else none
      | _ => none
    | _, _ => none
  | .makeFunc (.func f) first cap => if first.isEmpty then do some (.mkfn f (← mapO (cArg V) cap.toList)) else if cap.isEmpty then do some (.mkbfn f (← mapO (cArg V) first.toList)) else none
  | .makeSlice t l c => do
    let e ← sliceT P t
    match l, c with
    | .tmp a, .tmp b => if a = b then some (.mkslice (← sizeT P e) (← bytesT P e) (← zeroT P e) (← cArg V l)) else none
    | .const (.int .i64 a), .const (.int .i64 b) => if a = b then some (.mkslice (← sizeT P e) (← bytesT P e) (← zeroT P e) (← cArg V l)) else none
    | _, _ => none
  | .slice t x lo hi none => do
    let a ← cArg V x
    let l ← cArgO V lo
    let h ← cArgO V hi
    match P.underlying t with
    | some (.array n e) => some (.slice (some n) (← sizeT P e) a l h)
    | some (.slice e) => some (.slice none (← sizeT P e) a l h)
    | some .string => some (.substr a l h)
    | _ => none
  | .fieldAddr s x f => match P.underlying s with
    | some (.struct fs) => do
      let fd ← fs[f]?
      let n ← sizeT P fd.type
      if n = 0 then none else some (.fieldAddr fd.offset (← cArg V x))
    | _ => none
  | .field s x f => match P.underlying s with
    | some (.struct fs) => do
      let fd ← fs[f]?
      some (.field (← isAggT P fd.type) fd.offset (← sizeT P fd.type) (← cArg V x))
    | _ => none
  | .indexAddr t x i => match P.underlying t with
    | some (.array n e) => do some (.indexAddr (some n) (← sizeT P e) (← cArg V x) (← cArg V i))
    | some (.slice e) => do some (.indexAddr none (← sizeT P e) (← cArg V x) (← cArg V i))
    | _ => none
  | .index t x i => match P.underlying t with
    | some (.array n e) => do some (.index n (← isAggT P e) (← sizeT P e) (← cArg V x) (← cArg V i))
    | some .string => do some (.sindex (← cArg V x) (← cArg V i))
    | _ => none
  | .extract x i => do some (.extract i (← cArg V x))
  | .makeMap _ none => some .mkmap
  | .range t x => match P.underlying t with
    | some .string => do some (.srange (← cArg V x))
    | _ => none
  | .next x true => do some (.snext (← cArg V x))
  | .lookup t x i ok => do
    let (k, e) ← mapT P t
    some (.lookup (← ckT P k) ok (← zeroV P e) (← cArg V x) (← cArg V i))
  | .mapUpdate t m k v => do
    let (kt, _) ← mapT P t
    some (.mapup (← ckT P kt) (← cArg V m) (← cArg V k) (← cArg V v))
  | .insert t m k v => do
    let (kt, _) ← mapT P t
    some (.mapup (← ckT P kt) (← cArg V m) (← cArg V k) (← cArg V v))
  | .call c => match c.callee with
    | .value (.func f) => match hasBody P f, mapO (cArg V) c.args.toList with
      | true, some l => match modes f with
        | some own => some (.call f own l)
        | none => some (.calle f l)
      | _, _ => none
    | .value (.tmp t) => do some (.callv (← cArg V (.tmp t)) (← mapO (cArg V) c.args.toList))
    | .builtin .append => match c.argTypes.toList, c.args.toList with
      | [t, u], [s, x] => do
        let e ← sliceT P t
        match P.underlying u with
        | some (.slice _) => do
          let _ ← zeroT P e
          some (.append (← sizeT P e) (← bytesT P e) (← cArg V s) (← cArg V x))
        | some .string => do
          let _ ← zeroT P e
          let n ← sizeT P e
          let b ← bytesT P e
          if n = 1 ∧ b = 1 then some (.appstr (← cArg V s) (← cArg V x)) else none
        | _ => none
      | _, _ => none
    | .builtin .len => match c.argTypes.toList, c.args.toList with
      | [t], [x] => match P.underlying t with
        | some .string => do some (.slen (← cArg V x))
        | some (.slice _) => do some (.len (← cArg V x))
        | some (.array n _) => some (.alen n)
        | some (.map _ _) => do some (.mlen (← cArg V x))
        | _ => none
      | _, _ => none
    | .builtin .copy => match c.argTypes.toList, c.args.toList with
      | [t, u], [d, s] => do
        let e ← sliceT P t
        let _ ← sliceT P u
        some (.copy (← sizeT P e) (← cArg V d) (← cArg V s))
      | _, _ => none
    | .builtin .max => match c.args.toList with
      | x :: ys => do some (.max (← cArg V x) (← mapO (cArg V) ys))
      | [] => none
    | .builtin .min => match c.args.toList with
      | x :: ys => do some (.min (← cArg V x) (← mapO (cArg V) ys))
      | [] => none
    | _ => none
  | _ => none
def MOp.plain : MOp → Bool
  | .call .. | .calle .. | .callv .. | .callq .. => false
  | _ => true
def isCallOp : Op → Bool
  | .call c => match c.callee with
    | .value _ => true
    | _ => false
  | _ => false
def cDst (n : Nat) : Option Tmp → Option MDst
  | none => some .no
  | some t => if t < n then some (if V.contains t then .t t else .l t) else none
def cGuard (n : Nat) (ops : Array Oper) : Option (Nat × Bool) → Option (Option (Arg × Bool))
  | none => some none
  | some (j, want) => match (ops[j]?).bind (·.dst) with
    | some t => if t < n then some (some ((if V.contains t then .t t else .l t), want)) else none
    | none => none
def cOper (n : Nat) (modes : FuncId → Option Bool) (ops : Array Oper) (o : Oper) : Option MOper := do
  let op := match cOp P V modes o.op with
    | some m => if m.plain || isCallOp o.op then m else .bad
    | none => .bad
  let dst ← cDst V n o.dst
  let guard ← cGuard V n ops o.guard
  some { dst, op, guard }
def toQuiet (o : MOper) : MOper := match o.op with
  | .call f false args => { o with op := .callq f args }
  | m => if quietB m then o else { o with op := .bad }
def argsO : Option Arg → List Arg
  | some a => [a]
  | none => []
def mArgs : MOp → List Arg
  | .mv x | .box x | .load _ _ x | .nilck x | .un _ x | .conv _ x | .fieldAddr _ x | .field _ _ _ x | .extract _ x | .len x | .slen x | .mlen x | .srange x | .snext x | .mark x | .mkslice _ _ _ x => [x]
  | .pick c a b => [c, a, b]
  | .alloc _ | .alen _ | .mkmap | .bad => []
  | .lookup _ _ _ m k => [m, k]
  | .mapup _ m k v => [m, k, v]
  | .build _ ps | .bslice _ _ _ ps => ps.map fun p => p.2.2
  | .store _ a x | .bin _ a x | .eqb _ a x | .eqn _ _ a x | .eqs _ _ a x | .indexAddr _ _ a x | .index _ _ _ a x | .sindex a x | .append _ _ a x | .appstr a x | .copy _ a x => [a, x]
  | .mkfn _ l | .mkbfn _ l | .call _ _ l | .calle _ l | .callq _ l => l
  | .callv f l => f :: l
  | .slice _ _ x lo hi | .substr x lo hi => x :: (argsO lo ++ argsO hi)
  | .min x l | .max x l => x :: l
def Arg.slot : Arg → Option Nat
  | .t x | .l x => some x
  | .c _ => none
def MDst.slot : MDst → Option Nat
  | .no => none
  | .t x | .l x => some x
def MOper.reads (o : MOper) : List Nat := (mArgs o.op ++ (match o.guard with | some (x, _) => [x] | none => [])).filterMap Arg.slot
/-- what must have gone ahead of each -/
def masksOf (ops : List Oper) : List Nat := ops.foldl (fun acc o => acc ++ [o.after.toList.foldl (fun m e => if Region.binds .any e then m ||| (2 ^ e.on ||| acc.getD e.on 0) else m) 0]) []
def drawOK0 (ops : List Oper) (ml : List MOper) (masks : List Nat) : Bool :=
  (List.range ops.length).all fun i => match ops[i]?, ml[i]? with
    | some o, some mo =>
      o.after.toList.all (fun e => !Region.binds .any e || decide (e.on < i)) &&
      (List.range ops.length).all (fun j => !aheadB masks i j || o.after.toList.any (fun e => Region.binds .any e && (e.on == j || aheadB masks e.on j))) &&
      (List.range ops.length).all (fun j => match ml[j]? with
        | some mj => match mj.dst.slot with
          | some t => (decide (i = j) || mo.dst.slot != some t) && (!mo.reads.contains t || (decide (j < i) && aheadB masks i j) || (decide (i < j) && aheadB masks j i))
          | none => true
        | none => false)
    | _, _ => false
def drawOK (ops : List Oper) (ml : List MOper) (masks : List Nat) : Bool := ml.all (fun mo => quietB mo.op) && drawOK0 ops ml masks
/-- the first two that write and are not ordered -/
def swapOf (ml : List MOper) (masks : List Nat) : Option (Nat × Nat) := ((List.range ml.length).flatMap fun i => (List.range ml.length).filterMap fun j => if decide (i < j) && !quietAt ml i && !quietAt ml j && !aheadB masks j i then some (i, j) else none).head?
/-- two stores, the last ones that write -/
def swapOK (ml : List MOper) : Option (Nat × Nat) → Bool
  | none => true
  | some (i, j) => decide (i < j) && decide (j < ml.length) && !quietAt ml i && !quietAt ml j && (storeAt ml i).isSome && (storeAt ml j).isSome && (List.range ml.length).all fun w => quietAt ml w || decide (w = j) || decide (w ≤ i)
/-- the same, but for those that write: they come one behind the other -/
def chainOK (ops : List Oper) (ml : List MOper) (masks : List Nat) (sw : Option (Nat × Nat)) : Bool :=
  drawOK0 ops ml masks && swapOK ml sw && (List.range ops.length).all fun i => (List.range ops.length).all fun j => !decide (i < j) || quietAt ml i || quietAt ml j || aheadB masks j i || sw == some (i, j)
/-- neither memory nor functions in it, by its type -/
def flatT : Nat → TypeId → Bool
  | 0, _ => false
  | f + 1, t => match P.underlying t with
    | some (.int _) => true
    | some .bool => true
    | some .string => true
    | some (.struct fs) => fs.toList.all fun d => flatT f d.type
    | some (.array _ e) => flatT f e
    | _ => false
/-- what writes are calls by value alone, with flat results -/
def quietOK (ml : List MOper) : Bool := ml.all fun mo => quietB mo.op || match mo.op with
  | .call f false _ => match P.funcs[f]? with
    | some fn => fn.resultTypes.toList.all (flatT P 8)
    | none => false
  | _ => false
def cCode (n : Nat) (modes : FuncId → Option Bool) : Code → Option MCode
  | .skip => some .skip
  | .region _ ops draw => match mapO (cOper P V n modes ops) ops.toList with
    | none => none
    | some ml => if draw then
        if P.follows .mixedOrders && (!ml.all (fun mo => quietB mo.op) && !quietOK P ml) && chainOK ops.toList ml (masksOf ops.toList) (swapOf ml (masksOf ops.toList)) then some (.chain ml (masksOf ops.toList) (swapOf ml (masksOf ops.toList)))
        else if P.follows .mixedOrders && drawOK ops.toList (ml.map toQuiet) (masksOf ops.toList) then some (.region (ml.map toQuiet)) else some (.region [{ dst := .no, op := .bad, guard := none }])
      else some (.region ml)
  | .seq a b => do some (.seq (← cCode n modes a) (← cCode n modes b))
  | .cond c a b => do
    let x ← cArg V c
    some (.cond x (← cCode n modes a) (← cCode n modes b))
  | .block id c => do some (.block id (← cCode n modes c))
  | .loop c => do some (.loop (← cCode n modes c))
  | .exit id => some (.exit id)
  | .scope c => do some (.scope (← cCode n modes c))
  | .label _ => some .skip
  | .ret => some .ret
  | _ => none
def cRes : ResultVar → Option MRes
  | .tmp t => if V.contains t then some (.t t) else none
  | .cell t ty => do if V.contains t then some (.cell t (← isAggT P ty) (← sizeT P ty)) else none
end
/-- slots that are read where they were not written: in another region, by a test, as a result -/
def Code.useV : Code → List Nat
  | .region _ ops _ =>
    let go := ops.toList.foldl (fun (acc : List Nat × List Nat) o =>
      let reads := (o.op.operands.toList.filterMap fun | .tmp t => some t | _ => none) ++ (match o.guard with | some (j, _) => ((ops[j]?).bind (·.dst)).toList | none => [])
      (reads.filter (fun t => !acc.2.contains t) ++ acc.1, o.dst.toList ++ acc.2)) ([], [])
    go.1
  | .seq a b => Code.useV a ++ Code.useV b
  | .cond (.tmp t) a b => t :: (Code.useV a ++ Code.useV b)
  | .cond _ a b => Code.useV a ++ Code.useV b
  | .block _ c | .loop c | .scope c => Code.useV c
  | _ => []
def useF (fn : Func) : List Nat := (fn.results.toList.map fun | .tmp t => t | .cell t _ => t) ++ (match fn.body with | some c => Code.useV c | none => [])
def cFunc (P : Program) (modes : FuncId → Option Bool) (f : FuncId) : Option MFunc := do
  let fn ← P.funcs[f]?
  let c ← fn.body
  let V := (useF fn).eraseDups
  let body ← cCode P V fn.ntmps modes c
  let res ← mapO (cRes P V) fn.results.toList
  if !(fn.name == "runtime.NumGoroutine") then some { body, res } else none
end
end Go.Pe
