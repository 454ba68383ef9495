/-
  An interpreter of the program's functions over plain data: frozen slices by value, what the call made by name. No condition; nothing of the program.
-/
import Derived.Test.YtaepgkghgcchnaaLib
namespace Go.Pe
open Go
noncomputable section

/-- plain data -/
inductive PV where
  | i (k : IntKind) (n : Int)
  | b (x : Bool)
  | s (l : List UInt8)
  | agg (cs : List PV)
  | tup (vs : List PV)
  | nsl
  | fsl (n : Nat) (cs : List PV)
  | rsl (k sz off n : Nat)
  | osl (sz n : Nat) (cs : List PV)
  | nptr
  | ptr (k off : Nat)
  | fptr (cs : List PV)
  | nfn
  | fn (f : FuncId) (cap : List PV)
  | bfn (f : FuncId) (pre : List PV)
  | nmp
  | mp (k : Nat)
  | und
  deriving Inhabited, Repr

/-- the same data? -/
def PV.same : Nat → PV → PV → Bool
  | 0, _, _ => false
  | f + 1, a, c => match a, c with
    | .i k n, .i l m => decide (k = l) && decide (n = m)
    | .b x, .b y => x == y
    | .s x, .s y => x == y
    | .agg x, .agg y => x.length == y.length && (x.zip y).all fun p => PV.same f p.1 p.2
    | .tup x, .tup y => x.length == y.length && (x.zip y).all fun p => PV.same f p.1 p.2
    | .nsl, .nsl => true
    | .fsl n x, .fsl m y => n == m && x.length == y.length && (x.zip y).all fun p => PV.same f p.1 p.2
    | .rsl k z o n, .rsl l y p m => k == l && z == y && o == p && n == m
    | .osl z n x, .osl y m u => z == y && n == m && x.length == u.length && (x.zip u).all fun p => PV.same f p.1 p.2
    | .nptr, .nptr => true
    | .ptr k o, .ptr l p => k == l && o == p
    | .fptr x, .fptr y => x.length == y.length && (x.zip y).all fun p => PV.same f p.1 p.2
    | .nfn, .nfn => true
    | .bfn g x, .bfn h y => decide (g = h) && x.length == y.length && (x.zip y).all fun p => PV.same f p.1 p.2
    | .fn g x, .fn h y => decide (g = h) && x.length == y.length && (x.zip y).all fun p => PV.same f p.1 p.2
    | .nmp, .nmp => true
    | .mp k, .mp l => k == l
    | .und, .und => true
    | _, _ => false
def deepS : Nat := 40
/-- a map from numbers, by their digits -/
inductive Trie (α : Type) where
  | leaf
  | node (v : Option α) (l r : Trie α)
  deriving Inhabited, Repr
def Trie.sget {α : Type} : Nat → Trie α → Nat → Option α
  | 0, _, _ => none
  | _ + 1, .leaf, _ => none
  | f + 1, .node v l r, k => if k = 0 then v else if k % 2 = 1 then Trie.sget f l (k / 2) else Trie.sget f r (k / 2 - 1)
def Trie.sput {α : Type} : Nat → Trie α → Nat → Option α → Trie α
  | 0, t, _, _ => t
  | f + 1, .leaf, k, x => if k = 0 then .node x .leaf .leaf else if k % 2 = 1 then .node none (Trie.sput f .leaf (k / 2) x) .leaf else .node none .leaf (Trie.sput f .leaf (k / 2 - 1) x)
  | f + 1, .node v l r, k, x => if k = 0 then .node x l r else if k % 2 = 1 then .node v (Trie.sput f l (k / 2) x) r else .node v l (Trie.sput f r (k / 2 - 1) x)

/-- the same, quick for the kernel -/
def Trie.get {α : Type} (f : Nat) : Trie α → Nat → Option α :=
  Nat.rec (motive := fun _ => Trie α → Nat → Option α) (fun _ _ => none)
    (fun _ ih t k => Trie.rec (motive := fun _ => Option α) none (fun v l r _ _ => Bool.rec (motive := fun _ => Option α) (Bool.rec (motive := fun _ => Option α) (ih r (Nat.sub (Nat.div k 2) 1)) (ih l (Nat.div k 2)) (Nat.beq (Nat.mod k 2) 1)) v (Nat.beq k 0)) t) f
def Trie.put {α : Type} (f : Nat) : Trie α → Nat → Option α → Trie α :=
  Nat.rec (motive := fun _ => Trie α → Nat → Option α → Trie α) (fun t _ _ => t)
    (fun _ ih t k x => Trie.rec (motive := fun _ => Trie α)
      (Bool.rec (motive := fun _ => Trie α) (Bool.rec (motive := fun _ => Trie α) (.node none .leaf (ih .leaf (Nat.sub (Nat.div k 2) 1) x)) (.node none (ih .leaf (Nat.div k 2) x) .leaf) (Nat.beq (Nat.mod k 2) 1)) (.node x .leaf .leaf) (Nat.beq k 0))
      (fun v l r _ _ => Bool.rec (motive := fun _ => Trie α) (Bool.rec (motive := fun _ => Trie α) (.node v l (ih r (Nat.sub (Nat.div k 2) 1) x)) (.node v (ih l (Nat.div k 2) x) r) (Nat.beq (Nat.mod k 2) 1)) (.node x l r) (Nat.beq k 0)) t) f
theorem rec_ite {α : Type} (a b : α) (m n : Nat) : Bool.rec (motive := fun _ => α) a b (Nat.beq m n) = if m = n then b else a := by
  by_cases h : m = n
  · rw [if_pos h, h, Nat.beq_refl n]
  · rw [if_neg h]
    cases e : Nat.beq m n with
    | true => exact absurd (Nat.eq_of_beq_eq_true e) h
    | false => rfl
theorem Trie.get_eq {α : Type} : ∀ (f : Nat) (t : Trie α) (k : Nat), Trie.get f t k = Trie.sget f t k
  | 0, _, _ => rfl
  | _ + 1, .leaf, _ => rfl
  | f + 1, .node v l r, k => by
    show Bool.rec (motive := fun _ => Option α) (Bool.rec (motive := fun _ => Option α) (Trie.get f r (Nat.sub (Nat.div k 2) 1)) (Trie.get f l (Nat.div k 2)) (Nat.beq (Nat.mod k 2) 1)) v (Nat.beq k 0) = _
    rw [rec_ite, rec_ite, Trie.get_eq f, Trie.get_eq f]
    rfl
theorem Trie.put_eq {α : Type} : ∀ (f : Nat) (t : Trie α) (k : Nat) (x : Option α), Trie.put f t k x = Trie.sput f t k x
  | 0, _, _, _ => rfl
  | f + 1, .leaf, k, x => by
    show Bool.rec (motive := fun _ => Trie α) (Bool.rec (motive := fun _ => Trie α) (.node none .leaf (Trie.put f .leaf (Nat.sub (Nat.div k 2) 1) x)) (.node none (Trie.put f .leaf (Nat.div k 2) x) .leaf) (Nat.beq (Nat.mod k 2) 1)) (.node x .leaf .leaf) (Nat.beq k 0) = _
    rw [rec_ite, rec_ite, Trie.put_eq f, Trie.put_eq f]
    rfl
  | f + 1, .node v l r, k, x => by
    show Bool.rec (motive := fun _ => Trie α) (Bool.rec (motive := fun _ => Trie α) (.node v l (Trie.put f r (Nat.sub (Nat.div k 2) 1) x)) (.node v (Trie.put f l (Nat.div k 2) x) r) (Nat.beq (Nat.mod k 2) 1)) (.node x l r) (Nat.beq k 0) = _
    rw [rec_ite, rec_ite, Trie.put_eq f, Trie.put_eq f]
    rfl

/-- an object that the call made: cells (frozen or not), a map -/
inductive PObj where
  | cells (cs : List PV) (frz : Bool)
  | map (es : List (PV × PV))
  | iter (l : List UInt8) (pos : Nat)
  deriving Inhabited, Repr
def PObj.same : Option PObj → Option PObj → Bool
  | none, none => true
  | some (.cells x a), some (.cells y c) => a == c && x.length == y.length && (x.zip y).all fun p => PV.same deepS p.1 p.2
  | some (.iter x p), some (.iter y q) => x == y && p == q
  | some (.map x), some (.map y) => x.length == y.length && (x.zip y).all fun p => PV.same deepS p.1.1 p.2.1 && PV.same deepS p.1.2 p.2.2
  | _, _ => false
structure St where
  sto : Trie PObj
  cnt : Nat
  deriving Inhabited, Repr
def St.get (st : St) (k : Nat) : Option PObj := st.sto.get (Nat.add k 1) k
def St.put (st : St) (k : Nat) (o : Option PObj) : St := { st with sto := st.sto.put (Nat.add k 1) k o }
abbrev Env := Trie PV
def Env.get (e : Env) (t : Nat) : PV := (Trie.get (Nat.add t 1) e t).getD .und
def Env.put (e : Env) (t : Nat) (v : PV) : Env := Trie.put (Nat.add t 1) e t (some v)

/-- operands -/
inductive Arg where
  | t (t : Nat)
  | l (t : Nat)
  | c (v : PV)
  deriving Inhabited, Repr
/-- what is converted to what -/
inductive Cv where
  | int (k : IntKind)
  | same
  | s2b
  | b2s
  deriving Inhabited, Repr
/-- operations, with what the types' table tells of them -/
inductive MOp where
  | mv (x : Arg)
  | pick (c a b : Arg)
  | alloc (zero : List PV)
  | box (x : Arg)
  | build (zero : List PV) (parts : List (Nat × Nat × Arg))
  | bslice (len sz : Nat) (zero : List PV) (parts : List (Nat × Nat × Arg))
  | load (agg : Bool) (n : Nat) (a : Arg)
  | store (n : Nat) (a x : Arg)
  | nilck (x : Arg)
  | bin (op : BinOp) (x y : Arg)
  | eqb (neg : Bool) (x y : Arg)
  | eqn (kd : Nat) (neg : Bool) (x y : Arg)
  | eqs (neg : Bool) (fs : List (Nat × Nat)) (x y : Arg)
  | mkmap
  | lookup (ck : Nat) (ok : Bool) (zero : PV) (m k : Arg)
  | mapup (ck : Nat) (m k v : Arg)
  | mlen (m : Arg)
  | srange (x : Arg)
  | snext (x : Arg)
  | mark (x : Arg)
  | bad
  | un (op : UnOp) (x : Arg)
  | conv (c : Cv) (x : Arg)
  | mkfn (f : FuncId) (cap : List Arg)
  | mkbfn (f : FuncId) (pre : List Arg)
  | mkslice (sz bytes : Nat) (zero : List PV) (l : Arg)
  | slice (arr : Option Nat) (sz : Nat) (x : Arg) (lo hi : Option Arg)
  | substr (x : Arg) (lo hi : Option Arg)
  | fieldAddr (off : Nat) (x : Arg)
  | field (agg : Bool) (off n : Nat) (x : Arg)
  | indexAddr (arr : Option Nat) (sz : Nat) (x i : Arg)
  | index (len : Nat) (agg : Bool) (n : Nat) (x i : Arg)
  | sindex (x i : Arg)
  | extract (i : Nat) (x : Arg)
  | call (f : FuncId) (own : Bool) (args : List Arg)
  | calle (f : FuncId) (args : List Arg)
  | callq (f : FuncId) (args : List Arg)
  | callv (f : Arg) (args : List Arg)
  | append (sz bytes : Nat) (s x : Arg)
  | appstr (s x : Arg)
  | len (x : Arg)
  | slen (x : Arg)
  | alen (n : Nat)
  | copy (sz : Nat) (d s : Arg)
  | min (x : Arg) (ys : List Arg)
  | max (x : Arg) (ys : List Arg)
  deriving Inhabited, Repr
inductive MDst where
  | no
  | t (t : Nat)
  | l (t : Nat)
  deriving Inhabited, Repr
structure MOper where
  dst : MDst
  op : MOp
  guard : Option (Arg × Bool)
  deriving Inhabited, Repr
inductive MCode where
  | skip
  | region (ops : List MOper)
  | chain (ops : List MOper) (masks : List Nat) (sw : Option (Nat × Nat))
  | seq (a b : MCode)
  | cond (c : Arg) (a b : MCode)
  | block (id : Nat) (c : MCode)
  | loop (c : MCode)
  | exit (id : Nat)
  | scope (c : MCode)
  | ret
  deriving Inhabited, Repr
inductive MRes where
  | t (t : Nat)
  | cell (t : Nat) (agg : Bool) (n : Nat)
  deriving Inhabited, Repr
structure MFunc where
  body : MCode
  res : List MRes
  deriving Inhabited, Repr

/-- a part of a list, if it is there -/
def cut? (cs : List PV) (off n : Nat) : Option (List PV) := if off + n ≤ cs.length then some ((cs.drop off).take n) else none
def PV.cells : PV → List PV
  | .agg cs => cs
  | v => [v]
/-- may a value lie in one cell? -/
def PV.one : PV → Bool
  | .agg _ | .tup _ | .und | .osl .. | .fptr _ => false
  | _ => true
def ofCells (agg : Bool) (cs : List PV) : Option PV := if agg then some (.agg cs) else match cs with | [v] => some v | _ => none
def bytesOf? : List PV → Option (List UInt8)
  | [] => some []
  | .i .u8 n :: r => if 0 ≤ n ∧ n < 256 then (bytesOf? r).map (UInt8.ofNat n.toNat :: ·) else none
  | _ => none
def ofBytes (l : List UInt8) : List PV := l.map fun x => .i .u8 x.toNat
/-- cells at a place, with parts -/
def fillP : List PV → List (Nat × Nat × PV) → Option (List PV)
  | cs, [] => some cs
  | cs, (off, n, v) :: r => if v.cells.length = n ∧ off + n ≤ cs.length ∧ v.cells.all PV.one then fillP (cs.take off ++ v.cells ++ cs.drop (off + n)) r else none

/-- one by one -/
def mapO {α β : Type} (f : α → Option β) : List α → Option (List β)
  | [] => some []
  | a :: r => match f a, mapO f r with
    | some x, some y => some (x :: y)
    | _, _ => none
/-- what kind of reference, and is it nil? -/
def isNil? : PV → Option (Nat × Bool)
  | .nsl => some (0, true)
  | .rsl .. => some (0, false)
  | .fsl n _ => if n = 0 then none else some (0, false)
  | .nptr => some (1, true)
  | .ptr .. | .fptr _ => some (1, false)
  | .nfn => some (2, true)
  | .fn .. => some (2, false)
  | .bfn .. => some (2, false)
  | .nmp => some (3, true)
  | .mp _ => some (3, false)
  | _ => none
def ibits (op : BinOp) (k : IntKind) (a b : Int) : Option PV :=
  let x := BitVec.ofInt k.bits a
  let y := BitVec.ofInt k.bits b
  match op with
  | .and => some (.i k (k.wrap (x &&& y).toNat))
  | .or => some (.i k (k.wrap (x ||| y).toNat))
  | .xor => some (.i k (k.wrap (x ^^^ y).toNat))
  | .andNot => some (.i k (k.wrap (x &&& ~~~y).toNat))
  | _ => none
def binP (op : BinOp) : PV → PV → Option PV
  | .i k a, .i l c =>
    match op with
    | .shl => if c < 0 then none else some (.i k (k.wrap (a * 2 ^ (min c.toNat k.bits))))
    | .shr => if c < 0 then none else some (.i k (a.fdiv (2 ^ (min c.toNat k.bits))))
    | _ => if k ≠ l then none else
      match op with
      | .add => some (.i k (k.wrap (a + c)))
      | .sub => some (.i k (k.wrap (a - c)))
      | .mul => some (.i k (k.wrap (a * c)))
      | .quo => if c = 0 then none else some (.i k (k.wrap (a.tdiv c)))
      | .rem => if c = 0 then none else some (.i k (a.tmod c))
      | .eql => some (.b (a == c))
      | .neq => some (.b (a != c))
      | .lss => some (.b (decide (a < c)))
      | .leq => some (.b (decide (a ≤ c)))
      | .gtr => some (.b (decide (a > c)))
      | .geq => some (.b (decide (a ≥ c)))
      | op => ibits op k a c
  | .s a, .s c =>
    match op with
    | .add => if a.length + c.length < 9223372036854775807 then some (.s (a ++ c)) else none
    | .eql => some (.b (a == c))
    | .neq => some (.b (!(a == c)))
    | .lss => some (.b (Op.bytesLess a c))
    | .leq => some (.b (Op.bytesLess a c || a == c))
    | .gtr => some (.b (!(Op.bytesLess a c || a == c)))
    | .geq => some (.b (!Op.bytesLess a c))
    | _ => none
  | _, _ => none
def eqbP (neg : Bool) : PV → PV → Option PV
  | .b x, .b y => some (.b ((x == y) != neg))
  | _, _ => none
/-- against nil -/
def eqnP (kd : Nat) (neg : Bool) (x y : PV) : Option PV :=
  match isNil? x, isNil? y with
  | some (k, a), some (l, c) => if k = kd ∧ l = kd ∧ (a = true ∨ c = true) then some (.b ((a && c) != neg)) else none
  | _, _ => none
/-- one cell against another: a number, a truth, a text -/
def eq1 (ck : Nat) : PV → PV → Option Bool
  | .i k a, .i l c => if ck = 0 ∧ k = l then some (a == c) else none
  | .b x, .b y => if ck = 1 then some (x == y) else none
  | .s a, .s c => if ck = 2 then some (a == c) else none
  | _, _ => none
def eqsP : List (Nat × Nat) → List PV → List PV → Option Bool
  | [], _, _ => some true
  | (o, ck) :: r, xs, ys => match xs[o]?, ys[o]? with
    | some p, some q => match eq1 ck p q with
      | some true => eqsP r xs ys
      | some false => some false
      | none => none
    | _, _ => none
/-- maps -/
def mapget (ck : Nat) (k : PV) : List (PV × PV) → Option (Option PV)
  | [] => some none
  | (k', v) :: r => match eq1 ck k k' with
    | some true => some (some v)
    | some false => mapget ck k r
    | none => none
def mapput (ck : Nat) (k v : PV) : List (PV × PV) → Option (List (PV × PV))
  | [] => some [(k, v)]
  | (k', v') :: r => match eq1 ck k k' with
    | some true => some ((k, v) :: r)
    | some false => (mapput ck k v r).map ((k', v') :: ·)
    | none => none
def unP (op : UnOp) : PV → Option PV
  | .i k n => match op with
    | .neg => some (.i k (k.wrap (0 - n)))
    | .xor => ibits .xor k (if k.signed then -1 else k.max) n
    | _ => none
  | .b x => match op with
    | .not => some (.b (!x))
    | _ => none
  | _ => none

/-- what a slice of the call's own, or a frozen one, reads as: its cells -/
def cellsOf (st : St) (sz : Nat) : PV → Option (Nat × List PV)
  | .nsl => some (0, [])
  | .fsl n cs => if cs.length = n * sz then some (n, cs) else none
  | .rsl k z off n => if z ≠ sz then none else match st.get k with
    | some (.cells cs _) => (cut? cs off (n * sz)).map (n, ·)
    | _ => none
  | _ => none
/-- a bound of a part -/
def bound (x : Option PV) (d most : Nat) : Option Nat :=
  match x with
  | none => some d
  | some (.i _ n) => if 0 ≤ n ∧ n ≤ most then some n.toNat else none
  | _ => none

/-- by value, with what the call made looked up -/
def deep (st : St) : Nat → PV → Option PV
  | 0, _ => none
  | f + 1, v => match v with
    | .rsl k sz off n => match st.get k with
      | some (.cells cs _) => match cut? cs off (n * sz) with
        | some l => (mapO (deep st f) l).map (.fsl n)
        | none => none
      | _ => none
    | .agg cs => (mapO (deep st f) cs).map .agg
    | .tup cs => (mapO (deep st f) cs).map .tup
    | .ptr .. | .fptr _ | .fn .. | .bfn .. | .mp _ | .osl .. => none
    | v => some v
/-- does a value hang on no frozen memory? -/
def PV.closed : Nat → PV → Bool
  | 0, _ => false
  | f + 1, v => match v with
    | .fsl n cs => n == 0 && cs.isEmpty
    | .fptr _ | .rsl .. | .ptr .. | .fn .. | .bfn .. | .mp _ => false
    | .osl _ _ cs => cs.all (PV.closed f)
    | .agg cs => cs.all (PV.closed f)
    | .tup cs => cs.all (PV.closed f)
    | _ => true
/-- the objects that a value reads -/
def keysP (st : St) : Nat → PV → List Nat
  | 0, _ => []
  | f + 1, v => match v with
    | .rsl k _ _ _ => k :: (match st.get k with | some (.cells cs _) => cs.flatMap (keysP st f) | _ => [])
    | .agg cs => cs.flatMap (keysP st f)
    | .tup cs => cs.flatMap (keysP st f)
    | _ => []
def freeze1 (st : St) (k : Nat) : St := match st.get k with
  | some (.cells cs _) => st.put k (some (.cells cs true))
  | _ => st
def freezeK (st : St) : List Nat → St
  | [] => st
  | k :: r => freezeK (freeze1 st k) r
def deepN : Nat := 12
end
end Go.Pe
