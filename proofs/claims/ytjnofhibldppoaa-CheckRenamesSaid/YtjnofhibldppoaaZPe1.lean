/-
 An interpreter of the program's functions over plain data; what plain data stands for. No condition; nothing of the program.
-/
import Derived.Test.YtjnofhibldppoaaZLib
import Derived.Deep.MidRow
import Derived.Deep.AppendSrc
import Derived.Laws.IdiomStrings
import Derived.Lib.Builder
import Derived.Lib.UnsafeStr
import Derived.Lib.MakeNoZero
namespace Go.Pe
open Go
section
variable {p:Prop}
theorem Zaa(h:p:=by omega):p:=h
theorem Zab(h:p:=by first|omega|(simp only[Naz,Na2];omega)|(simp only;omega)):p:=h
theorem Zac(h:p:=by first|assumption|rfl|omega|(simp only[Naz,Na2];omega)|(simp;omega)|(simp;done)):p:=h
theorem Zad(h:p:=by first|with_reducible rfl|with_reducible assumption|(simp[Yad]<;>omega)):p:=h
theorem Zae(h:p:=by simp only;omega):p:=h
theorem Zaf(h:p:=by simp):p:=h
theorem Zag(h:p:=by first|omega|(simp only;omega)):p:=h
theorem Zah(h:p:=by simp[Yad]):p:=h
theorem Zai(h:p:=by simp only[Naz];omega):p:=h
theorem Zaj(h:p:=by decide):p:=h
theorem Zak(h:p:=by simp;omega):p:=h
theorem Zal(h:p:=by simp only[];omega):p:=h
theorem Zam(h:p:=by simp[Nbr]):p:=h
theorem Zan{α:Type _}(l:List α):[]++l=l:=rfl
theorem Zao{α:Type _}(a:α)(l m:List α):(a::l)++m=a::(l++m):=rfl
end
noncomputable section
inductive PV where
 |i (k:IntKind) (n:Int)
 |b (x:Bool)
 |s (l:List UInt8)
 |agg (cs:List PV)
 |tup (vs:List PV)
 |nsl
 |fsl (n:Nat) (cs:List PV)
 |rsl (k sz off n:Nat)
 |osl (sz n:Nat) (cs:List PV)
 |nptr
 |ptr (k off:Nat)
 |fptr (cs:List PV)
 |nfn
 |fn (f:FuncId) (cap:List PV)
 |bfn (f:FuncId) (pre:List PV)
 |nmp
 |mp (k:Nat)
 |und
 deriving Inhabited,Repr
mutual
def PV.sm:PV→PV→Bool
 |.i k n,.i l m=>decide (k=l)&&decide (n=m)
 |.b x,.b y=>x==y
 |.s x,.s y=>x==y
 |.agg x,.agg y=>PV.smL x y
 |.tup x,.tup y=>PV.smL x y
 |.nsl,.nsl=>true
 |.fsl n x,.fsl m y=>n==m&&PV.smL x y
 |.rsl k z o n,.rsl l y p m=>k==l&&z==y&&o==p&&n==m
 |.osl z n x,.osl y m u=>z==y&&n==m&&PV.smL x u
 |.nptr,.nptr=>true
 |.ptr k o,.ptr l p=>k==l&&o==p
 |.fptr x,.fptr y=>PV.smL x y
 |.nfn,.nfn=>true
 |.bfn g x,.bfn h y=>decide (g=h)&&PV.smL x y
 |.fn g x,.fn h y=>decide (g=h)&&PV.smL x y
 |.nmp,.nmp=>true
 |.mp k,.mp l=>k==l
 |.und,.und=>true
 |_,_=>false
def PV.smL:List PV→List PV→Bool
 |[],[]=>true
 |a::x,c::y=>PV.sm a c&&PV.smL x y
 |_,_=>false
end
def PV.same:Nat→PV→PV→Bool
 |0,_,_=>false
 |f+1,a,c=>match a,c with
   |.i k n,.i l m=>decide (k=l)&&decide (n=m)
   |.b x,.b y=>x==y
   |.s x,.s y=>x==y
   |.agg x,.agg y=>x.length==y.length&&(x.zip y).all fun p=>PV.same f p.1 p.2
   |.tup x,.tup y=>x.length==y.length&&(x.zip y).all fun p=>PV.same f p.1 p.2
   |.nsl,.nsl=>true
   |.fsl n x,.fsl m y=>n==m&&PV.smL x y
   |.rsl k z o n,.rsl l y p m=>k==l&&z==y&&o==p&&n==m
   |.osl z n x,.osl y m u=>z==y&&n==m&&x.length==u.length&&(x.zip u).all fun p=>PV.same f p.1 p.2
   |.nptr,.nptr=>true
   |.ptr k o,.ptr l p=>k==l&&o==p
   |.fptr x,.fptr y=>x.length==y.length&&(x.zip y).all fun p=>PV.same f p.1 p.2
   |.nfn,.nfn=>true
   |.bfn g x,.bfn h y=>decide (g=h)&&x.length==y.length&&(x.zip y).all fun p=>PV.same f p.1 p.2
   |.fn g x,.fn h y=>decide (g=h)&&x.length==y.length&&(x.zip y).all fun p=>PV.same f p.1 p.2
   |.nmp,.nmp=>true
   |.mp k,.mp l=>k==l
   |.und,.und=>true
   |_,_=>false
def NbK:Nat:=40
inductive Trie(α:Type) where
 |leaf
 |node (v:Option α) (l r:Trie α)
 deriving Inhabited,Repr
def Trie.sget{α:Type}:Nat→Trie α→Nat→Option α
 |0,_,_=>none
 |_+1,.leaf,_=>none
 |f+1,.node v l r,k=>if k=0 then v else if k % 2=1 then Trie.sget f l (k / 2)else Trie.sget f r (k / 2 - 1)
def Trie.sput{α:Type}:Nat→Trie α→Nat→Option α→Trie α
 |0,t,_,_=>t
 |f+1,.leaf,k,x=>if k=0 then .node x .leaf .leaf else if k % 2=1 then .node none (Trie.sput f .leaf (k / 2) x) .leaf else .node none .leaf (Trie.sput f .leaf (k / 2 - 1) x)
 |f+1,.node v l r,k,x=>if k=0 then .node x l r else if k % 2=1 then .node v (Trie.sput f l (k / 2) x) r else .node v l (Trie.sput f r (k / 2 - 1) x)
def Trie.get{α:Type}(f:Nat):Trie α→Nat→Option α :=
 Nat.rec (motive:=fun _=>Trie α→Nat→Option α) (fun _ _=>none)
  (fun _ ih t k=>Trie.rec (motive:=fun _=>Option α) none (fun v l r _ _=>Bool.rec (motive:=fun _=>Option α) (Bool.rec (motive:=fun _=>Option α) (ih r (Nat.sub (Nat.div k 2) 1)) (ih l (Nat.div k 2)) (Nat.beq (Nat.mod k 2) 1)) v (Nat.beq k 0)) t) f
def Trie.put{α:Type}(f:Nat):Trie α→Nat→Option α→Trie α :=
 Nat.rec (motive:=fun _=>Trie α→Nat→Option α→Trie α) (fun t _ _=>t)
  (fun _ ih t k x=>Trie.rec (motive:=fun _=>Trie α)
   (Bool.rec (motive:=fun _=>Trie α) (Bool.rec (motive:=fun _=>Trie α) (.node none .leaf (ih .leaf (Nat.sub (Nat.div k 2) 1) x)) (.node none (ih .leaf (Nat.div k 2) x) .leaf) (Nat.beq (Nat.mod k 2) 1)) (.node x .leaf .leaf) (Nat.beq k 0))
   (fun v l r _ _=>Bool.rec (motive:=fun _=>Trie α) (Bool.rec (motive:=fun _=>Trie α) (.node v l (ih r (Nat.sub (Nat.div k 2) 1) x)) (.node v (ih l (Nat.div k 2) x) r) (Nat.beq (Nat.mod k 2) 1)) (.node x l r) (Nat.beq k 0)) t) f
theorem NcX{α:Type}(a b:α)(m n:Nat):Bool.rec (motive:=fun _=>α) a b (Nat.beq m n)=if m=n then b else a:=by
 by_cases h:m=n
 ·rw[if_pos h,h,Nat.beq_refl n]
 ·rw[if_neg h];cases e:Nat.beq m n with
  |true=>exact absurd (Nat.eq_of_beq_eq_true e) h
  |false=>rfl
theorem Trie.get_eq{α:Type}:∀ (f:Nat) (t:Trie α) (k:Nat),Trie.get f t k=Trie.sget f t k
 |0,_,_=>rfl
 |_+1,.leaf,_=>rfl
 |f+1,.node v l r,k=>by
   show Bool.rec (motive:=fun _=>Option α) (Bool.rec (motive:=fun _=>Option α) (Trie.get f r (Nat.sub (Nat.div k 2) 1)) (Trie.get f l (Nat.div k 2)) (Nat.beq (Nat.mod k 2) 1)) v (Nat.beq k 0)=_;rw[NcX,NcX,Trie.get_eq f,Trie.get_eq f];rfl
theorem Trie.put_eq{α:Type}:∀ (f:Nat) (t:Trie α) (k:Nat) (x:Option α),Trie.put f t k x=Trie.sput f t k x
 |0,_,_,_=>rfl
 |f+1,.leaf,k,x=>by
   show Bool.rec (motive:=fun _=>Trie α) (Bool.rec (motive:=fun _=>Trie α) (.node none .leaf (Trie.put f .leaf (Nat.sub (Nat.div k 2) 1) x)) (.node none (Trie.put f .leaf (Nat.div k 2) x) .leaf) (Nat.beq (Nat.mod k 2) 1)) (.node x .leaf .leaf) (Nat.beq k 0)=_;rw[NcX,NcX,Trie.put_eq f,Trie.put_eq f];rfl
 |f+1,.node v l r,k,x=>by
   show Bool.rec (motive:=fun _=>Trie α) (Bool.rec (motive:=fun _=>Trie α) (.node v l (Trie.put f r (Nat.sub (Nat.div k 2) 1) x)) (.node v (Trie.put f l (Nat.div k 2) x) r) (Nat.beq (Nat.mod k 2) 1)) (.node x l r) (Nat.beq k 0)=_;rw[NcX,NcX,Trie.put_eq f,Trie.put_eq f];rfl
inductive PObj where
 |cells (cs:List PV) (frz:Bool)
 |map (es:List (PV×PV))
 |iter (l:List UInt8) (pos:Nat)
 |bld (T:TypeId)
 |bytes (T:TypeId) (l:List UInt8)
 deriving Inhabited,Repr
def PObj.opn:PObj→Bool
 |.cells _ z=>!z
 |.bld _|.bytes ..=>true
 |_=>false
def PObj.same:Option PObj→Option PObj→Bool
 |none,none=>true
 |some (.cells x a),some (.cells y c)=>a==c&&x.length==y.length&&(x.zip y).all fun p=>PV.same NbK p.1 p.2
 |some (.iter x p),some (.iter y q)=>x==y&&p==q
 |some (.bld x),some (.bld y)=>decide (x=y)
 |some (.bytes x l),some (.bytes y m)=>decide (x=y)&&l==m
 |some (.map x),some (.map y)=>x.length==y.length&&(x.zip y).all fun p=>PV.same NbK p.1.1 p.2.1&&PV.same NbK p.1.2 p.2.2
 |_,_=>false
structure St where
 sto:Trie PObj
 cnt:Nat
 deriving Inhabited,Repr
def St.get(st:St)(k:Nat):Option PObj:=st.sto.get (Nat.add k 1) k
def St.put(st:St)(k:Nat)(o:Option PObj):St:={ st with sto:=st.sto.put (Nat.add k 1) k o }
abbrev Env:=Trie PV
def Env.get(e:Env)(t:Nat):PV:=(Trie.get (Nat.add t 1) e t).getD .und
def Env.put(e:Env)(t:Nat)(v:PV):Env:=Trie.put (Nat.add t 1) e t (some v)
inductive Arg where
 |t (t:Nat)
 |l (t:Nat)
 |c (v:PV)
 deriving Inhabited,Repr
inductive Cv where
 |int (k:IntKind)
 |same
 |s2b
 |b2s
 |up
 |down (l:List TypeId)
 deriving Inhabited,Repr
inductive MOp where
 |mv (x:Arg)
 |pick (c a b:Arg)
 |alloc (zero:List PV)
 |box (x:Arg)
 |build (zero:List PV) (parts:List (Nat×Nat×Arg))
 |bslice (len sz:Nat) (zero:List PV) (parts:List (Nat×Nat×Arg))
 |load (agg:Bool) (n:Nat) (a:Arg)
 |store (n:Nat) (a x:Arg)
 |nilck (x:Arg)
 |bin (op:BinOp) (x y:Arg)
 |eqb (neg:Bool) (x y:Arg)
 |eqn (kd:Nat) (neg:Bool) (x y:Arg)
 |eqs (neg:Bool) (fs:List (Nat×Nat)) (x y:Arg)
 |mkmap
 |lookup (ck:Nat) (ok:Bool) (zero:PV) (m k:Arg)
 |mapup (ck:Nat) (m k v:Arg)
 |mlen (m:Arg)
 |srange (x:Arg)
 |snext (x:Arg)
 |mark (x:Arg)
 |bad
 |un (op:UnOp) (x:Arg)
 |conv (c:Cv) (x:Arg)
 |mkfn (f:FuncId) (cap:List Arg)
 |mkbfn (f:FuncId) (pre:List Arg)
 |mkslice (sz bytes:Nat) (zero:List PV) (l:Arg)
 |slice (arr:Option Nat) (sz:Nat) (x:Arg) (lo hi:Option Arg)
 |substr (x:Arg) (lo hi:Option Arg)
 |fieldAddr (off:Nat) (x:Arg)
 |field (agg:Bool) (off n:Nat) (x:Arg)
 |indexAddr (arr:Option Nat) (sz:Nat) (x i:Arg)
 |index (len:Nat) (agg:Bool) (n:Nat) (x i:Arg)
 |sindex (x i:Arg)
 |extract (i:Nat) (x:Arg)
 |call (f:FuncId) (own:Bool) (args:List Arg)
 |calle (f:FuncId) (args:List Arg)
 |callq (f:FuncId) (args:List Arg)
 |callv (f:Arg) (args:List Arg)
 |append (sz bytes:Nat) (s x:Arg)
 |appstr (s x:Arg)
 |len (x:Arg)
 |slen (x:Arg)
 |alen (n:Nat)
 |copy (sz:Nat) (d s:Arg)
 |min (x:Arg) (ys:List Arg)
 |max (x:Arg) (ys:List Arg)
 |allocb (T:TypeId)
 |eqp (neg:Bool) (x y:Arg)
 |appb (T:TypeId) (s x:Arg)
 |appbs (T:TypeId) (s x:Arg)
 |sdata (x:Arg)
 |ustr (T:TypeId) (p n:Arg)
 |boxb (T:TypeId) (x:Arg)
 |capb (x:Arg)
 |mknz (T:TypeId) (x:Arg)
 |copyb (d s:Arg)
 deriving Inhabited,Repr
inductive MDst where
 |no
 |t (t:Nat)
 |l (t:Nat)
 deriving Inhabited,Repr
structure MOper where
 dst:MDst
 op:MOp
 guard:Option (Arg×Bool)
 deriving Inhabited,Repr
inductive MCode where
 |skip
 |region (ops:List MOper)
 |chain (ops:List MOper) (masks:List Nat) (sw:Option (Nat×Nat))
 |seq (a b:MCode)
 |cond (c:Arg) (a b:MCode)
 |block (id:Nat) (c:MCode)
 |loop (c:MCode)
 |exit (id:Nat)
 |scope (c:MCode)
 |ret
 deriving Inhabited,Repr
inductive MRes where
 |t (t:Nat)
 |cell (t:Nat) (agg:Bool) (n:Nat)
 deriving Inhabited,Repr
structure MFunc where
 body:MCode
 res:List MRes
 deriving Inhabited,Repr
def cut?(cs:List PV)(off n:Nat):Option (List PV):=if off+n≤cs.length then some ((cs.drop off).take n)else none
def PV.cells:PV→List PV
 |.agg cs=>cs
 |v=>[v]
def PV.one:PV→Bool
 |.agg _|.tup _|.und|.osl ..|.fptr _=>false
 |_=>true
def Naa(agg:Bool)(cs:List PV):Option PV:=if agg then some (.agg cs)else match cs with|[v]=>some v|_=>none
def bytesOf?:List PV→Option (List UInt8)
 |[]=>some []
 |.i .u8 n::r=>if 0≤n∧n<256 then(bytesOf? r).map (UInt8.ofNat n.toNat::·)else none
 |_=>none
def Nbs(l:List UInt8):List PV:=l.map fun x=>.i .u8 x.toNat
def Nbi:List PV→List (Nat×Nat×PV)→Option (List PV)
 |cs,[]=>some cs
 |cs,(off,n,v)::r=>if v.cells.length=n∧off+n≤cs.length∧v.cells.all PV.one then Nbi (cs.take off++v.cells++cs.drop (off+n)) r else none
def mapO{α β:Type}(f:α→Option β):List α→Option (List β)
 |[]=>some []
 |a::r=>match f a,mapO f r with
   |some x,some y=>some (x::y)
   |_,_=>none
def Nee?:PV→Option (Nat×Bool)
 |.nsl=>some (0,true)
 |.rsl ..=>some (0,false)
 |.fsl n _=>if n=0 then none else some (0,false)
 |.nptr=>some (1,true)
 |.ptr ..|.fptr _=>some (1,false)
 |.nfn=>some (2,true)
 |.fn ..=>some (2,false)
 |.bfn ..=>some (2,false)
 |.nmp=>some (3,true)
 |.mp _=>some (3,false)
 |_=>none
def Nhu(op:BinOp)(k:IntKind)(a b:Int):Option PV :=
 let x:=BitVec.ofInt k.bits a
 let y:=BitVec.ofInt k.bits b
 match op with
 |.and=>some (.i k (k.wrap (x &&& y).toNat))
 |.or=>some (.i k (k.wrap (x ||| y).toNat))
 |.xor=>some (.i k (k.wrap (x ^^^ y).toNat))
 |.andNot=>some (.i k (k.wrap (x &&& ~~~y).toNat))
 |_=>none
def Nae(op:BinOp):PV→PV→Option PV
 |.i k a,.i l c =>
   match op with
   |.shl=>if c<0 then none else some (.i k (k.wrap (a * 2 ^ (min c.toNat k.bits))))
   |.shr=>if c<0 then none else some (.i k (a.fdiv (2 ^ (min c.toNat k.bits))))
   |_=>if k≠l then none else
     match op with
     |.add=>some (.i k (k.wrap (a+c)))
     |.sub=>some (.i k (k.wrap (a - c)))
     |.mul=>some (.i k (k.wrap (a * c)))
     |.quo=>if c=0 then none else some (.i k (k.wrap (a.tdiv c)))
     |.rem=>if c=0 then none else some (.i k (a.tmod c))
     |.eql=>some (.b (a==c))
     |.neq=>some (.b (a != c))
     |.lss=>some (.b (decide (a<c)))
     |.leq=>some (.b (decide (a≤c)))
     |.gtr=>some (.b (decide (a > c)))
     |.geq=>some (.b (decide (a≥c)))
     |op=>Nhu op k a c
 |.s a,.s c =>
   match op with
   |.add=>if a.length+c.length<9223372036854775807 then some (.s (a++c))else none
   |.eql=>some (.b (a==c))
   |.neq=>some (.b (!(a==c)))
   |.lss=>some (.b (Op.bytesLess a c))
   |.leq=>some (.b (Op.bytesLess a c||a==c))
   |.gtr=>some (.b (!(Op.bytesLess a c||a==c)))
   |.geq=>some (.b (!Op.bytesLess a c))
   |_=>none
 |_,_=>none
def NjN(neg:Bool):PV→PV→Option PV
 |.b x,.b y=>some (.b ((x==y) != neg))
 |_,_=>none
def NoZ(kd:Nat)(neg:Bool)(x y:PV):Option PV :=
 match Nee? x,Nee? y with
 |some (k,a),some (l,c)=>if k=kd∧l=kd∧(a=true∨c=true)then some (.b ((a&&c) != neg))else none
 |_,_=>none
def eq1(ck:Nat):PV→PV→Option Bool
 |.i k a,.i l c=>if ck=0∧k=l then some (a==c)else none
 |.b x,.b y=>if ck=1 then some (x==y)else none
 |.s a,.s c=>if ck=2 then some (a==c)else none
 |.agg [.i k a,.i l b],.agg [.i k' c,.i l' d]=>if ck=3∧k=k'∧l=l' then some (a==c&&b==d)else none
 |_,_=>none
def Nhg:List (Nat×Nat)→List PV→List PV→Option Bool
 |[],_,_=>some true
 |(o,ck)::r,xs,ys=>match xs[o]?,ys[o]? with
   |some p,some q=>match eq1 ck p q with
     |some true=>Nhg r xs ys
     |some false=>some false
     |none=>none
   |_,_=>none
def Nbz(ck:Nat)(k:PV):List (PV×PV)→Option (Option PV)
 |[]=>if ck=3 then(eq1 3 k k).map fun _=>none else some none
 |(k',v)::r=>match eq1 ck k k' with
   |some true=>some (some v)
   |some false=>Nbz ck k r
   |none=>none
def Nbu(ck:Nat)(k v:PV):List (PV×PV)→Option (List (PV×PV))
 |[]=>if ck=3 then(eq1 3 k k).map fun _=>[(k,v)]else some [(k,v)]
 |(k',v')::r=>match eq1 ck k k' with
   |some true=>some ((k,v)::r)
   |some false=>(Nbu ck k v r).map ((k',v')::·)
   |none=>none
def unP(op:UnOp):PV→Option PV
 |.i k n=>match op with
   |.neg=>some (.i k (k.wrap (0 - n)))
   |.xor=>Nhu .xor k (if k.signed then -1 else k.max) n
   |_=>none
 |.b x=>match op with
   |.not=>some (.b (!x))
   |_=>none
 |_=>none
def cellsOf(st:St)(sz:Nat):PV→Option (Nat×List PV)
 |.nsl=>some (0,[])
 |.fsl n cs=>if cs.length=n * sz then some (n,cs)else none
 |.rsl k z off n=>if z≠sz then none else match st.get k with
   |some (.cells cs _)=>(cut? cs off (n * sz)).map (n,·)
   |_=>none
 |_=>none
def Na4(x:Option PV)(d most:Nat):Option Nat :=
 match x with
 |none=>some d
 |some (.i _ n)=>if 0≤n∧n≤most then some n.toNat else none
 |_=>none
def deep(st:St):Nat→PV→Option PV
 |0,_=>none
 |f+1,v=>match v with
   |.rsl k sz off n=>match st.get k with
     |some (.cells cs _)=>match cut? cs off (n * sz)with
       |some l=>(mapO (deep st f) l).map (.fsl n)
       |none=>none
     |_=>none
   |.agg cs=>(mapO (deep st f) cs).map .agg
   |.tup cs=>(mapO (deep st f) cs).map .tup
   |.ptr ..|.fptr _|.fn ..|.bfn ..|.mp _|.osl ..=>none
   |v=>some v
def PV.closed:Nat→PV→Bool
 |0,_=>false
 |f+1,v=>match v with
   |.fsl n cs=>n==0&&cs.isEmpty
   |.fptr _|.rsl ..|.ptr ..|.fn ..|.bfn ..|.mp _=>false
   |.osl _ _ cs=>cs.all (PV.closed f)
   |.agg cs=>cs.all (PV.closed f)
   |.tup cs=>cs.all (PV.closed f)
   |_=>true
def keysP(st:St):Nat→PV→List Nat
 |0,_=>[]
 |f+1,v=>match v with
   |.rsl k _ _ _=>k::(match st.get k with|some (.cells cs _)=>cs.flatMap (keysP st f)|_=>[])
   |.agg cs=>cs.flatMap (keysP st f)
   |.tup cs=>cs.flatMap (keysP st f)
   |_=>[]
def Ncy(st:St)(k:Nat):St:=match st.get k with
 |some (.cells cs _)=>st.put k (some (.cells cs true))
 |_=>st
def NaI(st:St):List Nat→St
 |[]=>st
 |k::r=>NaI (Ncy st k) r
def Ndt:Nat:=12
end
noncomputable section
abbrev CallE:=FuncId→List PV→St→Option (PV×St)
def NaC:List PV→List PV×St
 |.osl sz n cs::r=>(.rsl 0 sz 0 n::r,({ sto:=.leaf,cnt:=1 }:St).put 0 (some (.cells cs false)))
 |l=>(l,{ sto:=.leaf,cnt:=1 })
def Nfi?(st:St):PV→Option (Nat×Nat×Nat×List PV)
 |.rsl k sz off n=>match st.get k with
   |some (.cells cs false)=>if off=0∧cs.length=n * sz∧0<sz then some (k,sz,n,cs)else none
   |_=>none
 |_=>none
def NbF(st:St):List PV→Option (Nat×Nat×Nat×Nat×List PV)
 |[]=>none
 |v::r=>match Nfi? st v with
   |some x=>some (0,x)
   |none=>(NbF st r).map fun y=>(y.1+1,y.2)
def keysL(st:St)(l:List PV):List Nat:=l.flatMap (keysP st Ndt)
def Nbk(st:St)(l:List PV):Option (List PV):=mapO (deep st Ndt) l
def NaU(st:St)(v:PV):Option PV :=
 match v with
 |.tup vs=>match NbF st vs with
   |some (i,k,sz,n,cs) =>
     if(keysL st cs++keysL st (vs.set i .und)).contains k then none else
     match Nbk st cs,Nbk st (vs.set i .und)with
     |some l,some us=>some (.tup (us.set i (.osl sz n l)))
     |_,_=>none
   |none=>(Nbk st vs).map .tup
 |v=>match Nfi? st v with
   |some (k,sz,n,cs)=>if(keysL st cs).contains k then none else(Nbk st cs).map (.osl sz n)
   |none=>deep st Ndt v
def PV.isO:PV→Option (Nat×Nat×List PV)
 |.osl sz n cs=>some (sz,n,cs)
 |_=>none
def NeR:List PV→Option (Nat×Nat×Nat×List PV)
 |[]=>none
 |v::r=>match v.isO with
   |some x=>some (0,x)
   |none=>(NeR r).map fun y=>(y.1+1,y.2)
def NaE(st:St)(key:Nat)(v:PV):Option (PV×St) :=
 match v with
 |.osl sz n cs=>some (.rsl key sz 0 n,st.put key (some (.cells cs false)))
 |.tup vs=>match NeR vs with
   |some (i,sz,n,cs)=>if(vs.set i .und).all (fun v=>v.isO.isNone)then some (.tup (vs.set i (.rsl key sz 0 n)),st.put key (some (.cells cs false)))else none
   |none=>some (.tup vs,st)
 |v=>some (v,st)
def Ndr(callE:CallE)(f:FuncId)(args:List PV):Option PV :=
 match callE f (NaC args).1 (NaC args).2 with
 |some (r,st')=>NaU st' r
 |none=>none
def PV.closedB(v:PV):Bool:=PV.closed Ndt v
structure Cfg where
 fn:FuncId→Option MFunc
 ext:FuncId→Option (List PV→Option PV)
def Nak(cfg:Cfg)(callE:CallE)(f:FuncId)(args:List PV):Option PV :=
 match cfg.ext f with
 |some g=>g args
 |none=>Ndr callE f args
def Nam(g:List PV→Option PV)(own:Bool)(st:St)(key:Nat)(ps:List PV):Option (PV×St) :=
 match own,ps with
 |true,.rsl k sz off n::rest=>match st.get k with
   |some (.cells cs false) =>
     if off=0∧cs.length=n * sz∧0<sz∧(keysL st cs++keysL st rest).contains k=false then
      match Nbk st cs,Nbk st rest with
      |some l,some l2=>match g (.osl sz n l::l2)with
        |some r=>NaE (if r.closedB then st.put k none else NaI (st.put k none) (keysL st cs++keysL st rest)) key r
        |none=>none
      |_,_=>none
     else none
   |_=>none
 |_,vs=>match Nbk st vs with
   |some l=>match g l with
     |some r=>NaE (if r.closedB then st else NaI st (keysL st vs)) key r
     |none=>none
   |none=>none
def maxBytes:Nat:=140737488355328
def NaX(st:St)(n:Nat):PV→Option (List PV)
 |.ptr k off=>match st.get k with
   |some (.cells cs _)=>cut? cs off n
   |some (.bld _)=>cut? [.nptr,.nsl] off n
   |_=>none
 |.fptr cs=>cut? cs 0 n
 |_=>none
def Na1(st:St)(n:Nat)(a v:PV):Option St :=
 match a with
 |.ptr k off=>match st.get k with
   |some (.cells cs false)=>if v.cells.length=n∧off+n≤cs.length∧v.cells.all PV.one then some (st.put k (some (.cells (cs.take off++v.cells++cs.drop (off+n)) false)))else none
   |some (.bld _)=>match v with
     |.ptr j 0=>if j=k∧off=0∧n=1 then some (st.put k (some (.cells [.ptr k 0,.nsl] false)))else none
     |_=>none
   |_=>none
 |_=>none
def Nec(st:St)(key:Nat)(T:TypeId)(l:List UInt8):PV→Option (PV×St)
 |.nsl=>if l.length=0 then some (.nsl,st)else if l.length≤maxBytes then some (.rsl key 1 0 l.length,st.put key (some (.bytes T l)))else none
 |.rsl k z off n=>match st.get k with
   |some (.bytes T' m)=>if T'=T∧z=1∧off=0∧n=m.length∧n+l.length≤maxBytes then some (.rsl key 1 0 (n+l.length),(st.put k none).put key (some (.bytes T (m++l))))else none
   |_=>none
 |_=>none
def NdL(sz:Nat)(pl ph:Option PV):PV→Option PV
 |.nsl=>match Na4 ph 0 0,Na4 pl 0 0 with
   |some _,some _=>some .nsl
   |_,_=>none
 |.fsl n cs=>match Na4 ph n n with
   |some h=>match Na4 pl 0 h with
     |some l=>if cs.length=n * sz then some (.fsl (h - l) ((cs.drop (l * sz)).take ((h - l) * sz)))else none
     |none=>none
   |none=>none
 |.rsl k z off n=>match Na4 ph n n with
   |some h=>match Na4 pl 0 h with
     |some l=>if z=sz∧(l<n∨l=0)then some (.rsl k sz (off+l * sz) (h - l))else
      if z=sz then some (.fsl 0 [])else none
     |none=>none
   |none=>none
 |_=>none
def Nbj(st:St)(key sz bytes m:Nat)(news:List PV):PV→Option (PV×St)
 |.nsl=>if m=0 then some (.nsl,st)else if m * bytes≤maxBytes then some (.rsl key sz 0 m,st.put key (some (.cells news false)))else none
 |.rsl k z off n=>match st.get k with
   |some (.cells cs false)=>if z=sz∧off=0∧cs.length=n * sz∧(n+m) * bytes≤maxBytes then
    some (.rsl key sz 0 (n+m),(st.put k none).put key (some (.cells (cs++news) false)))else none
   |_=>none
 |_=>none
def NdA(st:St)(sz m:Nat)(cs:List PV):PV→Option (PV×St)
 |.rsl k z off n=>match st.get k with
   |some (.cells l false)=>if z=sz∧off+n * sz≤l.length∧cs.all PV.one then
    some (.i .i64 (Nat.min m n),st.put k (some (.cells (l.take off++cs.take (Nat.min m n * sz)++l.drop (off+Nat.min m n * sz)) false)))else none
   |_=>none
 |.nsl=>some (.i .i64 0,st)
 |.fsl 0 _=>some (.i .i64 0,st)
 |_=>none
def Nd7:PV→Option PV
 |.nsl=>some (.i .i64 0)
 |.fsl n _=>some (.i .i64 n)
 |.rsl _ _ _ n=>some (.i .i64 n)
 |_=>none
def Nk5:PV→List PV→Option PV
 |v,[]=>some v
 |.i k p,.i l q::r=>if k=l then Nk5 (.i k (if q<p then q else p)) r else none
 |_,_=>none
def NlY:PV→List PV→Option PV
 |v,[]=>some v
 |.i k p,.i l q::r=>if k=l then NlY (.i k (if q > p then q else p)) r else none
 |_,_=>none
def Neq:PV→Bool
 |.agg [.nptr,.nsl]=>true
 |_=>false
def Nap(cfg:Cfg)(callE:CallE)(ρ:Arg→PV)(st:St)(key:Nat)(op:MOp):Option (PV×St) :=
 match op with
 |.mv x=>some (ρ x,st)
 |.pick c a b=>match ρ c with
   |.b x=>some (if x then ρ a else ρ b,st)
   |_=>none
 |.alloc zero=>some (.ptr key 0,st.put key (some (.cells zero false)))
 |.box x=>if(ρ x).cells.all PV.one then some (.ptr key 0,st.put key (some (.cells (ρ x).cells false)))else none
 |.build zero parts=>(Nbi zero (parts.map fun p=>(p.1,p.2.1,ρ p.2.2))).map fun cs=>(.agg cs,st)
 |.bslice len sz zero parts=>match Nbi zero (parts.map fun p=>(p.1,p.2.1,ρ p.2.2))with
   |some cs=>if 0<sz∧cs.length=len * sz then some (.rsl key sz 0 len,st.put key (some (.cells cs false)))else none
   |none=>none
 |.load agg n a=>match NaX st n (ρ a)with
   |some cs=>(Naa agg cs).map (·,st)
   |none=>none
 |.store n a x=>(Na1 st n (ρ a) (ρ x)).map (.tup [],·)
 |.nilck x=>match ρ x with
   |.ptr k o=>some (.ptr k o,st)
   |.fptr cs=>some (.fptr cs,st)
   |_=>none
 |.bin op x y=>(Nae op (ρ x) (ρ y)).map (·,st)
 |.eqb neg x y=>(NjN neg (ρ x) (ρ y)).map (·,st)
 |.eqn kd neg x y=>(NoZ kd neg (ρ x) (ρ y)).map (·,st)
 |.eqs neg fs x y=>match ρ x,ρ y with
   |.agg ps,.agg qs=>(Nhg fs ps qs).map fun b=>(.b (b != neg),st)
   |_,_=>none
 |.mkmap=>some (.mp key,st.put key (some (.map [])))
 |.lookup ck ok zero m k=>match ρ m with
   |.nmp=>if ck=3 then none else some (if ok then .tup [zero,.b false]else zero,st)
   |.mp j=>match st.get j with
     |some (.map es)=>(Nbz ck (ρ k) es).map fun r=>(if ok then .tup [r.getD zero,.b r.isSome]else r.getD zero,st)
     |_=>none
   |_=>none
 |.mapup ck m k v=>match ρ m with
   |.mp j=>match st.get j with
     |some (.map es)=>(Nbu ck (ρ k) (ρ v) es).map fun es'=>(.tup [],st.put j (some (.map es')))
     |_=>none
   |_=>none
 |.mlen m=>match ρ m with
   |.nmp=>some (.i .i64 0,st)
   |.mp j=>match st.get j with
     |some (.map es)=>some (.i .i64 es.length,st)
     |_=>none
   |_=>none
 |.srange x=>match ρ x with
   |.s l=>some (.ptr key 0,st.put key (some (.iter l 0)))
   |_=>none
 |.snext x=>match ρ x with
   |.ptr k 0=>match st.get k with
     |some (.iter l p)=>if p<l.length then some (.tup [.b true,.i .i64 p,.i .i32 (Utf8.decode ⟨l.toArray⟩ p).1],st.put k (some (.iter l (p+(Utf8.decode ⟨l.toArray⟩ p).2))))else some (.tup [.b false],st)
     |_=>none
   |_=>none
 |.mark x=>match ρ x with
   |.rsl k z off n=>match st.get k with
     |some (.cells _ _)=>some (.rsl k z off n,st)
     |_=>none
   |_=>none
 |.bad=>none
 |.un op x=>(unP op (ρ x)).map (·,st)
 |.conv c x=>match c,ρ x with
   |.int k,.i _ n=>some (.i k (k.wrap n),st)
   |.same,.s l=>some (.s l,st)
   |.s2b,.s l=>if l.length≤maxBytes then some (.rsl key 1 0 l.length,st.put key (some (.cells (Nbs l) false)))else none
   |.b2s,v=>match cellsOf st 1 v with
     |some (_,cs)=>(bytesOf? cs).map fun l=>(.s l,st)
     |none=>none
   |.up,.ptr k 0=>match st.get k with
     |some (.bld _)=>some (.ptr k 0,st)
     |_=>none
   |.down Ts,.ptr k 0=>match st.get k with
     |some (.bld T)=>if T∈Ts then some (.ptr k 0,st)else none
     |_=>none
   |_,_=>none
 |.mkfn f cap=>some (.fn f (cap.map ρ),st)
 |.mkbfn f pre=>some (.bfn f (pre.map ρ),st)
 |.mkslice sz bytes zero l=>match ρ l with
   |.i _ n=>if 0≤n∧n.toNat * bytes≤maxBytes∧0<bytes∧zero.length=sz∧0<sz then some (.rsl key sz 0 n.toNat,st.put key (some (.cells (List.flatten (List.replicate n.toNat zero)) false)))else none
   |_=>none
 |.slice (some N) sz x lo hi=>match ρ x with
   |.ptr k off=>match Na4 (hi.map ρ) N N,st.get k with
     |some h,some (.cells cs _)=>match Na4 (lo.map ρ) 0 h with
       |some l=>if l<N∧0<sz∧off+N * sz≤cs.length∧N<4294967296 then some (.rsl k sz (off+l * sz) (h - l),st)else none
       |none=>none
     |_,_=>none
   |_=>none
 |.slice none sz x lo hi=>(NdL sz (lo.map ρ) (hi.map ρ) (ρ x)).map (·,st)
 |.substr x lo hi=>match ρ x with
   |.s l=>match Na4 (hi.map ρ) l.length l.length with
     |some h=>match Na4 (lo.map ρ) 0 h with
       |some k=>some (.s ((l.drop k).take (h - k)),st)
       |none=>none
     |none=>none
   |_=>none
 |.fieldAddr off x=>match ρ x with
   |.ptr k o=>some (.ptr k (o+off),st)
   |.fptr cs=>some (.fptr (cs.drop off),st)
   |_=>none
 |.field agg off n x=>match ρ x with
   |.agg cs=>match cut? cs off n with
     |some l=>(Naa agg l).map (·,st)
     |none=>none
   |_=>none
 |.indexAddr (some N) sz x i=>match ρ x,ρ i with
   |.ptr k o,.i _ j=>if 0≤j∧j<N then some (.ptr k (o+j.toNat * sz),st)else none
   |.fptr cs,.i _ j=>if 0≤j∧j<N then some (.fptr (cs.drop (j.toNat * sz)),st)else none
   |_,_=>none
 |.indexAddr none sz x i=>match ρ x,ρ i with
   |.rsl k z off n,.i _ j=>if z=sz∧0≤j∧j<n then some (.ptr k (off+j.toNat * sz),st)else none
   |.fsl n cs,.i _ j=>if cs.length=n * sz∧0<sz∧0≤j∧j<n then some (.fptr (cs.drop (j.toNat * sz)),st)else none
   |_,_=>none
 |.index len agg n x i=>match ρ x,ρ i with
   |.agg cs,.i _ j=>if 0≤j∧j<len then match cut? cs (j.toNat * n) n with
    |some l=>(Naa agg l).map (·,st)
    |none=>none
     else none
   |_,_=>none
 |.sindex x i=>match ρ x,ρ i with
   |.s l,.i _ j=>if 0≤j then(l[j.toNat]?).map fun c=>(.i .u8 c.toNat,st)else none
   |_,_=>none
 |.extract i x=>match ρ x with
   |.tup vs=>(vs[i]?).map (·,st)
   |_=>none
 |.call f own args=>Nam (Nak cfg callE f) own st key (args.map ρ)
 |.callq f args=>match Nbk st (args.map ρ)with
   |some l=>match Nak cfg callE f l with
     |some r=>if r.closedB then NaE st key r else none
     |none=>none
   |none=>none
 |.calle f args=>match cfg.ext f with
   |some _=>none
   |none=>callE f (args.map ρ) st
 |.callv f args=>match ρ f with
   |.fn g cap=>match cfg.ext g with
     |some _=>none
     |none=>callE g (args.map ρ++cap) st
   |.bfn g pre=>match cfg.ext g with
     |some _=>none
     |none=>callE g (pre++args.map ρ) st
   |_=>none
 |.append sz bytes s x=>match cellsOf st sz (ρ x)with
   |some (m,news)=>if 0<sz∧0<bytes∧news.all PV.one then Nbj st key sz bytes m news (ρ s)else none
   |none=>none
 |.appstr s x=>match ρ x with
   |.s l=>Nbj st key 1 1 l.length (Nbs l) (ρ s)
   |_=>none
 |.len x=>(Nd7 (ρ x)).map (·,st)
 |.slen x=>match ρ x with
   |.s l=>some (.i .i64 l.length,st)
   |_=>none
 |.alen n=>some (.i .i64 n,st)
 |.copy sz d s=>match cellsOf st sz (ρ s)with
   |some (m,cs)=>NdA st sz m cs (ρ d)
   |none=>none
 |.min x ys=>(Nk5 (ρ x) (ys.map ρ)).map (·,st)
 |.max x ys=>(NlY (ρ x) (ys.map ρ)).map (·,st)
 |.allocb T=>some (.ptr key 0,st.put key (some (.bld T)))
 |.capb x=>match ρ x with
   |.nsl=>some (.i .i64 0,st)
   |_=>none
 |.mknz T x=>match ρ x with
   |.i .i64 n=>if 0≤n∧n.toNat≤maxBytes then some (.rsl key 1 0 n.toNat,st.put key (some (.bytes T [])))else none
   |_=>none
 |.copyb d s=>match ρ d,ρ s with
   |.rsl ..,.nsl=>some (.i .i64 0,st)
   |_,_=>none
 |.boxb T x=>if Neq (ρ x)then some (.ptr key 0,st.put key (some (.bld T)))else none
 |.eqp neg x y=>match ρ x,ρ y with
   |.ptr k o,.ptr l p=>if k=l∧o=p then some (.b (!neg),st)else none
   |_,_=>none
 |.appb T s x=>match cellsOf st 1 (ρ x)with
   |some (_,cs)=>match bytesOf? cs with
     |some l=>Nec st key T l (ρ s)
     |none=>none
   |none=>none
 |.appbs T s x=>match ρ x with
   |.s l=>Nec st key T l (ρ s)
   |_=>none
 |.sdata x=>match ρ x with
   |.nsl=>some (.nptr,st)
   |.rsl k 1 0 (_+1)=>some (.ptr k 0,st)
   |_=>none
 |.ustr T p n=>match ρ p,ρ n with
   |.nptr,.i .i64 m=>if m=0 then some (.s [],st)else none
   |.ptr k 0,.i .i64 m=>match st.get k with
     |some (.bytes T' l)=>if T'=T∧m=l.length∧0<l.length∧l.length≤maxBytes then some (.s l,st)else none
     |_=>none
   |_,_=>none
structure Loc where
 env:Env
 loc:Env
 st:St
def Loc.rd(c:Loc):Arg→PV
 |.t t=>c.env.get t
 |.l t=>c.loc.get t
 |.c v=>v
def Loc.wr(c:Loc)(d:MDst)(v:PV):Loc :=
 match d with
 |.no=>c
 |.t t=>{ c with env:=c.env.put t v }
 |.l t=>{ c with loc:=c.loc.put t v }
def NaA(c:Loc):Option (Arg×Bool)→Option Bool
 |none=>some true
 |some (x,want)=>match c.rd x with
   |.b y=>some (y==want)
   |.tup []=>some false
   |_=>none
def Na5(cfg:Cfg)(callE:CallE):List MOper→Nat→Loc→Option Loc
 |[],_,c=>some c
 |o::r,key,c=>match NaA c o.guard with
   |some true=>match Nap cfg callE c.rd c.st key o.op with
     |some (v,st)=>Na5 cfg callE r (key+8) ({ c with st:=st }.wr o.dst v)
     |none=>none
   |some false=>Na5 cfg callE r (key+8) (c.wr o.dst (.tup []))
   |none=>none
inductive MExit where
 |nrm
 |ex (id:Nat)
 |ret
 deriving Inhabited,Repr,DecidableEq
structure Now where
 env:Env
 st:St
def Nbw(cfg:Cfg)(callE:CallE)(ops:List MOper)(c:Now):Option Now :=
 (Na5 cfg callE ops c.st.cnt { env:=c.env,loc:=.leaf,st:={ c.st with cnt:=c.st.cnt+8 * ops.length } }).map fun x=>{ env:=x.env,st:=x.st }
def NaB:MOp→Bool
 |.store ..|.append ..|.appstr ..|.copy ..|.mark _|.mapup ..|.snext _|.call ..|.calle ..|.callv ..|.appb ..|.appbs ..|.ustr ..=>false
 |_=>true
def NaK(masks:List Nat)(i j:Nat):Bool:=(masks.getD i 0).testBit j
def NcP(cfg:Cfg)(callE:CallE):List MOper→Nat→Loc→Option (List (Loc×PV)×Loc)
 |[],_,c=>some ([],c)
 |o::r,key,c=>match NaA c o.guard with
   |some true=>match Nap cfg callE c.rd c.st key o.op with
     |some (v,st)=>(NcP cfg callE r (key+8) ({ c with st:=st }.wr o.dst v)).map fun x=>((c,v)::x.1,x.2)
     |none=>none
   |some false=>(NcP cfg callE r (key+8) (c.wr o.dst (.tup []))).map fun x=>((c,.tup [])::x.1,x.2)
   |none=>none
def stAt(tr:List (Loc×PV))(c':Loc)(i:Nat):St:=match tr[i]? with
 |some x=>x.1.st
 |none=>c'.st
def Nai(ml:List MOper)(i:Nat):Bool:=match ml[i]? with
 |some o=>NaB o.op
 |none=>true
def sigA(ml:List MOper)(tr:List (Loc×PV))(c':Loc)(key t:Nat):List Nat→St→St
 |[],st=>st
 |q::l,st=>if t≤q&&Nai ml q then match (stAt tr c' (q+1)).get (key+8 * q)with
     |some o=>sigA ml tr c' key t l (st.put (key+8 * q) (some o))
     |none=>sigA ml tr c' key t l st
   else sigA ml tr c' key t l st
def sig(ml:List MOper)(tr:List (Loc×PV))(c':Loc)(key t:Nat):St:=sigA ml tr c' key t (List.range ml.length) (stAt tr c' t)
def Nf5(ml:List MOper)(masks:List Nat)(q t:Nat):Bool:=(List.range ml.length).all fun j=>Nai ml j||((!NaK masks q j||decide (j<t))&&(!NaK masks j q||decide (t≤j)))
def NdM(ml:List MOper)(q t:Nat):Bool:=(List.range ml.length).all fun j=>Nai ml j||(decide (j<t)==decide (j<q))
def Ndy(cfg:Cfg)(callE:CallE)(ml:List MOper)(tr:List (Loc×PV))(c':Loc)(key q t:Nat):Bool :=
 (decide (t≤q)||PObj.same ((stAt tr c' t).get (key+8 * q)) ((stAt tr c' (q+1)).get (key+8 * q)))&&match ml[q]?,tr[q]? with
  |some o,some (c,r)=>match NaA c o.guard with
    |some true=>match Nap cfg callE c.rd ((sig ml tr c' key t).put (key+8 * q) none) (key+8 * q) o.op with
      |some (r',st')=>PV.same NbK r' r&&PObj.same (st'.get (key+8 * q)) ((stAt tr c' (q+1)).get (key+8 * q))
      |none=>false
    |_=>true
  |_,_=>false
def Nbv(cfg:Cfg)(callE:CallE)(ml:List MOper)(masks:List Nat)(tr:List (Loc×PV))(c':Loc)(key:Nat):Bool :=
 (List.range ml.length).all fun j=>if Nai ml j then
  (List.range (ml.length+1)).all fun t=>(decide (t<ml.length)&&Nai ml t)||NdM ml j t||!Nf5 ml masks j t||Ndy cfg callE ml tr c' key j t
  else(List.range ml.length).all fun m=>if j<m then((stAt tr c' (j+1)).get (key+8 * m)).isNone
   else if m<j&&Nai ml m then NaK masks j m||((stAt tr c' j).get (key+8 * m)).isNone else true
def NhW(ml:List MOper)(masks:List Nat):Bool :=
 (List.range ml.length).all fun j=>if Nai ml j then
  (List.range (ml.length+1)).all fun t=>(decide (t<ml.length)&&Nai ml t)||NdM ml j t||!Nf5 ml masks j t
  else(List.range ml.length).all fun m=>if j<m then true
   else if m<j&&Nai ml m then NaK masks j m else true
def storeAt(ml:List MOper)(i:Nat):Option (Nat×Arg×Arg):=match ml[i]? with
 |some { dst:=_,op:=.store n a x,guard:=none }=>some (n,a,x)
 |_=>none
def Ncc(ml:List MOper)(tr:List (Loc×PV))(i:Nat):Option Nat:=match storeAt ml i,tr[i]? with
 |some (_,a,_),some (c,_)=>match c.rd a with
   |.ptr k _=>some k
   |_=>none
 |_,_=>none
def NbE(ml:List MOper)(tr:List (Loc×PV))(c':Loc)(key i j:Nat):St:=match storeAt ml j,tr[j]? with
 |some (n,a,x),some (c,_)=>(Na1 (sig ml tr c' key i) n (c.rd a) (c.rd x)).getD (sig ml tr c' key i)
 |_,_=>sig ml tr c' key i
def Nrt(ml:List MOper)(masks:List Nat)(i q:Nat):Bool:=!NaK masks q i&&(List.range ml.length).all fun w=>Nai ml w||decide (w=i)||!NaK masks w q
def NmB(cfg:Cfg)(callE:CallE)(ml:List MOper)(tr:List (Loc×PV))(c':Loc)(key q:Nat)(st:St):Bool :=
 PObj.same (st.get (key+8 * q)) ((stAt tr c' (q+1)).get (key+8 * q))&&match ml[q]?,tr[q]? with
  |some o,some (c,r)=>match NaA c o.guard with
    |some true=>match Nap cfg callE c.rd (st.put (key+8 * q) none) (key+8 * q) o.op with
      |some (r',st')=>PV.same NbK r' r&&PObj.same (st'.get (key+8 * q)) ((stAt tr c' (q+1)).get (key+8 * q))
      |none=>false
    |_=>true
  |_,_=>false
def NcD(cfg:Cfg)(callE:CallE)(ml:List MOper)(masks:List Nat)(tr:List (Loc×PV))(c':Loc)(key:Nat):Option (Nat×Nat)→Bool
 |none=>true
 |some (i,j)=>match Ncc ml tr i,Ncc ml tr j with
   |some ki,some kj=>!decide (ki=kj)&&(List.range ml.length).all fun q=>!Nai ml q ||
    ((NaK masks j q||((sig ml tr c' key i).get (key+8 * q)).isNone)&&(NaK masks i q||((NbE ml tr c' key i j).get (key+8 * q)).isNone) &&
      (!Nrt ml masks i q||NmB cfg callE ml tr c' key q (NbE ml tr c' key i j)))
   |_,_=>false
def Ncx(cfg:Cfg)(callE:CallE)(ops:List MOper)(masks:List Nat)(sw:Option (Nat×Nat))(c:Now):Option Now :=
 match NcP cfg callE ops c.st.cnt { env:=c.env,loc:=.leaf,st:={ c.st with cnt:=c.st.cnt+8 * ops.length } } with
 |some (tr,c')=>if Nbv cfg callE ops masks tr c' c.st.cnt&&NcD cfg callE ops masks tr c' c.st.cnt sw then some { env:=c'.env,st:=c'.st } else none
 |none=>none
def Ncf(body:Now→Option (MExit×Now)):Nat→Now→Option (MExit×Now)
 |0,_=>none
 |f+1,c=>match body c with
   |some (.nrm,c')=>Ncf body f c'
   |some (e,c')=>some (e,c')
   |none=>none
def Nao(cfg:Cfg)(callE:CallE)(fuel:Nat):MCode→Now→Option (MExit×Now)
 |.skip,c=>some (.nrm,c)
 |.region ops,c=>(Nbw cfg callE ops c).map (.nrm,·)
 |.chain ops masks sw,c=>(Ncx cfg callE ops masks sw c).map (.nrm,·)
 |.seq a b,c=>match Nao cfg callE fuel a c with
   |some (.nrm,c')=>Nao cfg callE fuel b c'
   |r=>r
 |.cond x a b,c=>match ({ env:=c.env,loc:=.leaf,st:=c.st:Loc }).rd x with
   |.b y=>if y then Nao cfg callE fuel a c else Nao cfg callE fuel b c
   |_=>none
 |.block id a,c=>match Nao cfg callE fuel a c with
   |some (.ex j,c')=>if j=id then some (.nrm,c')else some (.ex j,c')
   |r=>r
 |.loop a,c=>match Ncf (Nao cfg callE fuel a) fuel c with
   |some (.nrm,_)=>none
   |r=>r
 |.exit id,c=>some (.ex id,c)
 |.scope a,c=>Nao cfg callE fuel a c
 |.ret,c=>some (.ret,c)
def Nej(c:Now):MRes→Option PV
 |.t t=>some (c.env.get t)
 |.cell t agg n=>match NaX c.st n (c.env.get t)with
   |some cs=>Naa agg cs
   |none=>none
def Naj:List PV→Nat→Env→Env
 |[],_,e=>e
 |v::r,t,e=>Naj r (t+1) (e.put t v)
def NdB(cfg:Cfg)(callE:CallE)(fuel:Nat)(m:MFunc)(args:List PV)(st:St):Option (PV×St) :=
 match Nao cfg callE fuel m.body { env:=Naj args 0 .leaf,st } with
 |some (.ex _,_)=>none
 |some (_,c)=>match mapO (Nej c) m.res with
   |some [v]=>some (v,c.st)
   |some vs=>some (.tup vs,c.st)
   |none=>none
 |none=>none
def Nay(cfg:Cfg):Nat→CallE
 |0=>fun _ _ _=>none
 |fuel+1=>fun f args st=>match cfg.fn f with
   |some m=>NdB cfg (Nay cfg fuel) (fuel+1) m args st
   |none=>none
def evP(cfg:Cfg)(fuel:Nat)(f:FuncId)(args:List PV):Option PV:=Nak cfg (Nay cfg fuel) f args
def constP:Value→Option PV
 |.bool x=>some (.b x)
 |.int k n=>some (.i k n)
 |.string s=>some (.s s.data.toList)
 |.pointer none=>some .nptr
 |.slice none 0 0=>some .nsl
 |.map none=>some .nmp
 |.nilFunc=>some .nfn
 |.nilIface=>some .und
 |.agg cs=>(mapO (fun v=>match v with
   |.bool x=>some (.b x)
   |.int k n=>some (.i k n)
   |.string s=>some (.s s.data.toList)
   |.pointer none=>some .nptr
   |.slice none 0 0=>some .nsl
   |.map none=>some .nmp
   |.nilFunc=>some .nfn
   |_=>none) cs.toList).map .agg
 |_=>none
section
variable (P:Program) (V:List Nat)
def cArg:Operand→Option Arg
 |.tmp t=>some (if V.contains t then .t t else .l t)
 |.const v=>(constP v).map .c
 |.global _=>none
 |.func f=>some (.c (.fn f []))
def cArgO:Option Operand→Option (Option Arg)
 |none=>some none
 |some x=>(cArg V x).map some
def Ncq(t:TypeId):Option Bool:=(P.underlying t).map fun
 |.struct _|.array _ _=>true
 |_=>false
def zeroT(t:TypeId):Option (List PV):=do
 let i ←P.info? t
 let z ←i.zero
 let p ←constP z
 if p.cells.length=i.size∧p.cells.all PV.one then some p.cells else none
def sizeT(t:TypeId):Option Nat:=(P.info? t).map (·.size)
def bytesT(t:TypeId):Option Nat:=(P.info? t).map (·.bytes)
def sliceT(t:TypeId):Option TypeId:=match P.underlying t with
 |some (.slice e)=>some e
 |_=>none
def kdT:TypeDesc→Option Nat
 |.slice _=>some 0
 |.pointer _=>some 1
 |.func ..=>some 2
 |.map ..=>some 3
 |_=>none
def ckT(t:TypeId):Option Nat:=match P.underlying t with
 |some (.int _)=>some 0
 |some .bool=>some 1
 |some .string=>some 2
 |_=>none
def eqsT(fs:List Field):Option (List (Nat×Nat)):=mapO (fun f:Field=>do
 let ck ←ckT P f.type
 let n ←sizeT P f.type
 if n = 1 ∧ f.name ≠ "_" then some (f.offset, ck) else none) fs
def kkT(t:TypeId):Option Nat:=match ckT P t with
 |some c=>some c
 |none=>match P.underlying t with
   |some (.struct fs)=>if P.stoodInHeld t=false∧eqsT P fs.toList=some [(0,0),(1,0)]then some 3 else none
   |_=>none
def Nmx(t:TypeId):Option PV:=do
 let i ←P.info? t
 let z ←i.zero
 constP z
def Nn7(t:TypeId):Option (TypeId×TypeId):=match P.underlying t with
 |some (.map k e)=>some (k,e)
 |_=>none
def Ncz(f:FuncId):Bool:=match P.funcs[f]? with
 | some fn => fn.body.isSome && !(fn.name == "runtime.NumGoroutine")
 |none=>false
def partsT(t:TypeId)(parts:List (Nat×Operand)):Option (List (Nat×Nat×Arg)) :=
 match P.underlying t with
 |some (.struct fs)=>if fs.toList.all (fun f=>(sizeT P f.type).isSome)then mapO (fun(p:Nat×Operand)=>do
  let f ←fs[p.1]?
  some (f.offset,←sizeT P f.type,←cArg V p.2)) parts else none
 |some (.array _ e)=>match sizeT P e with
   |none=>none
   |some n=>mapO (fun(p:Nat×Operand)=>do some (p.1 * n,n,←cArg V p.2)) parts
 |_=>none
def NpD:List Arg→Bool
 |.c .nsl::_=>true
 |_=>false
def NcJ(modes:FuncId→Option Bool)(op:Op):Option MOp :=
 match op with
 |.move x|.assign x=>(cArg V x).map .mv
 |.pick c a b=>do some (.pick (←cArg V c) (←cArg V a) (←cArg V b))
 |.alloc e=>do some (.alloc (←zeroT P e))
 |.box _ x=>do some (.box (←cArg V x))
 |.build t parts=>do
   let zero ←zeroT P t
   let ps ←partsT P V t parts.toList
   some (.build zero ps)
 |.buildSlice t len parts=>do
   let e ←sliceT P t
   let n ←sizeT P e
   let z ←zeroT P e
   let ps ←mapO (fun(p:Nat×Operand)=>do some (p.1 * n,n,←cArg V p.2)) parts.toList
   if len * n≤16777216 then some (.bslice len n (List.flatten (List.replicate len z)) ps)else none
 |.load t a=>do some (.load (←Ncq P t) (←sizeT P t) (←cArg V a))
 |.store t a x=>do some (.store (←sizeT P t) (←cArg V a) (←cArg V x))
 |.nilCheck x=>do some (.nilck (←cArg V x))
 |.binOp op t x y _=>do
   let a ←cArg V x
   let c ←cArg V y
   match P.underlying t with
   |some (.int _)|some .string=>some (.bin op a c)
   |some .bool=>match op with
     |.eql=>some (.eqb false a c)
     |.neq=>some (.eqb true a c)
     |_=>none
   |some (.struct fs)=>do
     let l ←eqsT P fs.toList
     if P.stoodInHeld t||P.eqGuardType P.depth t then none else match op with
      |.eql=>some (.eqs false l a c)
      |.neq=>some (.eqs true l a c)
      |_=>none
   |some d=>match kdT d,op with
     |some kd,.eql=>some (.eqn kd false a c)
     |some kd,.neq=>some (.eqn kd true a c)
     |_,_=>none
   |_=>none
 |.unOp op _ x=>do some (.un op (←cArg V x))
 |.convert src dst x=>do
   let a ←cArg V x
   match P.underlying src,P.underlying dst with
   |some (.int _),some (.int k)=>some (.conv (.int k) a)
   |some .string,some .string=>some (.conv .same a)
   |some .string,some (.slice e)=>match P.underlying e with
     |some (.int .u8)=>some (.conv .s2b a)
     |_=>none
   |some (.slice e),some .string=>match P.underlying e with
     |some (.int .u8)=>some (.conv .b2s a)
     |_=>none
   |some (.slice _),some (.slice e)=>match P.underlying e with
     |some (.int .u8)=>if src=dst then some (.mark a)else none
     |_=>none
   |_,_=>none
 |.makeFunc (.func f) first cap=>if first.isEmpty then do some (.mkfn f (←mapO (cArg V) cap.toList))else if cap.isEmpty then do some (.mkbfn f (←mapO (cArg V) first.toList))else none
 |.makeSlice t l c=>do
   let e ←sliceT P t
   match l,c with
   |.tmp a,.tmp b=>if a=b then some (.mkslice (←sizeT P e) (←bytesT P e) (←zeroT P e) (←cArg V l))else none
   |.const (.int .i64 a),.const (.int .i64 b)=>if a=b then some (.mkslice (←sizeT P e) (←bytesT P e) (←zeroT P e) (←cArg V l))else none
   |_,_=>none
 |.slice t x lo hi none=>do
   let a ←cArg V x
   let l ←cArgO V lo
   let h ←cArgO V hi
   match P.underlying t with
   |some (.array n e)=>some (.slice (some n) (←sizeT P e) a l h)
   |some (.slice e)=>some (.slice none (←sizeT P e) a l h)
   |some .string=>some (.substr a l h)
   |_=>none
 |.fieldAddr s x f=>match P.underlying s with
   |some (.struct fs)=>do
     let fd ←fs[f]?
     let n ←sizeT P fd.type
     if n=0 then none else some (.fieldAddr fd.offset (←cArg V x))
   |_=>none
 |.field s x f=>match P.underlying s with
   |some (.struct fs)=>do
     let fd ←fs[f]?
     some (.field (←Ncq P fd.type) fd.offset (←sizeT P fd.type) (←cArg V x))
   |_=>none
 |.indexAddr t x i=>match P.underlying t with
   |some (.array n e)=>do some (.indexAddr (some n) (←sizeT P e) (←cArg V x) (←cArg V i))
   |some (.slice e)=>do some (.indexAddr none (←sizeT P e) (←cArg V x) (←cArg V i))
   |_=>none
 |.index t x i=>match P.underlying t with
   |some (.array n e)=>do some (.index n (←Ncq P e) (←sizeT P e) (←cArg V x) (←cArg V i))
   |some .string=>do some (.sindex (←cArg V x) (←cArg V i))
   |_=>none
 |.extract x i=>do some (.extract i (←cArg V x))
 |.makeMap _ none=>some .mkmap
 |.range t x=>match P.underlying t with
   |some .string=>do some (.srange (←cArg V x))
   |_=>none
 |.next x true=>do some (.snext (←cArg V x))
 |.lookup t x i ok=>do
   let (k,e) ←Nn7 P t
   some (.lookup (←kkT P k) ok (←Nmx P e) (←cArg V x) (←cArg V i))
 |.mapUpdate t m k v=>do
   let (kt,_) ←Nn7 P t
   some (.mapup (←kkT P kt) (←cArg V m) (←cArg V k) (←cArg V v))
 |.insert t m k v=>do
   let (kt,_) ←Nn7 P t
   some (.mapup (←kkT P kt) (←cArg V m) (←cArg V k) (←cArg V v))
 |.call c=>match c.callee with
   |.value (.func f)=>match Ncz P f,mapO (cArg V) c.args.toList with
     |true,some l=>match modes f with
       |some own=>some (.call f (own&&!NpD l) l)
       |none=>some (.calle f l)
     |_,_=>none
   |.value (.tmp t)=>do some (.callv (←cArg V (.tmp t)) (←mapO (cArg V) c.args.toList))
   |.builtin .append=>match c.argTypes.toList,c.args.toList with
     |[t,u],[s,x]=>do
       let e ←sliceT P t
       match P.underlying u with
       |some (.slice _)=>do
         let _ ←zeroT P e
         some (.append (←sizeT P e) (←bytesT P e) (←cArg V s) (←cArg V x))
       |some .string=>do
         let _ ←zeroT P e
         let n ←sizeT P e
         let b ←bytesT P e
         if n=1∧b=1 then some (.appstr (←cArg V s) (←cArg V x))else none
       |_=>none
     |_,_=>none
   |.builtin .len=>match c.argTypes.toList,c.args.toList with
     |[t],[x]=>match P.underlying t with
       |some .string=>do some (.slen (←cArg V x))
       |some (.slice _)=>do some (.len (←cArg V x))
       |some (.array n _)=>some (.alen n)
       |some (.map _ _)=>do some (.mlen (←cArg V x))
       |_=>none
     |_,_=>none
   |.builtin .copy=>match c.argTypes.toList,c.args.toList with
     |[t,u],[d,s]=>do
       let e ←sliceT P t
       let _ ←sliceT P u
       some (.copy (←sizeT P e) (←cArg V d) (←cArg V s))
     |_,_=>none
   |.builtin .max=>match c.args.toList with
     |x::ys=>do some (.max (←cArg V x) (←mapO (cArg V) ys))
     |[]=>none
   |.builtin .min=>match c.args.toList with
     |x::ys=>do some (.min (←cArg V x) (←mapO (cArg V) ys))
     |[]=>none
   |_=>none
 |_=>none
def Nn2:Nat→TypeId→Option TypeId
 |0,_=>none
 |f+1,t=>match P.underlying t with
   |some (.struct fs)=>match fs[0]? with
     |some d=>Nn2 f d.type
     |none=>none
   |some (.pointer u)=>some u
   |_=>none
def Nfv(t:TypeId):Bool:=match zeroT P t with
 |some [.nptr,.nsl]=>match Nn2 P 4 t with
   |some u=>Nn2 P 4 u==some u&&(P.info? u).isSome
   |none=>false
 |_=>false
def NoR:Nat:=1000000007
def Nn3(u:TypeId):List TypeId:=(List.range P.types.size).filter fun T=>Nfv P T&&liesAt P P.depth T (2 / P.cellsOf T) 0 u 1
def NmL(f:FuncId):Option TypeId:=match P.funcs[f]? with
 | some fn => if fn.body.isNone && fn.name == "internal/bytealg.MakeNoZero" && fn.origin == "" then (match fn.resultTypes.toList with
   |[t]=>match sliceT P t with
     |some e=>match P.underlying e with
       |some (.int .u8)=>some e
       |_=>none
     |none=>none
   |_=>none)else none
 |none=>none
def Nj3(f:FuncId):Bool:=match P.funcs[f]? with
 | some fn => fn.body.isNone && fn.name == "internal/abi.NoEscape" && fn.origin == ""
 |none=>false
def Nk3(b:Bool)(op:Op):Option MOp:=match op with
 |.alloc e=>if Nfv P e then some (.allocb e)else none
 |.box e x=>if Nfv P e then do some (.boxb e (←cArg V x))else none
 |.binOp .neq t (.tmp x) (.tmp y) _=>if b then match P.underlying t with
  |some (.pointer u)=>if(P.info? u).isSome then do some (.eqp true (←cArg V (.tmp x)) (←cArg V (.tmp y)))else none
  |_=>none
   else none
 |.convert src dst x=>if b then match P.underlying src,P.underlying dst with
  |some (.pointer t),some .unsafePointer=>match sizeT P t with
    |some n=>if n=0 then none else do some (.conv .up (←cArg V x))
    |none=>none
  |some .unsafePointer,some (.pointer u)=>if(P.info? u).isSome then do some (.conv (.down (Nn3 P u)) (←cArg V x))else none
  |_,_=>none
   else none
 |.call c=>if b then match c.callee with
   |.value (.func f)=>if Nj3 P f then match c.args.toList with
    |[x]=>do some (.mv (←cArg V x))
    |_=>none
     else match NmL P f,c.args.toList with
      |some e,[x]=>do some (.mknz e (←cArg V x))
      |_,_=>none
   |.builtin .cap=>match c.argTypes.toList,c.args.toList with
     |[t],[x]=>match P.underlying t with
       |some (.slice _)=>do some (.capb (←cArg V x))
       |_=>none
     |_,_=>none
   |.builtin .copy=>match c.argTypes.toList,c.args.toList with
     |[t,u],[d,s]=>match sliceT P t,sliceT P u with
       |some e,some _=>match sizeT P e with
         |some _=>do some (.copyb (←cArg V d) (←cArg V s))
         |none=>none
       |_,_=>none
     |_,_=>none
   |.builtin .append=>match c.argTypes.toList,c.args.toList with
     |[t,u],[s,x]=>match sliceT P t with
       |some e=>match P.underlying e,zeroT P e,sizeT P e,bytesT P e with
         |some (.int .u8),some _,some 1,some 1=>match P.underlying u with
           |some (.slice _)=>do some (.appb e (←cArg V s) (←cArg V x))
           |some .string=>do some (.appbs e (←cArg V s) (←cArg V x))
           |_=>none
         |_,_,_,_=>none
       |none=>none
     |_,_=>none
   |.builtin .unsafeSliceData=>match c.args.toList with
     |[x]=>do some (.sdata (←cArg V x))
     |_=>none
   |.builtin .unsafeString=>match c.argTypes.toList,c.args.toList with
     |[t,_],[p,n]=>match P.underlying t with
       |some (.pointer e)=>if P.cellsOf e=1 then do some (.ustr e (←cArg V p) (←cArg V n))else none
       |_=>none
     |_,_=>none
   |_=>none
   else none
 |_=>none
def cOp(modes:FuncId→Option Bool)(op:Op):Option MOp:=match Nk3 P V (modes NoR==some true) op with
 |some m=>some m
 |none=>NcJ P V modes op
def MOp.plain:MOp→Bool
 |.call ..|.calle ..|.callv ..|.callq ..=>false
 |_=>true
def isCallOp:Op→Bool
 |.call c=>match c.callee with
   |.value _=>true
   |_=>false
 |_=>false
def cDst(n:Nat):Option Tmp→Option MDst
 |none=>some .no
 |some t=>if t<n then some (if V.contains t then .t t else .l t)else none
def cGuard(n:Nat)(ops:Array Oper):Option (Nat×Bool)→Option (Option (Arg×Bool))
 |none=>some none
 |some (j,want)=>match (ops[j]?).bind (·.dst)with
   |some t=>if t<n then some (some ((if V.contains t then .t t else .l t),want))else none
   |none=>none
def NiP(n:Nat)(modes:FuncId→Option Bool)(ops:Array Oper)(o:Oper):Option MOper:=do
 let op:=match cOp P V modes o.op with
  |some m=>if m.plain||isCallOp o.op then m else .bad
  |none=>.bad
 let dst ←cDst V n o.dst
 let guard ←cGuard V n ops o.guard
 some { dst,op,guard }
def Nbt(o:MOper):MOper:=match o.op with
 |.call f false args=>{ o with op:=.callq f args }
 |m=>if NaB m then o else { o with op:=.bad }
def argsO:Option Arg→List Arg
 |some a=>[a]
 |none=>[]
def mArgs:MOp→List Arg
 |.mv x|.box x|.load _ _ x|.nilck x|.un _ x|.conv _ x|.fieldAddr _ x|.field _ _ _ x|.extract _ x|.len x|.slen x|.mlen x|.srange x|.snext x|.mark x|.mkslice _ _ _ x|.sdata x|.boxb _ x|.capb x|.mknz _ x=>[x]
 |.pick c a b=>[c,a,b]
 |.alloc _|.alen _|.mkmap|.bad|.allocb _=>[]
 |.lookup _ _ _ m k=>[m,k]
 |.mapup _ m k v=>[m,k,v]
 |.build _ ps|.bslice _ _ _ ps=>ps.map fun p=>p.2.2
 |.store _ a x|.bin _ a x|.eqb _ a x|.eqn _ _ a x|.eqs _ _ a x|.indexAddr _ _ a x|.index _ _ _ a x|.sindex a x|.append _ _ a x|.appstr a x|.copy _ a x|.eqp _ a x|.appb _ a x|.appbs _ a x|.ustr _ a x|.copyb a x=>[a,x]
 |.mkfn _ l|.mkbfn _ l|.call _ _ l|.calle _ l|.callq _ l=>l
 |.callv f l=>f::l
 |.slice _ _ x lo hi|.substr x lo hi=>x::(argsO lo++argsO hi)
 |.min x l|.max x l=>x::l
def Arg.slot:Arg→Option Nat
 |.t x|.l x=>some x
 |.c _=>none
def MDst.slot:MDst→Option Nat
 |.no=>none
 |.t x|.l x=>some x
def MOper.reads(o:MOper):List Nat:=(mArgs o.op++(match o.guard with|some (x,_)=>[x]|none=>[])).filterMap Arg.slot
def NbA(ops:List Oper):List Nat:=ops.foldl (fun acc o=>acc++[o.after.toList.foldl (fun m e=>if Region.binds .any e then m ||| (2 ^ e.on ||| acc.getD e.on 0)else m) 0]) []
def NfV(ops:List Oper)(ml:List MOper)(masks:List Nat):Bool :=
 (List.range ops.length).all fun i=>match ops[i]?,ml[i]? with
  |some o,some mo =>
    o.after.toList.all (fun e=>!Region.binds .any e||decide (e.on<i)) &&
    (List.range ops.length).all (fun j=>!NaK masks i j||o.after.toList.any (fun e=>Region.binds .any e&&(e.on==j||NaK masks e.on j))) &&
    (List.range ops.length).all (fun j=>match ml[j]? with
     |some mj=>match mj.dst.slot with
       |some t=>(decide (i=j)||mo.dst.slot != some t)&&(!mo.reads.contains t||(decide (j<i)&&NaK masks i j)||(decide (i<j)&&NaK masks j i))
       |none=>true
     |none=>false)
  |_,_=>false
def NjL(ops:List Oper)(ml:List MOper)(masks:List Nat):Bool:=ml.all (fun mo=>NaB mo.op)&&NfV ops ml masks
def Nhc(ml:List MOper)(masks:List Nat):Option (Nat×Nat):=((List.range ml.length).flatMap fun i=>(List.range ml.length).filterMap fun j=>if decide (i<j)&&!Nai ml i&&!Nai ml j&&!NaK masks j i then some (i,j)else none).head?
def NfH(ml:List MOper):Option (Nat×Nat)→Bool
 |none=>true
 |some (i,j)=>decide (i<j)&&decide (j<ml.length)&&!Nai ml i&&!Nai ml j&&(storeAt ml i).isSome&&(storeAt ml j).isSome&&(List.range ml.length).all fun w=>Nai ml w||decide (w=j)||decide (w≤i)
def NeF(ops:List Oper)(ml:List MOper)(masks:List Nat)(sw:Option (Nat×Nat)):Bool :=
 NfV ops ml masks&&NfH ml sw&&(List.range ops.length).all fun i=>(List.range ops.length).all fun j=>!decide (i<j)||Nai ml i||Nai ml j||NaK masks j i||sw==some (i,j)
def NlK:Nat→TypeId→Bool
 |0,_=>false
 |f+1,t=>match P.underlying t with
   |some (.int _)=>true
   |some .bool=>true
   |some .string=>true
   |some (.struct fs)=>fs.toList.all fun d=>NlK f d.type
   |some (.array _ e)=>NlK f e
   |_=>false
def NkH(ml:List MOper):Bool:=ml.all fun mo=>NaB mo.op||match mo.op with
 |.call f false _=>match P.funcs[f]? with
   |some fn=>fn.resultTypes.toList.all fun t=>NlK P 8 t||(match P.underlying t with|some (.slice e)=>NlK P 8 e|_=>false)
   |none=>false
 |_=>false
def Nna(mo:MOper):MOper:=match mo.op with
 |.call f false args=>if NkH P [mo]then { mo with op:=.callq f args } else mo
 |_=>mo
def cCode(n:Nat)(modes:FuncId→Option Bool):Code→Option MCode
 |.skip=>some .skip
 |.region _ ops draw=>match mapO (NiP P V n modes ops) ops.toList with
   |none=>none
   |some ml=>if draw then
    if P.follows .mixedOrders&&(!ml.all (fun mo=>NaB mo.op)&&!NkH P ml)&&NeF ops.toList ml (NbA ops.toList) (Nhc ml (NbA ops.toList))then(if(Nhc ml (NbA ops.toList)).isNone&&NhW ml (NbA ops.toList)then some (.region ml)else if NeF ops.toList (ml.map (Nna P)) (NbA ops.toList) none&&(Nhc (ml.map (Nna P)) (NbA ops.toList)).isNone&&NhW (ml.map (Nna P)) (NbA ops.toList)then some (.region (ml.map (Nna P)))else some (.chain ml (NbA ops.toList) (Nhc ml (NbA ops.toList))))
    else if P.follows .mixedOrders&&NjL ops.toList (ml.map Nbt) (NbA ops.toList)then some (.region (ml.map Nbt))else some (.region [{ dst:=.no,op:=.bad,guard:=none }])
     else some (.region ml)
 |.seq a b=>do some (.seq (←cCode n modes a) (←cCode n modes b))
 |.cond c a b=>do
   let x ←cArg V c
   some (.cond x (←cCode n modes a) (←cCode n modes b))
 |.block id c=>do some (.block id (←cCode n modes c))
 |.loop c=>do some (.loop (←cCode n modes c))
 |.exit id=>some (.exit id)
 |.scope c=>do some (.scope (←cCode n modes c))
 |.label _=>some .skip
 |.ret=>some .ret
 |.refuse _=>some (.region [{ dst:=.no,op:=.bad,guard:=none }])
 |_=>none
def cRes:ResultVar→Option MRes
 |.tmp t=>if V.contains t then some (.t t)else none
 |.cell t ty=>do if V.contains t then some (.cell t (←Ncq P ty) (←sizeT P ty))else none
end
def Code.useV:Code→List Nat
 |.region _ ops _ =>
   let go:=ops.toList.foldl (fun(acc:List Nat×List Nat) o =>
    let reads:=(o.op.operands.toList.filterMap fun|.tmp t=>some t|_=>none)++(match o.guard with|some (j,_)=>((ops[j]?).bind (·.dst)).toList|none=>[])
    (reads.filter (fun t=>!acc.2.contains t)++acc.1,o.dst.toList++acc.2)) ([],[])
   go.1
 |.seq a b=>Code.useV a++Code.useV b
 |.cond (.tmp t) a b=>t::(Code.useV a++Code.useV b)
 |.cond _ a b=>Code.useV a++Code.useV b
 |.block _ c|.loop c|.scope c=>Code.useV c
 |_=>[]
def Nr9(fn:Func):List Nat:=(fn.results.toList.map fun|.tmp t=>t|.cell t _=>t)++(match fn.body with|some c=>Code.useV c|none=>[])
def bldFn (s : String) : Bool := s == "(*strings.Builder).copyCheck" || s == "(*strings.Builder).WriteByte" || s == "(*strings.Builder).WriteString" || s == "(*strings.Builder).String" || s == "(*strings.Builder).Grow" || s == "(*strings.Builder).grow"
def bldModes(b:Bool)(modes:FuncId→Option Bool):FuncId→Option Bool:=fun f=>if f=NoR then(if b then some true else none)else modes f
def Naw(P:Program)(modes:FuncId→Option Bool)(f:FuncId):Option MFunc:=do
 let fn ←P.funcs[f]?
 let c ←fn.body
 let V:=(Nr9 fn).eraseDups
 let body ←cCode P V fn.ntmps (bldModes (bldFn fn.name) modes) c
 let res ←mapO (cRes P V) fn.results.toList
 if !(fn.name == "runtime.NumGoroutine") then some { body, res } else none
end
end Go.Pe
set_option linter.unusedVariables false
set_option linter.unusedSimpArgs false
namespace Go.Pe
open Go Go.Am Go.RowKit
section
variable {w w':World}{base k k':Nat}{v:Value}{N:Nat→Prop}{vs:List Value}
theorem Trie.sget_put_ne{α:Type}:∀ (f:Nat) (t:Trie α) (k k':Nat) (x:Option α),k≠k'→Trie.sget f (Trie.sput f t k x) k'=Trie.sget f t k'
 |0,_,_,_,_,_=>rfl
 |f+1,.leaf,k,k',x,h=>by
   have hl:∀ j,Trie.sget f (Trie.leaf:Trie α) j=none:=(by intro j;cases f<;>rfl);unfold Trie.sput;by_cases h0:k=0
   ·rw[if_pos h0];simp only[Trie.sget];rw[if_neg (by omega)];split<;>exact hl _
   ·rw[if_neg h0];by_cases h1:k % 2=1
    ·rw[if_pos h1];simp only[Trie.sget];by_cases h2:k'=0
     ·rw[if_pos h2]
     ·rw[if_neg h2];split
      ·rw[Trie.sget_put_ne f .leaf (k / 2) (k' / 2) x (by omega)];exact hl _
      ·exact hl _
    ·rw[if_neg h1];simp only[Trie.sget];by_cases h2:k'=0
     ·rw[if_pos h2]
     ·rw[if_neg h2];split
      ·exact hl _
      ·rw[Trie.sget_put_ne f .leaf (k / 2 - 1) (k' / 2 - 1) x (by omega)];exact hl _
 |f+1,.node v l r,k,k',x,h=>by
   unfold Trie.sput;by_cases h0:k=0
   ·have hk:¬ k'=0:=(by omega);rw[if_pos h0];simp only[Trie.sget,if_neg hk]
   ·rw[if_neg h0];by_cases h1:k % 2=1
    ·rw[if_pos h1];simp only[Trie.sget];by_cases h2:k'=0
     ·rw[if_pos h2,if_pos h2]
     ·rw[if_neg h2,if_neg h2];split
      ·exact Trie.sget_put_ne f l (k / 2) (k' / 2) x (by omega)
      ·rfl
    ·rw[if_neg h1];simp only[Trie.sget];by_cases h2:k'=0
     ·rw[if_pos h2,if_pos h2]
     ·rw[if_neg h2,if_neg h2];split
      ·rfl
      ·exact Trie.sget_put_ne f r (k / 2 - 1) (k' / 2 - 1) x (by omega)
theorem Trie.sget_put_same{α:Type}:∀ (f:Nat) (t:Trie α) (k:Nat) (x:Option α),k+1<2 ^ f→Trie.sget f (Trie.sput f t k x) k=x
 |0,_,k,_,h=>by simp at h
 |f+1,.leaf,k,x,h=>by
   rw[Nat.pow_succ]at h;unfold Trie.sput;by_cases h0:k=0
   ·rw[if_pos h0];simp only[Trie.sget];rw[if_pos h0]
   ·rw[if_neg h0];by_cases h1:k % 2=1
    ·rw[if_pos h1];simp only[Trie.sget];rw[if_neg h0,if_pos h1];exact Trie.sget_put_same f _ _ _ (by omega)
    ·rw[if_neg h1];simp only[Trie.sget];rw[if_neg h0,if_neg h1];exact Trie.sget_put_same f _ _ _ (by omega)
 |f+1,.node v l r,k,x,h=>by
   rw[Nat.pow_succ]at h;unfold Trie.sput;by_cases h0:k=0
   ·rw[if_pos h0];simp only[Trie.sget];rw[if_pos h0]
   ·rw[if_neg h0];by_cases h1:k % 2=1
    ·rw[if_pos h1];simp only[Trie.sget];rw[if_neg h0,if_pos h1];exact Trie.sget_put_same f _ _ _ (by omega)
    ·rw[if_neg h1];simp only[Trie.sget];rw[if_neg h0,if_neg h1];exact Trie.sget_put_same f _ _ _ (by omega)
theorem Trie.sput_put{α:Type}:∀ (f:Nat) (t:Trie α) (k:Nat) (x y:Option α),Trie.sput f (Trie.sput f t k x) k y=Trie.sput f t k y
 |0,_,_,_,_=>rfl
 |f+1,.leaf,k,x,y=>by
   simp only[Trie.sput];by_cases h0:k=0
   ·rw[if_pos h0,if_pos h0];simp only[Trie.sput,if_pos h0]
   ·rw[if_neg h0,if_neg h0];by_cases h1:k % 2=1
    ·rw[if_pos h1,if_pos h1];simp only[Trie.sput,if_neg h0,if_pos h1,Trie.sput_put f]
    ·rw[if_neg h1,if_neg h1];simp only[Trie.sput,if_neg h0,if_neg h1,Trie.sput_put f]
 |f+1,.node v l r,k,x,y=>by
   simp only[Trie.sput];by_cases h0:k=0
   ·rw[if_pos h0,if_pos h0];simp only[Trie.sput,if_pos h0]
   ·rw[if_neg h0,if_neg h0];by_cases h1:k % 2=1
    ·rw[if_pos h1,if_pos h1];simp only[Trie.sput,if_neg h0,if_pos h1,Trie.sput_put f]
    ·rw[if_neg h1,if_neg h1];simp only[Trie.sput,if_neg h0,if_neg h1,Trie.sput_put f]
theorem Trie.get_put_ne{α:Type}:∀ (f:Nat) (t:Trie α) (k k':Nat) (x:Option α),k≠k'→Trie.get f (Trie.put f t k x) k'=Trie.get f t k':=by
 simp only[Trie.get_eq,Trie.put_eq];exact Trie.sget_put_ne
theorem Trie.get_put_same{α:Type}:∀ (f:Nat) (t:Trie α) (k:Nat) (x:Option α),k+1<2 ^ f→Trie.get f (Trie.put f t k x) k=x:=by
 simp only[Trie.get_eq,Trie.put_eq];exact Trie.sget_put_same
theorem Trie.put_put{α:Type}:∀ (f:Nat) (t:Trie α) (k:Nat) (x y:Option α),Trie.put f (Trie.put f t k x) k y=Trie.put f t k y:=by
 simp only[Trie.get_eq,Trie.put_eq];exact Trie.sput_put
theorem Trie.sget_fuel{α:Type}:∀ (f f':Nat) (t:Trie α) (k:Nat),k<f→k<f'→Trie.sget f t k=Trie.sget f' t k
 |0,_,_,_,h,_=>by omega
 |_+1,0,_,_,_,h=>by omega
 |_+1,_+1,.leaf,_,_,_=>rfl
 |f+1,f'+1,.node v l r,k,h,h'=>by
   simp only[Trie.sget];split
   ·rfl
   ·split
    ·exact Trie.sget_fuel f f' l _ (by omega) (by omega)
    ·exact Trie.sget_fuel f f' r _ (by omega) (by omega)
theorem Trie.sput_fuel{α:Type}:∀ (f f':Nat) (t:Trie α) (k:Nat) (x:Option α),k<f→k<f'→Trie.sput f t k x=Trie.sput f' t k x
 |0,_,_,_,_,h,_=>by omega
 |_+1,0,_,_,_,_,h=>by omega
 |f+1,f'+1,.leaf,k,x,h,h'=>by
   simp only[Trie.sput];split
   ·rfl
   ·split
    ·rw[Trie.sput_fuel f f' .leaf _ x (by omega) (by omega)]
    ·rw[Trie.sput_fuel f f' .leaf _ x (by omega) (by omega)]
 |f+1,f'+1,.node v l r,k,x,h,h'=>by
   simp only[Trie.sput];split
   ·rfl
   ·split
    ·rw[Trie.sput_fuel f f' l _ x (by omega) (by omega)]
    ·rw[Trie.sput_fuel f f' r _ x (by omega) (by omega)]
theorem Trie.get_fuel{α:Type}{f f':Nat}{t:Trie α}(h:k<f)(h':k<f'):Trie.get f t k=Trie.get f' t k:=by
 rw[Trie.get_eq,Trie.get_eq];exact Trie.sget_fuel _ _ _ _ h h'
theorem Trie.put_fuel{α:Type}{f f':Nat}{t:Trie α}{x:Option α}(h:k<f)(h':k<f'):Trie.put f t k x=Trie.put f' t k x:=by
 rw[Trie.put_eq,Trie.put_eq];exact Trie.sput_fuel _ _ _ _ _ h h'
theorem NpA(k:Nat):k+1<2 ^ (k+1):=by
 induction k with
 |zero=>decide
 |succ k ih=>rw[Nat.pow_succ];omega
theorem Nn6(k:Nat):k+1<2 ^ (Nat.add (k+1) 1):=by
 have h:=NpA k;show k+1<2 ^ (k+1+1);rw[Nat.pow_succ];omega
theorem Trie.getk_putk{α:Type}(t:Trie α)(k:Nat)(x:Option α):Trie.get (Nat.add k 1) (Trie.put (Nat.add k 1) t k x) k=x:=by
 rw[Trie.get_fuel (f:=Nat.add k 1) (f':=Nat.add (k+1) 1) (show k<k+1 by omega) (show k<k+1+1 by omega),Trie.put_fuel (f:=Nat.add k 1) (f':=Nat.add (k+1) 1) (show k<k+1 by omega) (show k<k+1+1 by omega)];exact Trie.get_put_same _ _ _ _ (Nn6 k)
theorem Trie.getk_putk_ne{α:Type}(t:Trie α)(x:Option α)(h:k≠k'):Trie.get (Nat.add k' 1) (Trie.put (Nat.add k 1) t k x) k'=Trie.get (Nat.add k' 1) t k':=by
 rw[Trie.get_fuel (f:=Nat.add k' 1) (f':=k+k'+1) (show k'<k'+1 by omega) (by omega),Trie.put_fuel (f:=Nat.add k 1) (f':=k+k'+1) (show k<k+1 by omega) (by omega),Trie.get_put_ne _ _ _ _ _ h];exact Trie.get_fuel (by omega) (show k'<k'+1 by omega)
theorem St.put_put(st:St)(k:Nat)(x y:Option PObj):(st.put k x).put k y=st.put k y:=by simp[St.put,Trie.put_put]
theorem Yaf(st:St)(k:Nat)(o:Option PObj):(st.put k o).get k=o:=Trie.getk_putk _ _ _
theorem Yae{st:St}{o:Option PObj}(h:k≠k'):(st.put k o).get k'=st.get k':=Trie.getk_putk_ne _ _ h
theorem St.get_put{st:St}{o:Option PObj}{x:PObj}(h:(st.put k o).get k'=some x):(k=k'∧o=some x)∨(k≠k'∧st.get k'=some x):=by
 by_cases e:k=k'
 ·subst e;rw[Yaf]at h;exact .inl ⟨rfl,h⟩
 ·rw[Yae e]at h;exact .inr ⟨e,h⟩
structure Ghost where
 F:Nat→Nat→Option Value
 B:Nat→Option (Nat×Nat)
inductive FRel(F:Nat→Nat→Option Value):Value→PV→Prop
 |und (v:Value):FRel F v .und
 |i (k:IntKind) (n:Int):FRel F (.int k n) (.i k n)
 |b (x:Bool):FRel F (.bool x) (.b x)
 |s (l:List UInt8):FRel F (.string ⟨l.toArray⟩) (.s l)
 |agg (cs:Array Value) (ps:List PV) (hl:cs.size=ps.length) (h:∀ (i:Nat) (v:Value) (p:PV),cs[i]? = some v→ps[i]? = some p→FRel F v p):FRel F (.agg cs) (.agg ps)
 |tup (cs:Array Value) (ps:List PV) (hl:cs.size=ps.length) (h:∀ (i:Nat) (v:Value) (p:PV),cs[i]? = some v→ps[i]? = some p→FRel F v p):FRel F (.tuple cs) (.tup ps)
 |nsl:FRel F (.slice none 0 0) .nsl
 |fnull (a:Option Addr) (cap:Nat) (hm:cap≤maxLen):FRel F (.slice a 0 cap) (.fsl 0 [])
 |fsl (b o n cap:Nat) (ps:List PV) (f:Nat→Value) (hc:n≤cap) (hm:cap≤maxLen) (hF:∀ i,i<ps.length→F b (o+i)=some (f i)) (h:∀ (i:Nat) (p:PV),ps[i]? = some p→FRel F (f i) p) :
  FRel F (.slice (some ⟨b,o,none⟩) n cap) (.fsl n ps)
 |nptr:FRel F (.pointer none) .nptr
 |nfn:FRel F .nilFunc .nfn
 |nmp:FRel F (.map none) .nmp
theorem FRel.mono{F F':Nat→Nat→Option Value}(hl:∀ b o u,F b o=some u→F' b o=some u){p:PV}(h:FRel F v p):FRel F' v p:=by
 induction h with
 |und v=>exact .und v
 |i k n=>exact .i k n
 |b x=>exact .b x
 |s l=>exact .s l
 |agg cs ps hl' h ih=>exact .agg cs ps hl' ih
 |tup cs ps hl' h ih=>exact .tup cs ps hl' ih
 |nsl=>exact .nsl
 |fnull a cap hm=>exact .fnull a cap hm
 |fsl b o n cap ps f hc hm hF h ih=>exact .fsl b o n cap ps f hc hm (fun i hi=>hl _ _ _ (hF i hi)) ih
 |nptr=>exact .nptr
 |nfn=>exact .nfn
 |nmp=>exact .nmp
inductive VRel(G:Ghost):Value→PV→Prop
 |und (v:Value):VRel G v .und
 |i (k:IntKind) (n:Int):VRel G (.int k n) (.i k n)
 |b (x:Bool):VRel G (.bool x) (.b x)
 |s (l:List UInt8):VRel G (.string ⟨l.toArray⟩) (.s l)
 |agg (cs:Array Value) (ps:List PV) (hl:cs.size=ps.length) (h:∀ (i:Nat) (v:Value) (p:PV),cs[i]? = some v→ps[i]? = some p→VRel G v p):VRel G (.agg cs) (.agg ps)
 |tup (cs:Array Value) (ps:List PV) (hl:cs.size=ps.length) (h:∀ (i:Nat) (v:Value) (p:PV),cs[i]? = some v→ps[i]? = some p→VRel G v p):VRel G (.tuple cs) (.tup ps)
 |nsl:VRel G (.slice none 0 0) .nsl
 |fnull (a:Option Addr) (cap:Nat) (hm:cap≤maxLen):VRel G (.slice a 0 cap) (.fsl 0 [])
 |fsl (b o n cap:Nat) (ps:List PV) (f:Nat→Value) (hc:n≤cap) (hm:cap≤maxLen) (hF:∀ i,i<ps.length→G.F b (o+i)=some (f i)) (h:∀ (i:Nat) (p:PV),ps[i]? = some p→FRel G.F (f i) p) :
  VRel G (.slice (some ⟨b,o,none⟩) n cap) (.fsl n ps)
 |rsl (k sz off n blk size cap:Nat) (hB:G.B k=some (blk,size)) (hc:n≤cap) (hm:cap≤maxLen) (hz:off+cap * sz≤size) (hs:0<sz):VRel G (.slice (some ⟨blk,off,none⟩) n cap) (.rsl k sz off n)
 |nptr:VRel G (.pointer none) .nptr
 |ptr (k off blk size:Nat) (hB:G.B k=some (blk,size)):VRel G (.pointer (some ⟨blk,off,none⟩)) (.ptr k off)
 |fptr (b o:Nat) (ps:List PV) (f:Nat→Value) (hF:∀ i,i<ps.length→G.F b (o+i)=some (f i)) (h:∀ (i:Nat) (p:PV),ps[i]? = some p→FRel G.F (f i) p):VRel G (.pointer (some ⟨b,o,none⟩)) (.fptr ps)
 |nfn:VRel G .nilFunc .nfn
 |fn (f:FuncId) (cs:Array Value) (ps:List PV) (hl:cs.size=ps.length) (h:∀ (i:Nat) (v:Value) (p:PV),cs[i]? = some v→ps[i]? = some p→VRel G v p):VRel G (.func (.func f) #[] cs) (.fn f ps)
 |bfn (f:FuncId) (cs:Array Value) (ps:List PV) (hl:cs.size=ps.length) (h:∀ (i:Nat) (v:Value) (p:PV),cs[i]? = some v→ps[i]? = some p→VRel G v p):VRel G (.func (.func f) cs #[]) (.bfn f ps)
 |nmp:VRel G (.map none) .nmp
 |mp (k blk size:Nat) (hB:G.B k=some (blk,size)):VRel G (.map (some blk)) (.mp k)
structure Ghost.le(G G':Ghost):Prop where
 F:∀ b o u,G.F b o=some u→G'.F b o=some u
 B:∀ k x,G.B k=some x→G'.B k=some x
theorem Ghost.le.refl(G:Ghost):G.le G:=⟨fun _ _ _ h=>h,fun _ _ h=>h⟩
theorem Ghost.le.trans{G G' G'':Ghost}(h:G.le G')(k:G'.le G''):G.le G'':=⟨fun b o u x=>k.F b o u (h.F b o u x),fun i x y=>k.B i x (h.B i x y)⟩
theorem VRel.mono{G G':Ghost}(hl:G.le G'){p:PV}(h:VRel G v p):VRel G' v p:=by
 induction h with
 |und v=>exact .und v
 |i k n=>exact .i k n
 |b x=>exact .b x
 |s l=>exact .s l
 |agg cs ps hl' h ih=>exact .agg cs ps hl' ih
 |tup cs ps hl' h ih=>exact .tup cs ps hl' ih
 |nsl=>exact .nsl
 |fnull a cap hm=>exact .fnull a cap hm
 |fsl b o n cap ps f hc hm hF h=>exact .fsl b o n cap ps f hc hm (fun i hi=>hl.F _ _ _ (hF i hi)) (fun i p hp=>(h i p hp).mono hl.F)
 |rsl k sz off n blk size cap hB hc hm hz hs=>exact .rsl k sz off n blk size cap (hl.B _ _ hB) hc hm hz hs
 |nptr=>exact .nptr
 |ptr k off blk size hB=>exact .ptr k off blk size (hl.B _ _ hB)
 |fptr b o ps f hF h=>exact .fptr b o ps f (fun i hi=>hl.F _ _ _ (hF i hi)) (fun i p hp=>(h i p hp).mono hl.F)
 |nfn=>exact .nfn
 |fn f cs ps hl' h ih=>exact .fn f cs ps hl' ih
 |bfn f cs ps hl' h ih=>exact .bfn f cs ps hl' ih
 |nmp=>exact .nmp
 |mp k blk size hB=>exact .mp k blk size (hl.B _ _ hB)
theorem FRel.toV{G:Ghost}{p:PV}(h:FRel G.F v p):VRel G v p:=by
 induction h with
 |und v=>exact .und v
 |i k n=>exact .i k n
 |b x=>exact .b x
 |s l=>exact .s l
 |agg cs ps hl' h ih=>exact .agg cs ps hl' ih
 |tup cs ps hl' h ih=>exact .tup cs ps hl' ih
 |nsl=>exact .nsl
 |fnull a cap hm=>exact .fnull a cap hm
 |fsl b o n cap ps f hc hm hF h ih=>exact .fsl b o n cap ps f hc hm hF h
 |nptr=>exact .nptr
 |nfn=>exact .nfn
 |nmp=>exact .nmp
def CRel(G:Ghost)(vs:List Value)(ps:List PV):Prop:=vs.length=ps.length∧∀ (i:Nat) (v:Value) (p:PV),vs[i]? = some v→ps[i]? = some p→VRel G v p
theorem CRel.mono{G G':Ghost}(hl:G.le G'){ps:List PV}(h:CRel G vs ps):CRel G' vs ps:=⟨h.1,fun i v p a b=>(h.2 i v p a b).mono hl⟩
theorem CRel.nil{G:Ghost}:CRel G [] []:=⟨rfl,fun i v p h=>by simp at h⟩
theorem CRel.append{G:Ghost}{us:List Value}{ps qs:List PV}(h:CRel G vs ps)(k:CRel G us qs):CRel G (vs++us) (ps++qs):=by
 refine⟨by simp[h.1,k.1],fun i v p hv hp=>?_⟩;by_cases hi:i<vs.length
 ·rw[List.getElem?_append_left hi]at hv;rw[List.getElem?_append_left (by rw[←h.1];exact hi)]at hp;exact h.2 i v p hv hp
 ·rw[List.getElem?_append_right (by omega)]at hv;rw[List.getElem?_append_right (by rw[←h.1];omega),←h.1]at hp;exact k.2 _ v p hv hp
theorem CRel.cons{G:Ghost}{p:PV}{ps:List PV}(h:VRel G v p)(k:CRel G vs ps):CRel G (v::vs) (p::ps):=by
 refine⟨by simp[k.1],fun i u q hu hq=>?_⟩;cases i with
 |zero=>simp at hu hq;subst hu;subst hq;exact h
 |succ i=>simp at hu hq;exact k.2 i u q hu hq
theorem CRel.uncons{G:Ghost}{p:PV}{ps:List PV}(h:CRel G (v::vs) (p::ps)):VRel G v p∧CRel G vs ps :=
 ⟨h.2 0 v p rfl rfl,by have:=h.1;simpa using this,fun i u q hu hq=>h.2 (i+1) u q (by simpa using hu) (by simpa using hq)⟩
theorem CRel.take{G:Ghost}{ps:List PV}(h:CRel G vs ps)(n:Nat):CRel G (vs.take n) (ps.take n):=by
 refine⟨by simp[h.1],fun i v p hv hp=>?_⟩;rw[List.getElem?_take]at hv hp;split at hv
 ·rename_i hi;rw[if_pos hi]at hp;exact h.2 i v p hv hp
 ·simp at hv
theorem CRel.drop{G:Ghost}{ps:List PV}(h:CRel G vs ps)(n:Nat):CRel G (vs.drop n) (ps.drop n):=by
 refine⟨by simp[h.1],fun i v p hv hp=>?_⟩;rw[List.getElem?_drop]at hv hp;exact h.2 _ v p hv hp
theorem VRel.agg_c{G:Ghost}{cs:Array Value}{ps:List PV}(h:CRel G cs.toList ps):VRel G (.agg cs) (.agg ps) :=
 .agg cs ps (by simpa using h.1) fun i v p hv hp=>h.2 i v p (by simpa using hv) hp
theorem VRel.agg_inv{G:Ghost}{ps:List PV}(h:VRel G v (.agg ps)):∃ cs,v=.agg cs∧CRel G cs.toList ps:=by
 cases h with
 |agg cs _ hl h=>exact⟨cs,rfl,by simpa using hl,fun i v p hv hp=>h i v p (by simpa using hv) hp⟩
theorem VRel.tup_c{G:Ghost}{cs:Array Value}{ps:List PV}(h:CRel G cs.toList ps):VRel G (.tuple cs) (.tup ps) :=
 .tup cs ps (by simpa using h.1) fun i v p hv hp=>h.2 i v p (by simpa using hv) hp
theorem VRel.tup_inv{G:Ghost}{ps:List PV}(h:VRel G v (.tup ps)):∃ cs,v=.tuple cs∧CRel G cs.toList ps:=by
 cases h with
 |tup cs _ hl h=>exact⟨cs,rfl,by simpa using hl,fun i v p hv hp=>h i v p (by simpa using hv) hp⟩
theorem VRel.one{G:Ghost}{p:PV}(h:VRel G v p)(h1:p.one=true):v.oneCell'=true:=by
 cases h<;>simp[PV.one]at h1<;>rfl
theorem VRel.cells{G:Ghost}{p:PV}(h:VRel G v p)(h1:p.cells.all PV.one=true):CRel G v.cells.toList p.cells∧∀ u∈v.cells.toList,u.oneCell'=true:=by
 cases h with
 |agg cs ps hl h =>
   have hc:CRel G cs.toList ps:=⟨by simpa using hl,fun i v p hv hp=>h i v p (by simpa using hv) hp⟩;refine⟨hc,fun u hu=>?_⟩;obtain⟨i,hi,rfl⟩:=List.getElem_of_mem hu;have hi2:i<cs.toList.length:=hi;have hi':i<ps.length:=(by rw[←hc.1];exact hi2);have:=hc.2 i cs.toList[i] ps[i] (List.getElem?_eq_getElem hi2) (List.getElem?_eq_getElem hi');exact this.one (by simpa[PV.cells]using (List.all_eq_true.1 h1) ps[i] (List.getElem_mem _))
 |und v=>simp[PV.cells,PV.one]at h1
 |tup=>simp[PV.cells,PV.one]at h1
 |fptr=>simp[PV.cells,PV.one]at h1
 |i k n=>exact⟨CRel.cons (.i k n) .nil,by simp[Value.cells,Value.oneCell']⟩
 |b x=>exact⟨CRel.cons (.b x) .nil,by simp[Value.cells,Value.oneCell']⟩
 |s l=>exact⟨CRel.cons (.s l) .nil,by simp[Value.cells,Value.oneCell']⟩
 |nsl=>exact⟨CRel.cons .nsl .nil,by simp[Value.cells,Value.oneCell']⟩
 |fnull a cap hm=>exact⟨CRel.cons (.fnull a cap hm) .nil,by simp[Value.cells,Value.oneCell']⟩
 |fsl b o n cap ps f hc hm hF h=>exact⟨CRel.cons (.fsl b o n cap ps f hc hm hF h) .nil,by simp[Value.cells,Value.oneCell']⟩
 |rsl k sz off n blk size cap hB hc hm hz hs=>exact⟨CRel.cons (.rsl k sz off n blk size cap hB hc hm hz hs) .nil,by simp[Value.cells,Value.oneCell']⟩
 |nptr=>exact⟨CRel.cons .nptr .nil,by simp[Value.cells,Value.oneCell']⟩
 |ptr k off blk size hB=>exact⟨CRel.cons (.ptr k off blk size hB) .nil,by simp[Value.cells,Value.oneCell']⟩
 |nfn=>exact⟨CRel.cons .nfn .nil,by simp[Value.cells,Value.oneCell']⟩
 |fn f cs ps hl h=>exact⟨CRel.cons (.fn f cs ps hl h) .nil,by simp[Value.cells,Value.oneCell']⟩
 |bfn f cs ps hl h=>exact⟨CRel.cons (.bfn f cs ps hl h) .nil,by simp[Value.cells,Value.oneCell']⟩
 |nmp=>exact⟨CRel.cons .nmp .nil,by simp[Value.cells,Value.oneCell']⟩
 |mp k blk size hB=>exact⟨CRel.cons (.mp k blk size hB) .nil,by simp[Value.cells,Value.oneCell']⟩
def NoJ(m:Nat×Nat)(size:Nat):Prop:=m=(0,0)∨size≤m.1
def ERel(G:Ghost)(l:List MapEntry)(es:List (PV×PV)):Prop:=l.length=es.length∧∀ (i:Nat) (e:MapEntry) (p:PV×PV),l[i]? = some e→es[i]? = some p→VRel G e.key p.1∧VRel G e.val p.2
theorem ERel.mono{G G':Ghost}(hl:G.le G'){l:List MapEntry}{es:List (PV×PV)}(h:ERel G l es):ERel G' l es:=⟨h.1,fun i e p a b=>⟨(h.2 i e p a b).1.mono hl,(h.2 i e p a b).2.mono hl⟩⟩
def HObj(G:Ghost)(size:Nat)(o:PObj)(obj:Obj):Prop:=match o with
 |.cells _ _=>True
 |.map es=>∃ (ents:Array MapEntry) (clock:Nat),obj=.map ents clock∧ERel G ents.toList es
 |.iter l p=>obj=.stringIter ⟨l.toArray⟩ p
 |.bld T=>obj=.cells #[.pointer none,.slice none 0 0] T (0,0)∧size=2
 |.bytes T l=>∃ (cur:Array Value) (m:Nat×Nat),obj=.cells cur T m∧m.2≤l.length∧cur.size=size∧l.length≤size∧cur.toList.take l.length=Lib.byteCells l
theorem HObj.mono{G G':Ghost}{size:Nat}(hl:G.le G'){o:PObj}{obj:Obj}(h:HObj G size o obj):HObj G' size o obj:=by
 cases o with
 |bld T=>exact h
 |bytes T l=>exact h
 |cells _ _=>trivial
 |map es=>obtain⟨a,b,c,d⟩:=h;exact⟨a,b,c,d.mono hl⟩
 |iter l p=>exact h
structure Sim(G:Ghost)(st:St)(w:World)(base:Nat):Prop where
 bas:base≤w.heap.size
 frz:∀ b o u,G.F b o=some u→w.cell? ⟨b,o,none⟩=some u
 cells:∀ k cs z blk size,st.get k=some (.cells cs z)→G.B k=some (blk,size)→∃ (cur:Array Value) (ty:TypeId) (m:Nat×Nat),w.heap[blk]? = some (.cells cur ty m)∧NoJ m cur.size∧cur.size=size∧cs.length≤size∧CRel G (cur.toList.take cs.length) cs
 frzd:∀ k cs blk size,st.get k=some (.cells cs true)→G.B k=some (blk,size)→∀ i,i<cs.length→∃ u,G.F blk i=some u
 free:∀ k x blk size,st.get k=some x→x.opn=true→G.B k=some (blk,size)→∀ o,G.F blk o=none
 inj:∀ k k' x x',(st.get k).isSome→(st.get k').isSome→G.B k=some x→G.B k'=some x'→x.1=x'.1→k=k'
 low:∀ k x,(st.get k).isSome→G.B k=some x→base≤x.1∧x.1<w.heap.size
 mps:∀ k o blk size,st.get k=some o→G.B k=some (blk,size)→∃ obj,w.heap[blk]? = some obj∧HObj G size o obj
theorem Sim.freeC{G:Ghost}{st:St}(h:Sim G st w base):∀ k cs blk size,st.get k=some (.cells cs false)→G.B k=some (blk,size)→∀ o,G.F blk o=none:=fun k _ b s hg hB=>h.free k _ b s hg rfl hB
theorem Sim.mapAt{G:Ghost}{st:St}(h:Sim G st w base)(k:Nat)(es:List (PV×PV))(blk size:Nat)(hg:st.get k=some (.map es))(hB:G.B k=some (blk,size)):∃ (ents:Array MapEntry) (clock:Nat),w.heap[blk]? = some (.map ents clock)∧ERel G ents.toList es:=by
 obtain⟨obj,h1,a,b,rfl,d⟩:=h.mps k _ blk size hg hB;exact⟨a,b,h1,d⟩
structure Step(base:Nat)(N:Nat→Prop)(G:Ghost)(st:St)(w:World)(G':Ghost)(st':St)(w':World):Prop where
 le:G.le G'
 new:∀ k x,G'.B k=some x→G.B k=some x∨N k
 sim:Sim G' st' w' base
 os:w'.os=w.os
 tape:w'.tape=w.tape
 output:w'.output=w.output
 size:w.heap.size≤w'.heap.size
 kept:∀ j,j<w.heap.size→(∀ k x,(st.get k).isSome→G.B k=some x→x.1≠j)→w'.heap[j]? = w.heap[j]?
 own:∀ k x,(st'.get k).isSome→G'.B k=some x→w.heap.size≤x.1∨∃ k0 x0,(st.get k0).isSome∧G.B k0=some x0∧x0.1=x.1
 fnew:∀ b o u,G'.F b o=some u→G.F b o=some u∨w.heap.size≤b∨∃ k0 x0,(st.get k0).isSome∧G.B k0=some x0∧x0.1=b
 ful:∀ k,(st'.get k).isSome→(st.get k).isSome∨(G'.B k).isSome
abbrev Gmap:=Nat→Nat→Option Value
def Nhf(Gl:Gmap)(G:Ghost)(st:St):Prop:=(∀ b o u,Gl b o=some u→G.F b o=some u)∧∀ k,(st.get k).isSome→(G.B k).isSome
theorem Step.full{G G':Ghost}{st st':St}{Gl:Gmap}(h:Step base N G st w G' st' w')(hf:Nhf Gl G st):Nhf Gl G' st':=by
 refine⟨fun b o u hu=>h.le.F b o u (hf.1 b o u hu),?_⟩;intro k hk;rcases h.ful k hk with h1|h1
 ·obtain⟨x,hx⟩:=Option.isSome_iff_exists.1 (hf.2 k h1);rw[h.le.B k x hx];rfl
 ·exact h1
theorem Step.refl{G:Ghost}{st:St}(h:Sim G st w base):Step base N G st w G st w :=
 ⟨.refl G,fun _ _ h=>.inl h,h,rfl,rfl,rfl,Nat.le_refl _,fun _ _ _=>rfl,fun k x a b=>.inr ⟨k,x,a,b,rfl⟩,fun _ _ _ h=>.inl h,fun _ h=>.inl h⟩
theorem Step.trans{N' M:Nat→Prop}{G G' G'':Ghost}{st st' st'':St}{w'':World}(h:Step base N G st w G' st' w')(k:Step base N' G' st' w' G'' st'' w'')
 (hN:∀ i,N i→M i) (hN':∀ i,N' i→M i):Step base M G st w G'' st'' w'' where
 le:=h.le.trans k.le
 new:=fun i x hx=>by
  rcases k.new i x hx with h1|h1
  ·rcases h.new i x h1 with h2|h2
   ·exact .inl h2
   ·exact .inr (hN i h2)
  ·exact .inr (hN' i h1)
 sim:=k.sim
 os:=k.os.trans h.os
 tape:=k.tape.trans h.tape
 output:=k.output.trans h.output
 size:=Nat.le_trans h.size k.size
 kept:=fun j hj hk=>by
  rw[k.kept j (Nat.lt_of_lt_of_le hj h.size) ?_]
  ·exact h.kept j hj hk
  ·intro i x a b e;rcases h.own i x a b with h1|⟨k0,x0,c,d,e'⟩
   ·omega
   ·exact hk k0 x0 c d (by omega)
 own:=fun i x a b=>by
  rcases k.own i x a b with h1|⟨k0,x0,c,d,e'⟩
  ·exact .inl (Nat.le_trans h.size h1)
  ·rcases h.own k0 x0 c d with h1|⟨k1,x1,c1,d1,e1⟩
   ·exact .inl (by omega)
   ·exact .inr ⟨k1,x1,c1,d1,by omega⟩
 fnew:=fun b o u hu=>by
  rcases k.fnew b o u hu with h1|h1|⟨k0,x0,c,d,e'⟩
  ·exact h.fnew b o u h1
  ·exact .inr (.inl (Nat.le_trans h.size h1))
  ·rcases h.own k0 x0 c d with h1|⟨k1,x1,c1,d1,e1⟩
   ·exact .inr (.inl (by omega))
   ·exact .inr (.inr ⟨k1,x1,c1,d1,by omega⟩)
 ful:=fun i hi=>by
  rcases k.ful i hi with h1|h1
  ·rcases h.ful i h1 with h2|h2
   ·exact .inl h2
   ·obtain⟨x,hx⟩:=Option.isSome_iff_exists.1 h2;right;rw[k.le.B i x hx];rfl
  ·exact .inr h1
theorem Sim.drewN{G:Ghost}{st:St}(h:Sim G st w base)(n:Nat):Sim G st (w.drewN n) base :=
 ⟨h.bas,h.frz,h.cells,h.frzd,h.free,h.inj,h.low,h.mps⟩
theorem Step.drewN{G:Ghost}{st:St}(h:Sim G st w base)(n:Nat):Step base N G st w G st (w.drewN n) :=
 ⟨.refl G,fun _ _ h=>.inl h,h.drewN n,rfl,rfl,rfl,Nat.le_refl _,fun _ _ _=>rfl,fun k x a b=>.inr ⟨k,x,a,b,rfl⟩,fun _ _ _ h=>.inl h,fun _ h=>.inl h⟩
theorem Step.drew{G:Ghost}{st:St}(h:Sim G st w base):Step base N G st w G st w.drew:=Step.drewN h 1
theorem Sim.get_cell{G:Ghost}{st:St}(h:Sim G st w base){cs:List PV}{z:Bool}{blk size:Nat}(hg:st.get k=some (.cells cs z))(hB:G.B k=some (blk,size)) :
 ∃ cur:List Value,cur.length=size∧cs.length≤size∧CRel G (cur.take cs.length) cs∧(∀ i,i<size→w.cell? ⟨blk,i,none⟩=some (cur.getD i undef)∧w.frozen? ⟨blk,i,none⟩=false):=by
 obtain⟨cur,ty,m,hh,hf,hs,hl,hc⟩:=h.cells k cs z blk size hg hB;refine⟨cur.toList,by simpa using hs,hl,hc,fun i hi=>⟨?_,?_⟩⟩
 ·simp[World.cell?,hh,hs,hi]
 ·simp only[World.frozen?,hh];rcases hf with rfl|hf
  ·simp
  ·simp;omega
theorem Sim.range{G:Ghost}{st:St}(h:Sim G st w base){n:Nat}{p:PV}{cs:List PV}(hv:VRel G v p)(hl:NaX st n p=some cs) :
 ∃ b o vs,v=.pointer (some ⟨b,o,none⟩)∧w.rangeAt b o vs∧CRel G vs cs∧cs.length=n:=by
 cases hv with
 |ptr k off blk size hB =>
   simp only[NaX]at hl;split at hl
   rotate_left 1
   ·rename_i T hg;obtain⟨obj,g1,rfl,rfl⟩:=h.mps k _ blk size hg hB;unfold cut? at hl;split at hl
    ·rename_i hle;simp only[Sj]at hl;subst hl;simp only[List.length_cons,List.length_nil]at hle;have hc2:CRel G [.pointer none,.slice none 0 0] [.nptr,.nsl]:=.cons .nptr (.cons .nsl .nil);refine⟨blk,off,(([.pointer none,.slice none 0 0]:List Value).drop off).take n,rfl,?_,(hc2.drop off).take n,by simp;omega⟩;intro j v hv;rw[List.getElem?_take]at hv;split at hv
     ·rw[List.getElem?_drop]at hv;simp only[World.cell?,g1];simpa using hv
     ·simp at hv
    ·simp at hl
   rotate_right 1
   ·rename_i cs0 z hg;unfold cut? at hl;split at hl
    ·rename_i hle;simp only[Sj]at hl;subst hl;obtain⟨cur,h1,h2,h3,h4⟩:=h.get_cell hg hB;refine⟨blk,off,((cur.take cs0.length).drop off).take n,rfl,?_,(h3.drop off).take n,by simp;omega⟩;intro j v hv;rw[List.getElem?_take]at hv;split at hv
     ·rw[List.getElem?_drop,List.getElem?_take]at hv;split at hv
      ·rw[(h4 (off+j) (by omega)).1];simp[List.getD,hv]
      ·simp at hv
     ·simp at hv
    ·simp at hl
   ·simp at hl
 |fptr b o ps f hF hh =>
   simp only[NaX]at hl;unfold cut? at hl;split at hl
   ·rename_i hle;simp only[Sj]at hl;subst hl;refine⟨b,o,(List.range n).map f,rfl,?_,⟨by simp;omega,?_⟩,by simp;omega⟩
    ·intro j v hv;simp only[List.getElem?_map,Option.map_eq_some_iff]at hv;obtain⟨i,hi,rfl⟩:=hv;have hj:j<n:=(by have:=(List.getElem?_eq_some_iff.1 hi).1;simpa using this);have e:i=j:=(by have:=(List.getElem?_eq_some_iff.1 hi).2;simpa using this.symm);subst e;exact h.frz _ _ _ (hF i (by omega))
    ·intro j v p hv hp;simp only[List.getElem?_map,Option.map_eq_some_iff]at hv;obtain⟨i,hi,rfl⟩:=hv;have hj:j<n:=(by have:=(List.getElem?_eq_some_iff.1 hi).1;simpa using this);have e:i=j:=(by have:=(List.getElem?_eq_some_iff.1 hi).2;simpa using this.symm);subst e;rw[List.getElem?_take,if_pos hj]at hp;exact(hh i p (by simpa using hp)).toV
   ·simp at hl
 |_=>simp[NaX]at hl
theorem Nbg(b:Nat):∀ (vs:List Value) (o:Nat) (w:World) (cur:Array Value) (ty:TypeId) (m:Nat×Nat),w.heap[b]? = some (.cells cur ty m)→o+vs.length≤cur.size →
 (∃ cur',(w.setCells b o vs).heap[b]? = some (.cells cur' ty m)∧cur'.toList=cur.toList.take o++vs++cur.toList.drop (o+vs.length))∧(w.setCells b o vs).heap.size=w.heap.size ∧
 (∀ j,j≠b→(w.setCells b o vs).heap[j]? = w.heap[j]?)∧(w.setCells b o vs).os=w.os∧(w.setCells b o vs).tape=w.tape∧(w.setCells b o vs).output=w.output
 |[],o,w,cur,ty,m,h,hl=>⟨⟨cur,h,by simp⟩,rfl,fun _ _=>rfl,rfl,rfl,rfl⟩
 |v::r,o,w,cur,ty,m,h,hl=>by
   have hlt:b<w.heap.size:=(Array.getElem?_eq_some_iff.1 h).1;have h2:w.heap[b]=.cells cur ty m:=(by simpa[Array.getElem?_eq_getElem hlt]using h);have h1:(w.setCell ⟨b,o,none⟩ v).heap[b]? = some (.cells (cur.setIfInBounds o v) ty m):=by
    show(w.heap.modify b _)[b]? = _;rw[Array.getElem?_eq_getElem (by simpa using hlt),Array.getElem_modify_self,h2];simp
   obtain⟨⟨cur',g1,g2⟩,g3,g4,g5,g6,g7⟩:=Nbg b r (o+1) (w.setCell ⟨b,o,none⟩ v) (cur.setIfInBounds o v) ty m h1 (by simp at hl ⊢;omega);refine⟨⟨cur',g1,?_⟩,?_,?_,g5,g6,g7⟩
   ·rw[g2];have ho:o<cur.toList.length:=(by simp at hl ⊢;omega);simp only[Array.toList_setIfInBounds,List.length_cons];have e1:(cur.toList.set o v).take (o+1)=cur.toList.take o++[v]:=by
     rw[List.take_succ_eq_append_getElem (by simpa using ho)];simp[List.take_set_of_le]
    have e2:(cur.toList.set o v).drop (o+1+r.length)=cur.toList.drop (o+(r.length+1)):=by
     rw[List.drop_set_of_lt (by omega)];congr 1;omega
    rw[e1,e2];simp
   ·rw[World.setCells,g3];simp
   ·intro j hj;rw[World.setCells,g4 j hj];exact Below.heap_setCell _ _ _ _ (by simpa using hj)
theorem Sim.noF{G:Ghost}{st:St}(h:Sim G st w base){b:Nat}(hb:w.heap.size≤b)(o:Nat):G.F b o=none:=by
 cases hx:G.F b o with
 |none=>rfl
 |some u =>
   have:=World.block_lt_of_cell? w ⟨b,o,none⟩ (h.frz b o u hx);simp at this;omega
theorem Step.alloc{G:Ghost}{st:St}(h:Sim G st w base)(key:Nat)(hN:N key)(hk:G.B key=none)(cs:List PV)(cur:Array Value)(ty:TypeId)(m:Nat×Nat)
 (hf:NoJ m cur.size) (hc:cs.length≤cur.size) (hr:CRel G (cur.toList.take cs.length) cs) :
 ∃ G',G'.B key=some (w.heap.size,cur.size)∧Step base N G st w G' (st.put key (some (.cells cs false))) (w.alloc (.cells cur ty m)):=by
 have hle:G.le { G with B:=fun k=>if k=key then some (w.heap.size,cur.size)else G.B k } :=
  ⟨fun _ _ _ h=>h,fun k x hx=>by show(if k=key then _ else G.B k)=_;rw[if_neg (by intro e;subst e;rw[hk]at hx;simp at hx)];exact hx⟩
 refine⟨{ G with B:=fun k=>if k=key then some (w.heap.size,cur.size)else G.B k },by simp,hle,?_,?_,rfl,rfl,rfl,by simp,?_,?_,fun _ _ _ h=>.inl h,fun k hk=>by
  by_cases e:k=key
  ·subst e;right;simp
  ·rw[Yae (fun e'=>e e'.symm)]at hk;exact .inl hk⟩
 ·intro k x hx;by_cases e:k=key
  ·subst e;exact .inr hN
  ·left;simpa[e]using hx
 ·refine⟨by simp;have:=h.bas;omega,?_,?_,?_,?_,?_,?_,?_⟩
  ·intro b o u hu;have h1:=h.frz b o u hu;have h2:=World.block_lt_of_cell? w _ h1;rw[World.cell?_of_block (heap_alloc_old w _ h2)];exact h1
  ·intro k cs' z blk size hg hB;rcases St.get_put hg with⟨rfl,e⟩|⟨hne,hg'⟩
   ·simp only[Sj,PObj.cells.injEq]at e;obtain⟨rfl,rfl⟩:=e;simp only[if_pos,Sj,Pj]at hB;obtain⟨rfl,rfl⟩:=hB;exact⟨cur,ty,m,heap_alloc_new w _,hf,rfl,hc,hr.mono hle⟩
   ·have hB':G.B k=some (blk,size):=(by simpa[show k≠key from fun e=>hne e.symm]using hB);obtain⟨cur0,ty0,m0,g1,g2,g3,g4,g5⟩:=h.cells k cs' z blk size hg' hB';exact⟨cur0,ty0,m0,by rw[heap_alloc_old w _ (Array.getElem?_eq_some_iff.1 g1).1];exact g1,g2,g3,g4,g5.mono hle⟩
  ·intro k cs' blk size hg hB;rcases St.get_put hg with⟨rfl,e⟩|⟨hne,hg'⟩
   ·simp at e
   ·have hB':G.B k=some (blk,size):=(by simpa[show k≠key from fun e=>hne e.symm]using hB);exact h.frzd k cs' blk size hg' hB'
  ·intro k cs' blk size hg ho hB;rcases St.get_put hg with⟨rfl,e⟩|⟨hne,hg'⟩
   ·simp only[if_pos,Sj,Pj]at hB;obtain⟨rfl,rfl⟩:=hB;exact h.noF (Nat.le_refl _)
   ·have hB':G.B k=some (blk,size):=(by simpa[show k≠key from fun e=>hne e.symm]using hB);exact h.free k cs' blk size hg' ho hB'
  ·intro k k' x x' hg hg' hB hB' e;have hlow:∀ k x,k≠key→((st.put key (some (.cells cs false))).get k).isSome→(if k=key then some (w.heap.size,cur.size)else G.B k)=some x→(st.get k).isSome∧G.B k=some x∧x.1<w.heap.size:=by
    intro k x hne hg hB;rw[Yae (fun e=>hne e.symm)]at hg;rw[if_neg hne]at hB;exact⟨hg,hB,(h.low k x hg hB).2⟩
   by_cases e1:k=key
   ·by_cases e2:k'=key
    ·omega
    ·have:=hlow k' x' e2 hg' hB';simp only[if_pos e1,Sj]at hB;subst hB;simp at e;omega
   ·have h1:=hlow k x e1 hg hB;by_cases e2:k'=key
    ·simp only[if_pos e2,Sj]at hB';subst hB';simp at e;omega
    ·have h2:=hlow k' x' e2 hg' hB';exact h.inj k k' x x' h1.1 h2.1 h1.2.1 h2.2.1 e
  ·intro k x hg hB;by_cases e1:k=key
   ·simp only[if_pos e1,Sj]at hB;subst hB;have:=h.bas;simp;exact this
   ·rw[Yae (fun e=>e1 e.symm)]at hg;have hB:G.B k=some x:=(by simpa[e1]using hB);have:=h.low k x hg hB;exact⟨this.1,by simp;omega⟩
  ·intro k es blk size hg hB;rcases St.get_put hg with⟨rfl,e⟩|⟨hne,hg'⟩
   ·simp only[Sj]at e;subst e;simp only[if_pos,Sj,Pj]at hB;obtain⟨rfl,rfl⟩:=hB;exact⟨_,heap_alloc_new w _,trivial⟩
   ·have hB':G.B k=some (blk,size):=(by simpa[show k≠key from fun e=>hne e.symm]using hB);obtain⟨obj,g1,g2⟩:=h.mps k es blk size hg' hB';exact⟨obj,by rw[heap_alloc_old w _ (Array.getElem?_eq_some_iff.1 g1).1];exact g1,g2.mono hle⟩
 ·intro j hj _;exact heap_alloc_old w _ hj
 ·intro k x hg hB;by_cases e1:k=key
  ·simp only[if_pos e1,Sj]at hB;subst hB;exact .inl (Nat.le_refl _)
  ·rw[Yae (fun e=>e1 e.symm)]at hg;have hB':G.B k=some x:=(by simpa[e1]using hB);exact .inr ⟨k,x,hg,hB',rfl⟩
theorem Step.allocM{G:Ghost}{st:St}(h:Sim G st w base)(key:Nat)(hN:N key)(hk:G.B key=none)(po:PObj)(obj:Obj)(sz:Nat)(hpo:∀ cs z,po≠.cells cs z)(hho:∀ G',HObj G' sz po obj) :
 ∃ G',G'.B key=some (w.heap.size,sz)∧Step base N G st w G' (st.put key (some po)) (w.alloc obj):=by
 have hle:G.le { G with B:=fun k=>if k=key then some (w.heap.size,sz)else G.B k } :=
  ⟨fun _ _ _ h=>h,fun k x hx=>by show(if k=key then _ else G.B k)=_;rw[if_neg (by intro e;subst e;rw[hk]at hx;simp at hx)];exact hx⟩
 refine⟨{ G with B:=fun k=>if k=key then some (w.heap.size,sz)else G.B k },by simp,hle,?_,?_,rfl,rfl,rfl,by simp,?_,?_,fun _ _ _ h=>.inl h,fun k hk=>by
  by_cases e:k=key
  ·subst e;right;simp
  ·rw[Yae (fun e'=>e e'.symm)]at hk;exact .inl hk⟩
 ·intro k x hx;by_cases e:k=key
  ·subst e;exact .inr hN
  ·left;simpa[e]using hx
 ·refine⟨by simp;have:=h.bas;omega,?_,?_,?_,?_,?_,?_,?_⟩
  ·intro b o u hu;have h1:=h.frz b o u hu;have h2:=World.block_lt_of_cell? w _ h1;rw[World.cell?_of_block (heap_alloc_old w _ h2)];exact h1
  ·intro k cs' z blk size hg hB;rcases St.get_put hg with⟨rfl,e⟩|⟨hne,hg'⟩
   ·simp only[Sj]at e;exact absurd e (hpo _ _)
   ·have hB':G.B k=some (blk,size):=(by simpa[show k≠key from fun e=>hne e.symm]using hB);obtain⟨cur0,ty0,m0,g1,g2,g3,g4,g5⟩:=h.cells k cs' z blk size hg' hB';exact⟨cur0,ty0,m0,by rw[heap_alloc_old w _ (Array.getElem?_eq_some_iff.1 g1).1];exact g1,g2,g3,g4,g5.mono hle⟩
  ·intro k cs' blk size hg hB;rcases St.get_put hg with⟨rfl,e⟩|⟨hne,hg'⟩
   ·simp only[Sj]at e;exact absurd e (hpo _ _)
   ·have hB':G.B k=some (blk,size):=(by simpa[show k≠key from fun e=>hne e.symm]using hB);exact h.frzd k cs' blk size hg' hB'
  ·intro k cs' blk size hg ho hB;rcases St.get_put hg with⟨rfl,e⟩|⟨hne,hg'⟩
   ·simp only[if_pos,Sj,Pj]at hB;obtain⟨rfl,rfl⟩:=hB;exact h.noF (Nat.le_refl _)
   ·have hB':G.B k=some (blk,size):=(by simpa[show k≠key from fun e=>hne e.symm]using hB);exact h.free k cs' blk size hg' ho hB'
  ·intro k k' x x' hg hg' hB hB' e;have hlow:∀ k x,k≠key→((st.put key (some po)).get k).isSome→(if k=key then some (w.heap.size,sz)else G.B k)=some x→(st.get k).isSome∧G.B k=some x∧x.1<w.heap.size:=by
    intro k x hne hg hB;rw[Yae (fun e=>hne e.symm)]at hg;rw[if_neg hne]at hB;exact⟨hg,hB,(h.low k x hg hB).2⟩
   by_cases e1:k=key
   ·by_cases e2:k'=key
    ·omega
    ·have:=hlow k' x' e2 hg' hB';simp only[if_pos e1,Sj]at hB;subst hB;simp at e;omega
   ·have h1:=hlow k x e1 hg hB;by_cases e2:k'=key
    ·simp only[if_pos e2,Sj]at hB';subst hB';simp at e;omega
    ·have h2:=hlow k' x' e2 hg' hB';exact h.inj k k' x x' h1.1 h2.1 h1.2.1 h2.2.1 e
  ·intro k x hg hB;by_cases e1:k=key
   ·simp only[if_pos e1,Sj]at hB;subst hB;have:=h.bas;simp;exact this
   ·rw[Yae (fun e=>e1 e.symm)]at hg;have hB:G.B k=some x:=(by simpa[e1]using hB);have:=h.low k x hg hB;exact⟨this.1,by simp;omega⟩
  ·intro k es blk size hg hB;rcases St.get_put hg with⟨rfl,e⟩|⟨hne,hg'⟩
   ·simp only[Sj]at e;subst e;simp only[if_pos,Sj,Pj]at hB;obtain⟨rfl,rfl⟩:=hB;exact⟨obj,heap_alloc_new w _,hho _⟩
   ·have hB':G.B k=some (blk,size):=(by simpa[show k≠key from fun e=>hne e.symm]using hB);obtain⟨o2,g1,g2⟩:=h.mps k es blk size hg' hB';exact⟨o2,by rw[heap_alloc_old w _ (Array.getElem?_eq_some_iff.1 g1).1];exact g1,g2.mono hle⟩
 ·intro j hj _;exact heap_alloc_old w _ hj
 ·intro k x hg hB;by_cases e1:k=key
  ·simp only[if_pos e1,Sj]at hB;subst hB;exact .inl (Nat.le_refl _)
  ·rw[Yae (fun e=>e1 e.symm)]at hg;have hB':G.B k=some x:=(by simpa[e1]using hB);exact .inr ⟨k,x,hg,hB',rfl⟩
theorem Step.writeO{G:Ghost}{st:St}(h:Sim G st w base)(k key:Nat)(hN:key=k∨N key)(po po':PObj)(hop:po.opn=true)(hop':po'.opn=true)(blk size:Nat)(hg:st.get k=some po)(hB:G.B k=some (blk,size))
 (hk:key=k∨G.B key=none) (cur':Array Value) (ty:TypeId) (m:Nat×Nat) (hh:w'.heap[blk]? = some (.cells cur' ty m)) (hcs:∀ cs z,po'=.cells cs z→NoJ m cur'.size∧cur'.size=size∧cs.length≤size∧CRel G (cur'.toList.take cs.length) cs) (hho:∀ G',HObj G' size po' (.cells cur' ty m))
 (hsz:w'.heap.size=w.heap.size) (ho:∀ j,j≠blk→w'.heap[j]? = w.heap[j]?) (hos:w'.os=w.os) (hta:w'.tape=w.tape) (hou:w'.output=w.output) :
 ∃ G',G'.B key=some (blk,size)∧Step base N G st w G' ((st.put k none).put key (some po')) w':=by
 have hle:G.le { G with B:=fun j=>if j=key then some (blk,size)else G.B j }:=by
  refine⟨fun _ _ _ h=>h,fun j x hx=>?_⟩;show(if j=key then _ else G.B j)=_;by_cases e:j=key
  ·rw[if_pos e];subst e;rcases hk with rfl|hk
   ·rw[←hB];exact hx
   ·rw[hk]at hx;simp at hx
  ·rw[if_neg e];exact hx
 have hBe:∀ j x,(if j=key then some (blk,size)else G.B j)=some x→j≠key→G.B j=some x:=fun j x hx hne=>by rwa[if_neg hne]at hx
 have hget:∀ j x,((st.put k none).put key (some po')).get j=some x→j≠key→j≠k∧st.get j=some x:=by
  intro j x hx hne;rw[Yae (fun e=>hne e.symm)]at hx;rcases St.get_put hx with⟨_,e⟩|⟨hne',hx'⟩
  ·simp at e
  ·exact⟨fun e=>hne' e.symm,hx'⟩
 have hgs:∀ j,(((st.put k none).put key (some po')).get j).isSome→j≠key→j≠k∧(st.get j).isSome:=by
  intro j hj hne;obtain⟨x,hx⟩:=Option.isSome_iff_exists.1 hj;obtain⟨a,b⟩:=hget j x hx hne;exact⟨a,by rw[b];rfl⟩
 have hks:(st.get k).isSome:=by rw[hg];rfl
 have hfree:=h.free k po blk size hg hop hB;refine⟨{ G with B:=fun j=>if j=key then some (blk,size)else G.B j },by simp,hle,?_,?_,hos,hta,hou,by omega,?_,?_,fun _ _ _ h=>.inl h,fun j hj=>by
  by_cases e:j=key
  ·subst e;right;simp
  ·exact .inl (hgs j hj e).2⟩
 ·intro j x hx;by_cases e:j=key
  ·subst e;rcases hN with rfl|hN
   ·left;simp only[if_pos,Sj]at hx;rw[←hx];exact hB
   ·exact .inr hN
  ·exact .inl (hBe j x hx e)
 ·refine⟨by rw[hsz];exact h.bas,?_,?_,?_,?_,?_,?_,?_⟩
  ·intro b o u hu;have hne:b≠blk:=(by rintro rfl;have:=hfree o;rw[show G.F b o=some u from hu]at this;simp at this);rw[World.cell?_of_block (ho b hne)];exact h.frz b o u hu
  ·intro j cs0 z b s hj hBj;by_cases e:j=key
   ·subst e;simp only[if_pos,Sj,Pj]at hBj;obtain⟨rfl,rfl⟩:=hBj;rcases St.get_put hj with⟨_,e⟩|⟨hne,_⟩
    ·simp only[Sj]at e;obtain⟨hf,hs,hc,hr⟩:=hcs _ _ e;exact⟨cur',ty,m,hh,hf,hs,hc,hr.mono hle⟩
    ·exact absurd rfl hne
   ·obtain⟨hne,hj'⟩:=hget j _ hj e;have hBj':=hBe j _ hBj e;obtain⟨c0,t0,m0,g1,g2,g3,g4,g5⟩:=h.cells j cs0 z b s hj' hBj';have hbn:b≠blk:=fun eb=>hne (h.inj j k (b,s) (blk,size) (by rw[hj'];rfl) hks hBj' hB eb);exact⟨c0,t0,m0,by rw[ho b hbn];exact g1,g2,g3,g4,g5.mono hle⟩
  ·intro j cs0 b s hj hBj;by_cases e:j=key
   ·subst e;rcases St.get_put hj with⟨_,e⟩|⟨hne,_⟩
    ·simp only[Sj]at e;rw[e]at hop';simp[PObj.opn]at hop'
    ·exact absurd rfl hne
   ·obtain⟨hne,hj'⟩:=hget j _ hj e;exact h.frzd j cs0 b s hj' (hBe j _ hBj e)
  ·intro j cs0 b s hj ho hBj;by_cases e:j=key
   ·subst e;simp only[if_pos,Sj,Pj]at hBj;obtain⟨rfl,rfl⟩:=hBj;exact hfree
   ·obtain⟨hne,hj'⟩:=hget j _ hj e;exact h.free j cs0 b s hj' ho (hBe j _ hBj e)
  ·intro i j x y hi hj hBi hBj e;by_cases e1:i=key
   ·by_cases e2:j=key
    ·omega
    ·obtain⟨hne,hj'⟩:=hgs j hj e2;have hBj':=hBe j y hBj e2;simp only[if_pos e1,Sj]at hBi;subst hBi;exact absurd (h.inj k j (blk,size) y hks hj' hB hBj' e) (fun q=>hne q.symm)
   ·obtain⟨hne1,hi'⟩:=hgs i hi e1;have hBi':=hBe i x hBi e1;by_cases e2:j=key
    ·simp only[if_pos e2,Sj]at hBj;subst hBj;exact absurd (h.inj i k x (blk,size) hi' hks hBi' hB e) hne1
    ·obtain⟨hne,hj'⟩:=hgs j hj e2;exact h.inj i j x y hi' hj' hBi' (hBe j y hBj e2) e
  ·intro j x hj hBj;rw[hsz];by_cases e:j=key
   ·simp only[if_pos e,Sj]at hBj;subst hBj;exact h.low k (blk,size) hks hB
   ·obtain⟨hne,hj'⟩:=hgs j hj e;exact h.low j x hj' (hBe j x hBj e)
  ·intro j es b s hj hBj;by_cases e:j=key
   ·subst e;simp only[if_pos,Sj,Pj]at hBj;obtain⟨rfl,rfl⟩:=hBj;rcases St.get_put hj with⟨_,e⟩|⟨hne,_⟩
    ·simp only[Sj]at e;subst e;exact⟨_,hh,hho _⟩
    ·exact absurd rfl hne
   ·obtain⟨hne,hj'⟩:=hget j _ hj e;have hBj':=hBe j _ hBj e;obtain⟨obj,g1,g2⟩:=h.mps j es b s hj' hBj';have hbn:b≠blk:=fun eb=>hne (h.inj j k (b,s) (blk,size) (by rw[hj'];rfl) hks hBj' hB eb);exact⟨obj,by rw[ho b hbn];exact g1,g2.mono hle⟩
 ·intro j hj hno;exact ho j (fun e=>hno k (blk,size) hks hB e.symm)
 ·intro j x hj hBj;by_cases e:j=key
  ·simp only[if_pos e,Sj]at hBj;subst hBj;exact .inr ⟨k,(blk,size),hks,hB,rfl⟩
  ·obtain⟨hne,hj'⟩:=hgs j hj e;exact .inr ⟨j,x,hj',hBe j x hBj e,rfl⟩
theorem Step.write{G:Ghost}{st:St}(h:Sim G st w base)(k key:Nat)(hN:key=k∨N key)(cs:List PV)(blk size:Nat)(hg:st.get k=some (.cells cs false))(hB:G.B k=some (blk,size))
 (hk:key=k∨G.B key=none) (cs':List PV) (cur':Array Value) (ty:TypeId) (m:Nat×Nat) (hh:w'.heap[blk]? = some (.cells cur' ty m)) (hf:NoJ m cur'.size) (hs:cur'.size=size) (hc:cs'.length≤size) (hr:CRel G (cur'.toList.take cs'.length) cs')
 (hsz:w'.heap.size=w.heap.size) (ho:∀ j,j≠blk→w'.heap[j]? = w.heap[j]?) (hos:w'.os=w.os) (hta:w'.tape=w.tape) (hou:w'.output=w.output) :
 ∃ G',G'.B key=some (blk,size)∧Step base N G st w G' ((st.put k none).put key (some (.cells cs' false))) w' :=
 Step.writeO h k key hN (.cells cs false) (.cells cs' false) rfl rfl blk size hg hB hk cur' ty m hh (fun cs0 z e=>by cases e;exact⟨hf,hs,hc,hr⟩) (fun _=>trivial) hsz ho hos hta hou
theorem Step.mapw{G:Ghost}{st:St}(h:Sim G st w base)(k:Nat)(po po':PObj)(blk size:Nat)(hpo:∀ cs z,po≠.cells cs z)(hpo':∀ cs z,po'≠.cells cs z)(hop:po.opn=false)(hop':po'.opn=false)(hg:st.get k=some po)(hB:G.B k=some (blk,size))
 (obj':Obj) (hh:w'.heap[blk]? = some obj') (hr:HObj G size po' obj')
 (hsz:w'.heap.size=w.heap.size) (ho:∀ j,j≠blk→w'.heap[j]? = w.heap[j]?) (hos:w'.os=w.os) (hta:w'.tape=w.tape) (hou:w'.output=w.output) :
 Step base N G st w G (st.put k (some po')) w':=by
 have hks:(st.get k).isSome:=by rw[hg];rfl
 have hgs:∀ j,((st.put k (some po')).get j).isSome→(st.get j).isSome:=by
  intro j hj;by_cases e:j=k
  ·subst e;exact hks
  ·rwa[Yae (fun e'=>e e'.symm)]at hj
 obtain⟨obj,g1,g2⟩:=h.mps k po blk size hg hB;have hnc:∀ c t m,obj≠.cells c t m:=by
  intro c t m e;subst e;cases po with
  |cells cs z=>exact hpo cs z rfl
  |map es=>obtain⟨_,_,e,_⟩:=g2;simp at e
  |iter l p=>simp[HObj]at g2
  |bld T=>simp[PObj.opn]at hop
  |bytes T l=>simp[PObj.opn]at hop
 have ne:∀ j b s,j≠k→(st.get j).isSome→G.B j=some (b,s)→b≠blk:=fun j b s hne hj hBj e=>hne (h.inj j k (b,s) (blk,size) hj hks hBj hB e);refine⟨.refl G,fun _ _ h=>.inl h,⟨by rw[hsz];exact h.bas,?_,?_,?_,?_,?_,?_,?_⟩,hos,hta,hou,by omega,?_,?_,fun _ _ _ h=>.inl h,fun j hj=>.inl (hgs j hj)⟩
 ·intro b o u hu;have hc:=h.frz b o u hu;have hne:b≠blk:=by
   rintro rfl;simp only[World.cell?,g1]at hc;cases obj<;>first|(simp at hc;done)|exact hnc _ _ _ rfl
  rw[World.cell?_of_block (ho b hne)];exact hc
 ·intro j cs z b s hj hBj;rcases St.get_put hj with⟨_,e⟩|⟨hne,hj'⟩
  ·simp only[Sj]at e;exact absurd e (hpo' _ _)
  ·obtain⟨c0,t0,m0,q1,q2⟩:=h.cells j cs z b s hj' hBj;exact⟨c0,t0,m0,by rw[ho b (ne j b s (fun e=>hne e.symm) (by rw[hj'];rfl) hBj)];exact q1,q2⟩
 ·intro j cs b s hj hBj;rcases St.get_put hj with⟨_,e⟩|⟨hne,hj'⟩
  ·simp only[Sj]at e;exact absurd e (hpo' _ _)
  ·exact h.frzd j cs b s hj' hBj
 ·intro j cs b s hj ho hBj;rcases St.get_put hj with⟨_,e⟩|⟨hne,hj'⟩
  ·simp only[Sj]at e;rw[e]at hop';rw[hop']at ho;cases ho
  ·exact h.free j cs b s hj' ho hBj
 ·intro i j x y hi hj;exact h.inj i j x y (hgs i hi) (hgs j hj)
 ·intro j x hj hBj;rw[hsz];exact h.low j x (hgs j hj) hBj
 ·intro j es0 b s hj hBj;rcases St.get_put hj with⟨rfl,e⟩|⟨hne,hj'⟩
  ·simp only[Sj]at e;subst e;rw[hB]at hBj;simp only[Sj,Pj]at hBj;obtain⟨rfl,rfl⟩:=hBj;exact⟨obj',hh,hr⟩
  ·obtain⟨e0,q1,q2⟩:=h.mps j es0 b s hj' hBj;exact⟨e0,by rw[ho b (ne j b s (fun e=>hne e.symm) (by rw[hj'];rfl) hBj)];exact q1,q2⟩
 ·intro j hj hno;exact ho j (fun e=>hno k (blk,size) hks hB e.symm)
 ·intro j x hj hBj;exact .inr ⟨j,x,hgs j hj,hBj,rfl⟩
def OpOK(P:Program)(base:Nat)(N:Nat→Prop)(G:Ghost)(st:St)(w:World)(sem:Sem Next)(r:PV)(st':St):Prop :=
 ∃ n w' G',sem.run P w=.ok n w'∧((∃ v,n=.value v∧VRel G' v r)∨(n=.skip∧r=.tup []))∧Step base N G st w G' st' w'
end
section
variable {P:Program}{V:List Nat}{base:Nat}{N:Nat→Prop}{G:Ghost}{st:St}{w:World}
theorem OpOK.same(hs:Sim G st w base){sem:Sem Next}{v:Value}{r:PV}(h:sem.run P w=.ok (.value v) w)(hv:VRel G v r):OpOK P base N G st w sem r st :=
 ⟨_,w,G,h,.inl ⟨v,rfl,hv⟩,Step.refl hs⟩
theorem Ncn{v:Value}{p:PV}(h:constP v=some p):VRel G v p:=by
 cases v with
 |bool x=>simp[constP]at h;subst h;exact .b x
 |int k n=>simp[constP]at h;subst h;exact .i k n
 |string s=>simp[constP]at h;subst h;exact .s s.data.toList
 |pointer a=>cases a<;>simp[constP]at h;subst h;exact .nptr
 |slice a n c =>
   cases a with
   |some a=>simp[constP]at h
   |none =>
     cases n with
     |succ n=>simp[constP]at h
     |zero =>
       cases c with
       |succ c=>simp[constP]at h
       |zero=>simp[constP]at h;subst h;exact .nsl
 |map r=>cases r<;>simp[constP]at h;subst h;exact .nmp
 |nilFunc=>simp[constP]at h;subst h;exact .nfn
 |nilIface=>simp[constP]at h;subst h;exact .und _
 |agg cs =>
   simp only[constP,Option.map_eq_some_iff]at h;obtain⟨l,hl,rfl⟩:=h;refine VRel.agg_c ?_;generalize cs.toList=vs at hl
   induction vs generalizing l with
   |nil=>simp[mapO]at hl;subst hl;exact .nil
   |cons v vs ih =>
     simp only[mapO]at hl;split at hl
     ·rename_i x y hx hy;simp only[Sj]at hl;subst hl;refine CRel.cons ?_ (ih y hy);split at hx<;>simp at hx<;>subst hx<;>first|exact .b _|exact .i _ _|exact .s _|exact .nptr|exact .nsl|exact .nmp|exact .nfn
     ·simp at hl
 |_=>simp[constP]at h
theorem Nda{t:TypeId}{b:Bool}(h:Ncq P t=some b)(w:World):(isAgg t).run P w=.ok b w:=by
 unfold Ncq at h;obtain⟨d,hd,hb⟩:=Option.map_eq_some_iff.1 h;unfold isAgg;rw[Sem.run_bind,run_underlying hd w];cases d<;>simp_all
theorem NaS{t:TypeId}{n:Nat}(h:sizeT P t=some n)(w:World):(sizeOf t).run P w=.ok n w:=by
 obtain⟨i,hi,hn⟩:=Option.map_eq_some_iff.1 h;simp[sizeOf,typeInfo,hi,hn]
theorem NbM{t:TypeId}{z:List PV}(h:zeroT P t=some z):∃ (v:Value) (i:TypeInfo),P.info? t=some i∧i.zero=some v∧z.length=i.size∧CRel G v.cells.toList z∧v.cells.size=i.size∧(∀ u∈v.cells.toList,u.oneCell'=true)∧∀ w,(zeroValue t).run P w=.ok v w:=by
 simp only[zeroT,Option.bind_eq_bind,Option.bind_eq_some_iff]at h;obtain⟨i,hi,v,hv,p,hp,h⟩:=h;split at h
 ·rename_i hl;simp only[Sj]at h;subst h;have hc:=(Ncn (G:=G) hp).cells (by simpa using hl.2);refine⟨v,i,hi,hv,hl.1,hc.1,?_,hc.2,fun w=>by simp[zeroValue,typeInfo,hi,hv]⟩;have:=hc.1.1;simp at this;omega
 ·simp at h
theorem Nfx{t:TypeId}{agg:Bool}{n:Nat}(ha:Ncq P t=some agg)(hn:sizeT P t=some n){b o:Nat}{vs:List Value}(hr:w.rangeAt b o vs)(hl:vs.length=n){cs:List PV}(hc:CRel G vs cs){r:PV}(ho:Naa agg cs=some r) :
 ∃ v,(loadVar t ⟨b,o,none⟩).run P w=.ok v w∧VRel G v r:=by
 unfold Naa at ho;cases agg with
 |true =>
   simp only[if_true,Sj]at ho;subst ho;have hl2:(loadCells ⟨b,o,none⟩ n).run P w=.ok vs.toArray w:=by
    subst hl;exact run_loadCells_list (P:=P) w ⟨b,o,none⟩ vs (fun j v hv=>by rw[Addr.add_mid];exact hr j v hv)
   exact⟨.agg vs.toArray,by simp[loadVar,Nda ha,NaS hn,hl2],VRel.agg_c (by simpa using hc)⟩
 |false =>
   simp only[Bool.false_eq_true,if_false]at ho
   match cs,ho with
   |[p],ho =>
     simp only[Sj]at ho;subst ho;have hv1:vs.length=1:=hc.1
     match vs,hv1 with
     |[v],_ =>
       have h0:=hr 0 v rfl;rw[Nat.add_zero]at h0;exact⟨v,by simp[loadVar,Nda ha,h0],hc.2 0 v p rfl rfl⟩
variable {ρc:Operand→Value}{ρ:Arg→PV}
theorem Nl5(hs:Sim G st w base){e:TypeId}{z:List PV}(hz:zeroT P e=some z)(key:Nat)(hN:N key)(hk:G.B key=none) :
 OpOK P base N G st w (do pure (.value (←Instr.alloc e true (.tuple #[])))) (.ptr key 0) (st.put key (some (.cells z false))):=by
 obtain⟨v,i,hi,hv,hl,hc,hsz,_,hrun⟩:=NbM (G:=G) hz;obtain⟨G',hB,hst⟩:=Step.alloc hs key hN hk z v.cells e (0,0) (.inl rfl) (by omega) (by rw[List.take_of_length_le (by simp;omega)];exact hc);exact⟨_,_,G',by simp[Instr.alloc,hrun,newVar,newRow],.inl ⟨_,rfl,.ptr key 0 _ _ hB⟩,hst⟩
theorem NpI(hs:Sim G st w base){e:TypeId}{v:Value}{p:PV}(hv:VRel G v p)(h1:p.cells.all PV.one=true)(key:Nat)(hN:N key)(hk:G.B key=none) :
 OpOK P base N G st w (do pure (.value (←Instr.box e v))) (.ptr key 0) (st.put key (some (.cells p.cells false))):=by
 obtain⟨hc,_⟩:=hv.cells h1;obtain⟨G',hB,hst⟩:=Step.alloc hs key hN hk p.cells v.cells e (0,0) (.inl rfl) (by have:=hc.1;simp at this;omega) (by rw[List.take_of_length_le (by have:=hc.1;omega)];exact hc);exact⟨_,_,G',by simp[Instr.box,newVar,newRow],.inl ⟨_,rfl,.ptr key 0 _ _ hB⟩,hst⟩
theorem Noi(hs:Sim G st w base){t:TypeId}{agg:Bool}{n:Nat}(ha:Ncq P t=some agg)(hn:sizeT P t=some n){v:Value}{p:PV}(hv:VRel G v p){cs:List PV}(hl:NaX st n p=some cs){r:PV}(ho:Naa agg cs=some r) :
 OpOK P base N G st w (do pure (.value (←Instr.loadAt t v))) r st:=by
 obtain⟨b,o,vs,rfl,hr,hc,hln⟩:=hs.range hv hl;obtain⟨u,hu,hru⟩:=Nfx ha hn hr (by rw[hc.1];exact hln) hc ho;exact OpOK.same hs (by simp[Instr.loadAt,Instr.sureAddr,hu]) hru
theorem Nmb(hs:Sim G st w base){t:TypeId}{n:Nat}(hn:sizeT P t=some n){a v:Value}{pa pv:PV}(ha:VRel G a pa)(hv:VRel G v pv){st':St}(h:Na1 st n pa pv=some st') :
 OpOK P base N G st w (do Instr.storeAt t a v;pure .skip) (.tup []) st':=by
 cases ha with
 |ptr k off blk size hB =>
   simp only[Na1]at h;split at h
   ·rename_i cs hg;split at h
    ·rename_i hcond;obtain⟨h1,h2,h3⟩:=hcond;simp only[Sj]at h;subst h;obtain⟨hc,hone⟩:=hv.cells h3;have hvl:v.cells.size=n:=(by have:=hc.1;simp at this;omega);obtain⟨cur,ty,m,g1,g2,g3,g4,g5⟩:=hs.cells k cs false blk size hg hB;obtain⟨⟨cur',f1,f2⟩,f3,f4,f5,f6,f7⟩:=Nbg blk v.cells.toList off w cur ty m g1 (by simp;omega);have hsz':cur'.size=size:=by
      have:=congrArg List.length f2;simp at this;omega
     have hrun:(Instr.storeAt t (.pointer (some ⟨blk,off,none⟩)) v).run P w=.ok () (w.setCells blk off v.cells.toList):=by
      obtain⟨i,hi,hn'⟩:=Option.map_eq_some_iff.1 hn;have hcell:∀ j,j<v.cells.toList.length→(w.cell? ⟨blk,off+0+j,none⟩).isSome=true:=by
       intro j hj;simp at hj;have:off+0+j<cur.size:=(by omega);simp[World.cell?,g1,show off+j<cur.size by omega]
      have hfz:∀ j,j<v.cells.toList.length→w.frozen? ⟨blk,off+0+j,none⟩=false:=by
       intro j hj;simp at hj;simp only[World.frozen?,g1];rcases g2 with rfl|g2
       ·simp
       ·simp;omega
      have:=run_storeCells_cells (P:=P) blk off v.cells.toList 0 w hcell hfz hone;simp only[Nat.add_zero]at this;simp[Instr.storeAt,Instr.sureAddr,storeVar,sizeOf,typeInfo,hi,hn',hvl,this]
     have hput:st.put k (some (.cells (cs.take off++pv.cells++cs.drop (off+n)) false))=st.put k (some (.cells (cs.take off++pv.cells++cs.drop (off+n)) false)):=rfl;have hlen:(cs.take off++pv.cells++cs.drop (off+n)).length=cs.length:=(by simp;omega);have hrel:CRel G (cur'.toList.take (cs.take off++pv.cells++cs.drop (off+n)).length) (cs.take off++pv.cells++cs.drop (off+n)):=by
      rw[hlen,f2];have e1:((cur.toList.take off++v.cells.toList++cur.toList.drop (off+v.cells.toList.length)).take cs.length)=(cur.toList.take cs.length).take off++v.cells.toList++(cur.toList.take cs.length).drop (off+n):=by
       have hvl2:v.cells.toList.length=n:=(by simpa using hvl);rw[hvl2,List.take_append,List.take_append,List.take_take,List.drop_take]
       congr 1
       ·congr 1
        ·rw[List.take_take];congr 1;omega
        ·rw[List.take_of_length_le];simp;omega
       ·congr 1;simp;omega
      rw[e1];exact((g5.take off).append hc).append (g5.drop (off+n))
     obtain⟨G',hB',hst⟩:=Step.write hs k k (N:=N) (.inl rfl) cs blk size hg hB (.inl rfl) (cs.take off++pv.cells++cs.drop (off+n)) cur' ty m f1 (by rcases g2 with rfl|g2;exact .inl rfl;exact .inr (by omega)) hsz' (by omega) hrel f3 f4 f5 f6 f7;rw[St.put_put]at hst;exact⟨_,_,G',by simp[hrun],.inr ⟨rfl,rfl⟩,hst⟩
    ·simp at h
   ·rename_i T hg;split at h
    ·rename_i j;split at h
     ·rename_i hcond;obtain⟨rfl,rfl,rfl⟩:=hcond;simp only[Sj]at h;subst h;cases hv with
      |ptr _ _ blk2 size2 hB2 =>
        rw[hB]at hB2;simp only[Sj,Pj]at hB2;obtain⟨rfl,rfl⟩:=hB2;obtain⟨obj,g1,rfl,rfl⟩:=hs.mps j _ blk size hg hB;obtain⟨⟨cur',f1,f2⟩,f3,f4,f5,f6,f7⟩:=Nbg blk [.pointer (some ⟨blk,0,none⟩)] 0 w _ T (0,0) g1 (by simp);have hf2:cur'=#[.pointer (some ⟨blk,0,none⟩),.slice none 0 0]:=by
         apply Array.ext';rw[f2];rfl
        subst hf2;obtain⟨i,hi,hn'⟩:=Option.map_eq_some_iff.1 hn;have hcell:∀ q,q<([.pointer (some ⟨blk,0,none⟩)]:List Value).length→(w.cell? ⟨blk,0+0+q,none⟩).isSome=true:=by
         intro q hq;have:q=0:=(by simpa using hq);subst this;simp[World.cell?,g1]
        have hfz:∀ q,q<([.pointer (some ⟨blk,0,none⟩)]:List Value).length→w.frozen? ⟨blk,0+0+q,none⟩=false:=by
         intro q hq;simp[World.frozen?,g1]
        have hrun:=run_storeCells_cells (P:=P) blk 0 [.pointer (some ⟨blk,0,none⟩)] 0 w hcell hfz (by simp[Value.oneCell']);simp only[Nat.add_zero]at hrun;obtain⟨G',hB',hst⟩:=Step.writeO hs j j (N:=N) (.inl rfl) (.bld T) (.cells [.ptr j 0,.nsl] false) rfl rfl blk 2 hg hB (.inl rfl) _ T (0,0) f1
         (fun cs0 z e=>by cases e;exact⟨.inl rfl,rfl,by simp,.cons (.ptr j 0 blk 2 hB) (.cons .nsl .nil)⟩) (fun _=>trivial) f3 f4 f5 f6 f7
        rw[St.put_put]at hst;refine⟨_,_,G',?_,.inr ⟨rfl,rfl⟩,hst⟩;have hvc:(Value.pointer (some ⟨blk,0,none⟩)).cells=#[.pointer (some ⟨blk,0,none⟩)]:=rfl;simp[Instr.storeAt,Instr.sureAddr,storeVar,sizeOf,typeInfo,hi,hn',hvc,hrun]
     ·simp at h
    ·simp at h
   ·simp at h
 |_=>simp[Na1]at h
theorem NhJ{op:BinOp}{k l:IntKind}{a c:Int}{r:PV}(h:Nae op (.i k a) (.i l c)=some r)(t:TypeId)(w:World):∃ v,(binOp op t (.int k a) (.int l c)).run P w=.ok v w∧VRel G v r:=by
 by_cases hsh:op=.shl∨op=.shr
 ·rcases hsh with rfl|rfl
  ·simp only[Nae]at h;split at h
   ·simp at h
   ·simp only[Sj]at h;subst h;exact⟨_,by simp[binOp,Op.shift, *],.i _ _⟩
  ·simp only[Nae]at h;split at h
   ·simp at h
   ·simp only[Sj]at h;subst h;exact⟨_,by simp[binOp,Op.shift, *],.i _ _⟩
 ·by_cases hk:k=l
  ·subst hk;cases op
   case shl=>simp at hsh
   case shr=>simp at hsh
   case add=>simp[Nae]at h;subst h;exact⟨_,by simp[binOp,Op.intArith],.i _ _⟩
   case sub=>simp[Nae]at h;subst h;exact⟨_,by simp[binOp,Op.intArith],.i _ _⟩
   case mul=>simp[Nae]at h;subst h;exact⟨_,by simp[binOp,Op.intArith],.i _ _⟩
   case quo=>simp[Nae]at h;obtain⟨h0,rfl⟩:=h;exact⟨_,by simp[binOp,Op.intDiv,h0],.i _ _⟩
   case rem=>simp[Nae]at h;obtain⟨h0,rfl⟩:=h;exact⟨_,by simp[binOp,Op.intDiv,h0],.i _ _⟩
   case and=>simp[Nae,Nhu]at h;subst h;exact⟨_,by simp[binOp,Op.intBits],.i _ _⟩
   case or=>simp[Nae,Nhu]at h;subst h;exact⟨_,by simp[binOp,Op.intBits],.i _ _⟩
   case xor=>simp[Nae,Nhu]at h;subst h;exact⟨_,by simp[binOp,Op.intBits],.i _ _⟩
   case andNot=>simp[Nae,Nhu]at h;subst h;exact⟨_,by simp[binOp,Op.intBits],.i _ _⟩
   all_goals (simp[Nae]at h;subst h;exact⟨_,by simp[binOp,Op.intCmp],.b _⟩)
  ·cases op<;>first|(simp at hsh;done)|(simp[Nae,hk]at h)
theorem NdN(l:List UInt8):ByteArray.toList ⟨l.toArray⟩=l:=by
 rw[ByteArray.toList_eq]
theorem NhK{op:BinOp}{a c:List UInt8}{r:PV}(h:Nae op (.s a) (.s c)=some r)(t:TypeId)(w:World):∃ v,(binOp op t (.string ⟨a.toArray⟩) (.string ⟨c.toArray⟩)).run P w=.ok v w∧VRel G v r:=by
 cases op<;>simp only[Nae]at h
 all_goals (first|(simp at h;done)|skip)
 case add =>
  split at h<;>simp at h;subst h;rename_i hl;have hsz:∀ l:List UInt8,(ByteArray.mk l.toArray).size=l.length:=by intro l;simp[ByteArray.size]
  refine⟨.string (⟨a.toArray⟩++⟨c.toArray⟩),?_,?_⟩
  ·simp only[binOp,Op.stringOp,hsz];rw[if_neg (by simp[IntKind.max,IntKind.signed,IntKind.bits];omega)];rfl
  ·have e:(⟨a.toArray⟩++⟨c.toArray⟩:ByteArray)=⟨(a++c).toArray⟩:=by
    apply ByteArray.ext;simp
   rw[e];exact .s _
 all_goals (simp at h;subst h;exact⟨_,by simp[binOp,Op.stringOp],.b _⟩)
theorem NmR(hs:Sim G st w base){op:BinOp}{t:TypeId}{x y:Operand}{a c:Value}{pa pc r:PV}(ha:VRel G a pa)(hc:VRel G c pc)(h:Nae op pa pc=some r) :
 OpOK P base N G st w (do pure (.value (←do eqGuard op t x y a c;binOp op t a c))) r st:=by
 cases ha with
 |i k n =>
   cases hc with
   |i l m =>
     obtain⟨v,hv,hr⟩:=NhJ (P:=P) (G:=G) h t w;exact OpOK.same hs (by simp[eqGuard_at_int,hv]) hr
   |_=>simp[Nae]at h
 |s l =>
   cases hc with
   |s m =>
     obtain⟨v,hv,hr⟩:=NhK (P:=P) (G:=G) h t w;have hg:eqGuard op t x y (.string ⟨l.toArray⟩) (.string ⟨m.toArray⟩)=pure ():=(by cases op<;>rfl);exact OpOK.same hs (by simp[hg,hv]) hr
   |_=>simp[Nae]at h
 |_=>simp[Nae]at h
theorem NmS(hs:Sim G st w base){neg:Bool}{t:TypeId}{x y:Operand}{a c:Value}{pa pc r:PV}(hu:P.underlying t=some .bool)(ha:VRel G a pa)(hc:VRel G c pc)(h:NjN neg pa pc=some r) :
 OpOK P base N G st w (do pure (.value (←do eqGuard (if neg then .neq else .eql) t x y a c;binOp (if neg then .neq else .eql) t a c))) r st:=by
 cases ha with
 |b m =>
   cases hc with
   |b n =>
     simp only[NjN,Sj]at h;subst h;have e1:=run_eql_bool (P:=P) w t m n hu;have e2:=run_neq_bool (P:=P) w t m n hu;cases neg
     ·exact OpOK.same hs (v:=.bool (m==n)) (by simp[eqGuard_at_bool,e1]) (by cases m<;>cases n<;>exact .b _)
     ·exact OpOK.same hs (v:=.bool (!(m==n))) (by simp[eqGuard_at_bool,e2]) (by cases m<;>cases n<;>exact .b _)
   |_=>simp[NjN]at h
 |_=>simp[NjN]at h
theorem Nrx(hs:Sim G st w base){op:UnOp}{a:Value}{pa r:PV}(ha:VRel G a pa)(h:unP op pa=some r):OpOK P base N G st w (do pure (.value (←Op.unary op a))) r st:=by
 cases ha with
 |i k n =>
   cases op<;>simp[unP,Nhu]at h
   ·subst h;exact OpOK.same hs (by simp[Op.unary,Op.intArith]) (.i _ _)
   ·subst h;exact OpOK.same hs (by simp[Op.unary,Op.intBits]) (.i _ _)
 |b x =>
   cases op<;>simp[unP]at h;subst h;exact OpOK.same hs (by simp[Op.unary]) (.b _)
 |_=>simp[unP]at h
theorem NhC(hs:Sim G st w base){src dst:TypeId}{k j:IntKind}(h2:P.underlying dst=some (.int k)){d:TypeDesc}(h1:P.underlying src=some d){n:Int}:OpOK P base N G st w (do pure (.value (←convert src dst (.int j n)))) (.i k (k.wrap n)) st :=
 OpOK.same hs (by simp[convert,run_underlying h1,run_underlying h2,Conv.intToInt]) (.i _ _)
theorem NgW(hs:Sim G st w base){src dst:TypeId}(h2:P.underlying dst=some .string)(h1:P.underlying src=some .string){l:List UInt8}:OpOK P base N G st w (do pure (.value (←convert src dst (.string ⟨l.toArray⟩)))) (.s l) st :=
 OpOK.same hs (by simp[convert,run_underlying h1,run_underlying h2]) (.s _)
theorem Nds(hs:Sim G st w base){sz:Nat}{v:Value}{p:PV}(hv:VRel G v p){n:Nat}{cs:List PV}(h:cellsOf st sz p=some (n,cs)) :
 ∃ a cap vs,v=.slice a n cap∧n≤cap∧cap≤maxLen∧CRel G vs cs∧vs.length=n * sz∧(a=none→n=0)∧(0<n * sz→∃ b o,a=some ⟨b,o,none⟩∧w.rangeAt b o vs):=by
 cases hv with
 |nsl=>simp[cellsOf]at h;obtain⟨rfl,rfl⟩:=h;exact⟨none,0,[],rfl,Nat.le_refl _,by decide,.nil,by simp,fun _=>rfl,fun h=>by simp at h⟩
 |fnull a cap hm =>
   simp[cellsOf]at h;obtain⟨rfl,rfl⟩:=h;exact⟨a,cap,[],rfl,by omega,hm,.nil,by simp,fun _=>rfl,fun h=>by simp at h⟩
 |fsl b o n' cap ps f hc hm hF hh =>
   simp only[cellsOf]at h;split at h
   ·rename_i hl;simp only[Sj,Pj]at h;obtain⟨rfl,rfl⟩:=h;refine⟨_,cap,(List.range ps.length).map f,rfl,hc,hm,⟨by simp,?_⟩,by simpa using hl,fun e=>by simp at e,fun _=>⟨b,o,rfl,?_⟩⟩
    ·intro i v p hv hp;simp only[List.getElem?_map,Option.map_eq_some_iff]at hv;obtain⟨j,hj,rfl⟩:=hv;have e:j=i:=(by have:=(List.getElem?_eq_some_iff.1 hj).2;simpa using this.symm);subst e;exact(hh j p hp).toV
    ·intro i v hv;simp only[List.getElem?_map,Option.map_eq_some_iff]at hv;obtain⟨j,hj,rfl⟩:=hv;have e:j=i:=(by have:=(List.getElem?_eq_some_iff.1 hj).2;simpa using this.symm);have hi:i<ps.length:=(by have:=(List.getElem?_eq_some_iff.1 hj).1;simpa using this);subst e;exact hs.frz _ _ _ (hF j hi)
   ·simp at h
 |rsl k z off n' blk size cap hB hc hm hz hz0 =>
   simp only[cellsOf]at h;split at h
   ·simp at h
   ·rename_i hzz;have hzz:z=sz:=(by simpa using hzz);subst hzz;split at h
    ·rename_i cs0 fz hg;simp only[Option.map_eq_some_iff,Pj]at h;obtain⟨l,hl,rfl,rfl⟩:=h;unfold cut? at hl;split at hl
     ·rename_i hle;simp only[Sj]at hl;subst hl;obtain⟨cur,h1,h2,h3,h4⟩:=hs.get_cell hg hB;refine⟨_,cap,((cur.take cs0.length).drop off).take (n' * z),rfl,hc,hm,(h3.drop off).take _,by simp;omega,fun e=>by simp at e,fun _=>⟨blk,off,rfl,?_⟩⟩;intro j v hv;rw[List.getElem?_take]at hv;split at hv
      ·rw[List.getElem?_drop,List.getElem?_take]at hv;split at hv
       ·rw[(h4 (off+j) (by omega)).1];simp[List.getD,hv]
       ·simp at hv
      ·simp at hv
     ·simp at hl
    ·simp at h
 |_=>simp[cellsOf]at h
theorem Ndq:∀ {cs:List PV}{l:List UInt8}{vs:List Value},bytesOf? cs=some l→CRel G vs cs→vs=NaP l
 |[],l,vs,h,hc=>by
   simp[bytesOf?]at h;subst h;have:=hc.1;simp at this;subst this;rfl
 |.i .u8 n::r,l,vs,h,hc=>by
   simp only[bytesOf?]at h;split at h
   ·rename_i hn;simp only[Option.map_eq_some_iff]at h;obtain⟨m,hm,rfl⟩:=h
    match vs,hc with
    |v::vs,hc =>
      obtain⟨h1,h2⟩:=hc.uncons;have:=Ndq hm h2;subst this;cases h1;simp only[NaP,List.map_cons]
      congr 2
      rw[UInt8.toNat_ofNat'];omega
    |[],hc=>have:=hc.1;simp at this
   ·simp at h
theorem NpH(hs:Sim G st w base){src dst e:TypeId}(h1:P.underlying src=some (.slice e))(he:P.underlying e=some (.int .u8))(h2:P.underlying dst=some .string){v:Value}{p:PV}(hv:VRel G v p){n:Nat}{cs:List PV}(hc:cellsOf st 1 p=some (n,cs)){l:List UInt8}(hl:bytesOf? cs=some l) :
 OpOK P base N G st w (do pure (.value (←convert src dst v))) (.s l) st:=by
 obtain⟨a,cap,vs,rfl,g1,g2,g3,g4,g5,g6⟩:=Nds hs hv hc;have hvs:=Ndq hl g3;subst hvs;have hn:l.length=n:=by simpa using g4
 subst hn;refine OpOK.same hs ?_ (.s l);cases a with
 |none =>
   have h0:=g5 rfl;have:l=[]:=List.eq_nil_of_length_eq_zero h0;subst this;simp[convert,run_underlying h1,run_underlying h2,run_underlying he,Conv.bytesToString];rfl
 |some ad =>
   have:=run_convert_bytes_back (P:=P) w src dst e ad cap l h1 he h2 (by
    intro j hj;obtain⟨b,o,rfl2,hr⟩:=g6 (by omega);simp only[Sj]at rfl2;subst rfl2;rw[Addr.add_mid];exact hr j _ (by simp[NaP,hj]))
   simp[this]
theorem Noj(hs:Sim G st w base){src e:TypeId}(h1:P.underlying src=some (.slice e))(he:P.underlying e=some (.int .u8)){v:Value}{k z off n:Nat}(hv:VRel G v (.rsl k z off n)){cs:List PV}{fz:Bool}(hg:st.get k=some (.cells cs fz)) :
 OpOK P base N G st w (do pure (.value (←convert src src v))) (.rsl k z off n) st:=by
 cases hv with
 |rsl _ _ _ _ blk size cap hB hc hm hz hz0 =>
   obtain⟨cur,ty,m,g1,g2,g3,g4,g5⟩:=hs.cells k cs fz blk size hg hB;have hlt:blk<w.heap.size:=(Array.getElem?_eq_some_iff.1 g1).1;have hb:w.heap[blk]=.cells cur ty m:=(by simpa[Array.getElem?_eq_getElem hlt]using g1);have hsh:w.shape? blk=some (ty,cur.size):=(by simp[World.shape?,g1]);have hfr:(w.freeze ⟨blk,cur.size,none⟩ 1).heap[blk]? = some (.cells cur ty (if m.1==m.2 then(cur.size,cur.size+1)else(min m.1 cur.size,max m.2 (cur.size+1)))):=by
    show(if(1:Nat)=0 then w else _).heap[blk]? = _;rw[if_neg (by decide)];show(w.heap.modify blk _)[blk]? = _;rw[Array.getElem?_eq_getElem (by simpa using hlt),Array.getElem_modify_self,hb]
   have hot:∀ j,j≠blk→(w.freeze ⟨blk,cur.size,none⟩ 1).heap[j]? = w.heap[j]?:=by
    intro j hj;show(if(1:Nat)=0 then w else _).heap[j]? = _;rw[if_neg (by decide)];show(w.heap.modify blk _)[j]? = _;by_cases hjl:j<w.heap.size
    ·rw[Array.getElem?_eq_getElem (by simpa using hjl),Array.getElem_modify_of_ne (by omega),Array.getElem?_eq_getElem hjl]
    ·rw[Array.getElem?_eq_none (by simpa using hjl),Array.getElem?_eq_none (by omega)]
   have hsz:(w.freeze ⟨blk,cur.size,none⟩ 1).heap.size=w.heap.size:=by
    show(if(1:Nat)=0 then w else _).heap.size=_;rw[if_neg (by decide)];simp
   have hrun:(convert src src (.slice (some ⟨blk,off,none⟩) n cap)).run P w=.ok (.slice (some ⟨blk,off,none⟩) n cap) (w.freeze ⟨blk,cur.size,none⟩ 1):=by
    simp[convert,run_underlying h1,run_underlying he,markStringish,hsh]
   have hcell:∀ b o,(w.freeze ⟨blk,cur.size,none⟩ 1).cell? ⟨b,o,none⟩=w.cell? ⟨b,o,none⟩:=by
    intro b o;by_cases e:b=blk
    ·subst e;simp only[World.cell?,hfr,g1]
    ·exact World.cell?_of_block (hot b e)
   refine⟨_,_,G,by simp[hrun];rfl,.inl ⟨_,rfl,.rsl k z off n blk size cap hB hc hm hz hz0⟩,?_⟩;refine⟨.refl G,fun _ _ h=>.inl h,?_,rfl,rfl,rfl,by omega,?_,fun k x a b=>.inr ⟨k,x,a,b,rfl⟩,fun _ _ _ h=>.inl h,fun _ h=>.inl h⟩
   ·refine⟨by rw[hsz];exact hs.bas,fun b o u hu=>by rw[hcell];exact hs.frz b o u hu,?_,hs.frzd,hs.free,hs.inj,fun k x a b=>by rw[hsz];exact hs.low k x a b,fun k' es b s hg' hB'=>by
     obtain⟨obj,q1,q2⟩:=hs.mps k' es b s hg' hB';by_cases e:b=blk
     ·subst e;rw[g1]at q1;simp only[Sj]at q1;subst q1;refine⟨_,hfr,?_⟩;cases es with
      |cells _ _=>trivial
      |map es=>obtain⟨_,_,e,_⟩:=q2;simp at e
      |iter l p=>simp[HObj]at q2
      |bld T =>
        have:=hs.inj k' k (b,s) (b,size) (by rw[hg'];rfl) (by rw[hg];rfl) hB' hB rfl;subst this;rw[hg]at hg';cases hg'
      |bytes T l =>
        have:=hs.inj k' k (b,s) (b,size) (by rw[hg'];rfl) (by rw[hg];rfl) hB' hB rfl;subst this;rw[hg]at hg';cases hg'
     ·exact⟨obj,by rw[hot b e];exact q1,q2⟩⟩
    intro k' cs' z' b s hg' hB';obtain⟨c0,t0,m0,q1,q2,q3,q4,q5⟩:=hs.cells k' cs' z' b s hg' hB';by_cases e:b=blk
    ·subst e;rw[g1]at q1;simp only[Sj,Obj.cells.injEq]at q1;obtain⟨rfl,rfl,rfl⟩:=q1;refine⟨cur,ty,_,hfr,?_,q3,q4,q5⟩;right;split
     ·exact Nat.le_refl _
     ·rcases g2 with rfl|g2
      ·simp at *
      ·simp;omega
    ·exact⟨c0,t0,m0,by rw[hot b e];exact q1,q2,q3,q4,q5⟩
   ·intro j hj hno;exact hot j (fun e=>hno k (blk,size) (by rw[hg];rfl) hB e.symm)
end
end Go.Pe
