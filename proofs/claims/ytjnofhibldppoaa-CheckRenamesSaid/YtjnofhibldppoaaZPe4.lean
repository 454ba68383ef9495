/-
 The interpreter of plain data, quick for the kernel; a logic for it; the library's functions; memory. No condition; nothing of the program.
-/
import Derived.Test.YtjnofhibldppoaaZPe3
import Derived.Laws.BitsLemmas
import Derived.Laws.Bits64
import Derived.Lib.Bytealg
import Derived.Lib.IndexMore
set_option linter.unusedVariables false
set_option linter.unusedSimpArgs false
namespace Go.Pe
open Go
noncomputable section
abbrev FArm:=Cfg→CallE→(Arg→PV)→St→Nat→Option (PV×St)
def Nsb(x:Arg):FArm:=fun cfg callE ρ st key=>some (ρ x,st)
def Npj(c a b:Arg):FArm:=fun cfg callE ρ st key=>match ρ c with
    |.b x=>some (if x then ρ a else ρ b,st)
    |_=>none
def Nnx(zero:List PV):FArm:=fun cfg callE ρ st key=>some (.ptr key 0,st.put key (some (.cells zero false)))
def Nq4(x:Arg):FArm:=fun cfg callE ρ st key=>if(ρ x).cells.all PV.one then some (.ptr key 0,st.put key (some (.cells (ρ x).cells false)))else none
def Nnz(zero:List PV)(parts:List (Nat×Nat×Arg)):FArm:=fun cfg callE ρ st key=>(Nbi zero (parts.map fun p=>(p.1,p.2.1,ρ p.2.2))).map fun cs=>(.agg cs,st)
def NlD(len sz:Nat)(zero:List PV)(parts:List (Nat×Nat×Arg)):FArm:=fun cfg callE ρ st key=>match Nbi zero (parts.map fun p=>(p.1,p.2.1,ρ p.2.2))with
    |some cs=>if 0<sz∧cs.length=len * sz then some (.rsl key sz 0 len,st.put key (some (.cells cs false)))else none
    |none=>none
def Npe(agg:Bool)(n:Nat)(a:Arg):FArm:=fun cfg callE ρ st key=>match NaX st n (ρ a)with
    |some cs=>(Naa agg cs).map (·,st)
    |none=>none
def NnN(n:Nat)(a x:Arg):FArm:=fun cfg callE ρ st key=>(Na1 st n (ρ a) (ρ x)).map (.tup [],·)
def NnJ(x:Arg):FArm:=fun cfg callE ρ st key=>match ρ x with
    |.ptr k o=>some (.ptr k o,st)
    |.fptr cs=>some (.fptr cs,st)
    |_=>none
def Nq3(op:BinOp)(x y:Arg):FArm:=fun cfg callE ρ st key=>(Nae op (ρ x) (ρ y)).map (·,st)
def Nq5(neg:Bool)(x y:Arg):FArm:=fun cfg callE ρ st key=>(NjN neg (ρ x) (ρ y)).map (·,st)
def Nq6(kd:Nat)(neg:Bool)(x y:Arg):FArm:=fun cfg callE ρ st key=>(NoZ kd neg (ρ x) (ρ y)).map (·,st)
def Nq8(neg:Bool)(fs:List (Nat×Nat))(x y:Arg):FArm:=fun cfg callE ρ st key=>match ρ x,ρ y with
    |.agg ps,.agg qs=>(Nhg fs ps qs).map fun b=>(.b (b != neg),st)
    |_,_=>none
def NnI :FArm:=fun cfg callE ρ st key=>some (.mp key,st.put key (some (.map [])))
def NlE(ck:Nat)(ok:Bool)(zero:PV)(m k:Arg):FArm:=fun cfg callE ρ st key=>match ρ m with
    |.nmp=>if ck=3 then none else some (if ok then .tup [zero,.b false]else zero,st)
    |.mp j=>match st.get j with
      |some (.map es)=>(Nbz ck (ρ k) es).map fun r=>(if ok then .tup [r.getD zero,.b r.isSome]else r.getD zero,st)
      |_=>none
    |_=>none
def NnG(ck:Nat)(m k v:Arg):FArm:=fun cfg callE ρ st key=>match ρ m with
    |.mp j=>match st.get j with
      |some (.map es)=>(Nbu ck (ρ k) (ρ v) es).map fun es'=>(.tup [],st.put j (some (.map es')))
      |_=>none
    |_=>none
def Npi(m:Arg):FArm:=fun cfg callE ρ st key=>match ρ m with
    |.nmp=>some (.i .i64 0,st)
    |.mp j=>match st.get j with
      |some (.map es)=>some (.i .i64 es.length,st)
      |_=>none
    |_=>none
def NlG(x:Arg):FArm:=fun cfg callE ρ st key=>match ρ x with
    |.s l=>some (.ptr key 0,st.put key (some (.iter l 0)))
    |_=>none
def NnM(x:Arg):FArm:=fun cfg callE ρ st key=>match ρ x with
    |.ptr k 0=>match st.get k with
      |some (.iter l p)=>if p<l.length then some (.tup [.b true,.i .i64 p,.i .i32 (Utf8.decode ⟨l.toArray⟩ p).1],st.put k (some (.iter l (p+(Utf8.decode ⟨l.toArray⟩ p).2))))else some (.tup [.b false],st)
      |_=>none
    |_=>none
def Npf(x:Arg):FArm:=fun cfg callE ρ st key=>match ρ x with
    |.rsl k z off n=>match st.get k with
      |some (.cells _ _)=>some (.rsl k z off n,st)
      |_=>none
    |_=>none
def Nq2 :FArm:=fun cfg callE ρ st key=>none
def Nsc(op:UnOp)(x:Arg):FArm:=fun cfg callE ρ st key=>(unP op (ρ x)).map (·,st)
def Npc(c:Cv)(x:Arg):FArm:=fun cfg callE ρ st key=>match c,ρ x with
    |.int k,.i _ n=>some (.i k (k.wrap n),st)
    |.same,.s l=>some (.s l,st)
    |.s2b,.s l=>if l.length≤maxBytes then some (.rsl key 1 0 l.length,st.put key (some (.cells (Nbs l) false)))else none
    |.b2s,v=>match cellsOf st 1 v with
      |some (_,cs)=>(bytesOf? cs).map fun l=>(.s l,st)
      |none=>none
    |.up,.ptr k 0=>match st.get k with
      |some (.bld _)=>some (.ptr k 0,st)
      |_=>none
    |.down Ts,.ptr k 0=>match st.get k with
      |some (.bld T)=>if T∈Ts then some (.ptr k 0,st)else none
      |_=>none
    |_,_=>none
def Npg(f:FuncId)(cap:List Arg):FArm:=fun cfg callE ρ st key=>some (.fn f (cap.map ρ),st)
def NnH(f:FuncId)(pre:List Arg):FArm:=fun cfg callE ρ st key=>some (.bfn f (pre.map ρ),st)
def NjU(sz bytes:Nat)(zero:List PV)(l:Arg):FArm:=fun cfg callE ρ st key=>match ρ l with
    |.i _ n=>if 0≤n∧n.toNat * bytes≤maxBytes∧0<bytes∧zero.length=sz∧0<sz then some (.rsl key sz 0 n.toNat,st.put key (some (.cells (List.flatten (List.replicate n.toNat zero)) false)))else none
    |_=>none
def NnL(arr:Option Nat)(sz:Nat)(x:Arg)(lo hi:Option Arg):FArm:=fun cfg callE ρ st key=>match arr with
 |some N=>match ρ x with
  |.ptr k off=>match Na4 (hi.map ρ) N N,st.get k with
    |some h,some (.cells cs _)=>match Na4 (lo.map ρ) 0 h with
      |some l=>if l<N∧0<sz∧off+N * sz≤cs.length∧N<4294967296 then some (.rsl k sz (off+l * sz) (h - l),st)else none
      |none=>none
    |_,_=>none
  |_=>none
 |none=>(NdL sz (lo.map ρ) (hi.map ρ) (ρ x)).map (·,st)
def NlH(x:Arg)(lo hi:Option Arg):FArm:=fun cfg callE ρ st key=>match ρ x with
    |.s l=>match Na4 (hi.map ρ) l.length l.length with
      |some h=>match Na4 (lo.map ρ) 0 h with
        |some k=>some (.s ((l.drop k).take (h - k)),st)
        |none=>none
      |none=>none
    |_=>none
def Nhr(off:Nat)(x:Arg):FArm:=fun cfg callE ρ st key=>match ρ x with
    |.ptr k o=>some (.ptr k (o+off),st)
    |.fptr cs=>some (.fptr (cs.drop off),st)
    |_=>none
def NnE(agg:Bool)(off n:Nat)(x:Arg):FArm:=fun cfg callE ρ st key=>match ρ x with
    |.agg cs=>match cut? cs off n with
      |some l=>(Naa agg l).map (·,st)
      |none=>none
    |_=>none
def Nhs(arr:Option Nat)(sz:Nat)(x i:Arg):FArm:=fun cfg callE ρ st key=>match arr with
 |some N=>match ρ x,ρ i with
  |.ptr k o,.i _ j=>if 0≤j∧j<N then some (.ptr k (o+j.toNat * sz),st)else none
  |.fptr cs,.i _ j=>if 0≤j∧j<N then some (.fptr (cs.drop (j.toNat * sz)),st)else none
  |_,_=>none
 |none=>match ρ x,ρ i with
  |.rsl k z off n,.i _ j=>if z=sz∧0≤j∧j<n then some (.ptr k (off+j.toNat * sz),st)else none
  |.fsl n cs,.i _ j=>if cs.length=n * sz∧0<sz∧0≤j∧j<n then some (.fptr (cs.drop (j.toNat * sz)),st)else none
  |_,_=>none
def NnF(len:Nat)(agg:Bool)(n:Nat)(x i:Arg):FArm:=fun cfg callE ρ st key=>match ρ x,ρ i with
    |.agg cs,.i _ j=>if 0≤j∧j<len then match cut? cs (j.toNat * n) n with
     |some l=>(Naa agg l).map (·,st)
     |none=>none
      else none
    |_,_=>none
def NlF(x i:Arg):FArm:=fun cfg callE ρ st key=>match ρ x,ρ i with
    |.s l,.i _ j=>if 0≤j then(l[j.toNat]?).map fun c=>(.i .u8 c.toNat,st)else none
    |_,_=>none
def NjT(i:Nat)(x:Arg):FArm:=fun cfg callE ρ st key=>match ρ x with
    |.tup vs=>(vs[i]?).map (·,st)
    |_=>none
def Npa(f:FuncId)(own:Bool)(args:List Arg):FArm:=fun cfg callE ρ st key=>Nam (Nak cfg callE f) own st key (args.map ρ)
def NnA(f:FuncId)(args:List Arg):FArm:=fun cfg callE ρ st key=>match cfg.ext f with
    |some _=>none
    |none=>callE f (args.map ρ) st
def NnB(f:FuncId)(args:List Arg):FArm:=fun cfg callE ρ st key=>match Nbk st (args.map ρ)with
    |some l=>match Nak cfg callE f l with
      |some r=>if r.closedB then NaE st key r else none
      |none=>none
    |none=>none
def NnC(f:Arg)(args:List Arg):FArm:=fun cfg callE ρ st key=>match ρ f with
    |.fn g cap=>match cfg.ext g with
      |some _=>none
      |none=>callE g (args.map ρ++cap) st
    |.bfn g pre=>match cfg.ext g with
      |some _=>none
      |none=>callE g (pre++args.map ρ) st
    |_=>none
def NlB(sz bytes:Nat)(s x:Arg):FArm:=fun cfg callE ρ st key=>match cellsOf st sz (ρ x)with
    |some (m,news)=>if 0<sz∧0<bytes∧news.all PV.one then Nbj st key sz bytes m news (ρ s)else none
    |none=>none
def NlC(s x:Arg):FArm:=fun cfg callE ρ st key=>match ρ x with
    |.s l=>Nbj st key 1 1 l.length (Nbs l) (ρ s)
    |_=>none
def Nq9(x:Arg):FArm:=fun cfg callE ρ st key=>(Nd7 (ρ x)).map (·,st)
def Npk(x:Arg):FArm:=fun cfg callE ρ st key=>match ρ x with
    |.s l=>some (.i .i64 l.length,st)
    |_=>none
def No7(n:Nat):FArm:=fun cfg callE ρ st key=>some (.i .i64 n,st)
def Npd(sz:Nat)(d s:Arg):FArm:=fun cfg callE ρ st key=>match cellsOf st sz (ρ s)with
    |some (m,cs)=>NdA st sz m cs (ρ d)
    |none=>none
def Nrb(x:Arg)(ys:List Arg):FArm:=fun cfg callE ρ st key=>(Nk5 (ρ x) (ys.map ρ)).map (·,st)
def Nra(x:Arg)(ys:List Arg):FArm:=fun cfg callE ρ st key=>(NlY (ρ x) (ys.map ρ)).map (·,st)
def NlA(T:TypeId):FArm:=fun cfg callE ρ st key=>some (.ptr key 0,st.put key (some (.bld T)))
def Nq7(neg:Bool)(x y:Arg):FArm:=fun cfg callE ρ st key=>match ρ x,ρ y with
    |.ptr k o,.ptr l p=>if k=l∧o=p then some (.b (!neg),st)else none
    |_,_=>none
def No8(T:TypeId)(s x:Arg):FArm:=fun cfg callE ρ st key=>match cellsOf st 1 (ρ x)with
    |some (_,cs)=>match bytesOf? cs with
      |some l=>Nec st key T l (ρ s)
      |none=>none
    |none=>none
def Nny(T:TypeId)(s x:Arg):FArm:=fun cfg callE ρ st key=>match ρ x with
    |.s l=>Nec st key T l (ρ s)
    |_=>none
def NnK(x:Arg):FArm:=fun cfg callE ρ st key=>match ρ x with
    |.nsl=>some (.nptr,st)
    |.rsl k 1 0 (_+1)=>some (.ptr k 0,st)
    |_=>none
def Npl(T:TypeId)(p n:Arg):FArm:=fun cfg callE ρ st key=>match ρ p,ρ n with
    |.nptr,.i .i64 m=>if m=0 then some (.s [],st)else none
    |.ptr k 0,.i .i64 m=>match st.get k with
      |some (.bytes T' l)=>if T'=T∧m=l.length∧0<l.length∧l.length≤maxBytes then some (.s l,st)else none
      |_=>none
    |_,_=>none
def No9(T:TypeId)(x:Arg):FArm:=fun cfg callE ρ st key=>if Neq (ρ x)then some (.ptr key 0,st.put key (some (.bld T)))else none
def Npb(x:Arg):FArm:=fun cfg callE ρ st key=>match ρ x with
    |.nsl=>some (.i .i64 0,st)
    |_=>none
def Nph(T:TypeId)(x:Arg):FArm:=fun cfg callE ρ st key=>match ρ x with
    |.i .i64 n=>if 0≤n∧n.toNat≤maxBytes then some (.rsl key 1 0 n.toNat,st.put key (some (.bytes T [])))else none
    |_=>none
def NnD(d s:Arg):FArm:=fun cfg callE ρ st key=>match ρ d,ρ s with
    |.rsl ..,.nsl=>some (.i .i64 0,st)
    |_,_=>none
def fOp(m:MOp):FArm:=MOp.rec (motive:=fun _=>FArm) Nsb Npj Nnx Nq4 Nnz NlD Npe NnN NnJ Nq3 Nq5 Nq6 Nq8 NnI NlE NnG Npi NlG NnM Npf Nq2 Nsc Npc Npg NnH NjU NnL NlH Nhr NnE Nhs NnF NlF NjT Npa NnA NnB NnC NlB NlC Nq9 Npk No7 Npd Nrb Nra NlA Nq7 No8 Nny NnK Npl No9 Npb Nph NnD m
theorem No5(m:MOp)(cfg:Cfg)(callE:CallE)(ρ:Arg→PV)(st:St)(key:Nat):fOp m cfg callE ρ st key=Nap cfg callE ρ st key m:=by
 cases m with
 |slice arr sz x lo hi=>cases arr<;>rfl
 |indexAddr arr sz x i=>cases arr<;>rfl
 |_=>rfl
def rdF(env loc:Env)(a:Arg):PV:=Arg.rec (motive:=fun _=>PV) (fun t=>Env.get env t) (fun t=>Env.get loc t) (fun v=>v) a
theorem NkI(env loc:Env)(st:St):rdF env loc=Loc.rd { env,loc,st }:=by
 funext a;cases a<;>rfl
def NqL(l:List MOper):Nat:=List.rec (motive:=fun _=>Nat) 0 (fun _ _ ih=>Nat.add ih 1) l
theorem NjR:∀ l:List MOper,NqL l=l.length
 |[]=>rfl
 |_::l=>by show Nat.add (NqL l) 1=_;rw[NjR l];rfl
abbrev FOps:=Nat→Env→Env→St→Option Loc
def NqM(ih:FOps)(dst:MDst)(key:Nat)(env loc:Env)(v:PV)(st:St):Option Loc :=
 MDst.rec (motive:=fun _=>Option Loc) (ih (Nat.add key 8) env loc st) (fun t=>ih (Nat.add key 8) (Env.put env t v) loc st) (fun t=>ih (Nat.add key 8) env (Env.put loc t v) st) dst
def NiY(cfg:Cfg)(callE:CallE)(dst:MDst)(op:MOp)(ih:FOps)(key:Nat)(env loc:Env)(st:St):Option Loc :=
 Option.rec (motive:=fun _=>Option Loc) none (fun p=>Prod.rec (motive:=fun _=>Option Loc) (fun v st'=>NqM ih dst key env loc v st') p) (fOp op cfg callE (rdF env loc) st key)
def NgG(v:PV)(want:Bool):Option Bool:=match v with
 |.b y=>some (y==want)
 |.tup []=>some false
 |_=>none
def Nsa(cfg:Cfg)(callE:CallE)(o:MOper)(ih:FOps)(key:Nat)(env loc:Env)(st:St):Option Loc :=
 MOper.rec (motive:=fun _=>Option Loc) (fun dst op guard=>Option.rec (motive:=fun _=>Option Loc) (NiY cfg callE dst op ih key env loc st)
  (fun g=>Prod.rec (motive:=fun _=>Option Loc) (fun x want=>Option.rec (motive:=fun _=>Option Loc) none (fun b=>Bool.rec (motive:=fun _=>Option Loc) (NqM ih dst key env loc (.tup []) st) (NiY cfg callE dst op ih key env loc st) b) (NgG (rdF env loc x) want)) g) guard) o
def NoD(cfg:Cfg)(callE:CallE)(l:List MOper):FOps:=List.rec (motive:=fun _=>FOps) (fun _ env loc st=>some { env,loc,st }) (fun o _ ih=>Nsa cfg callE o ih) l
theorem NjS{cfg:Cfg}{callE:CallE}{ih:FOps}{l:List MOper}(h:∀ key env loc st,ih key env loc st=Na5 cfg callE l key { env,loc,st })(dst:MDst)(key:Nat)(env loc:Env)(v:PV)(st:St):NqM ih dst key env loc v st=Na5 cfg callE l (key+8) (({ env,loc,st }:Loc).wr dst v):=by
 cases dst<;>exact h _ _ _ _
theorem Nic{cfg:Cfg}{callE:CallE}{ih:FOps}{l:List MOper}(h:∀ key env loc st,ih key env loc st=Na5 cfg callE l key { env,loc,st })(dst:MDst)(op:MOp)(key:Nat)(env loc:Env)(st:St):NiY cfg callE dst op ih key env loc st=match Nap cfg callE (Loc.rd { env,loc,st }) st key op with
 |some (v,st')=>Na5 cfg callE l (key+8) (({ env,loc,st:=st' }:Loc).wr dst v)
 |none=>none:=by
 unfold NiY;rw[No5,NkI env loc st];cases Nap cfg callE (Loc.rd { env,loc,st }) st key op with
 |none=>rfl
 |some p=>exact NjS h dst key env loc p.1 p.2
theorem NfZ(cfg:Cfg)(callE:CallE):∀ (l:List MOper) (key:Nat) (env loc:Env) (st:St),NoD cfg callE l key env loc st=Na5 cfg callE l key { env,loc,st }
 |[],_,_,_,_=>rfl
 |⟨dst,op,none⟩::l,key,env,loc,st=>by
   show NiY cfg callE dst op (NoD cfg callE l) key env loc st=_;rw[Nic (NfZ cfg callE l)];rfl
 |⟨dst,op,some (x,want)⟩::l,key,env,loc,st=>by
   show Option.rec (motive:=fun _=>Option Loc) none (fun b=>Bool.rec (motive:=fun _=>Option Loc) (NqM (NoD cfg callE l) dst key env loc (.tup []) st) (NiY cfg callE dst op (NoD cfg callE l) key env loc st) b) (NgG (rdF env loc x) want)=_;rw[Nic (NfZ cfg callE l),NjS (NfZ cfg callE l),NkI env loc st];simp only[Na5];have e:NaA { env,loc,st } (some (x,want))=NgG (Loc.rd { env,loc,st } x) want:=by
    unfold NaA NgG;rfl
   rw[e];cases NgG (Loc.rd { env,loc,st } x) want with
   |none=>rfl
   |some b=>cases b<;>rfl
abbrev FCode:=Cfg→CallE→Nat→Now→Option (MExit×Now)
def No6(v:PV):Option Bool:=match v with
 |.b y=>some y
 |_=>none
def NoU:FCode:=fun _ _ _ c=>some (.nrm,c)
def Nlg(ops:List MOper):FCode:=fun cfg callE _ c=>Now.rec (motive:=fun _=>Option (MExit×Now)) (fun env st=>St.rec (motive:=fun _=>Option (MExit×Now)) (fun sto cnt =>
 Option.rec (motive:=fun _=>Option (MExit×Now)) none (fun l=>Loc.rec (motive:=fun _=>Option (MExit×Now)) (fun env' _ st'=>some (.nrm,{ env:=env',st:=st' })) l) (NoD cfg callE ops cnt env .leaf { sto,cnt:=Nat.add cnt (Nat.mul 8 (NqL ops)) })) st) c
def Nnh(ops:List MOper)(masks:List Nat)(sw:Option (Nat×Nat)):FCode:=fun cfg callE _ c=>(Ncx cfg callE ops masks sw c).map (.nrm,·)
def Nnj(a b:MCode)(ia ib:FCode):FCode:=fun cfg callE fuel c=>Option.rec (motive:=fun _=>Option (MExit×Now)) none (fun r=>Prod.rec (motive:=fun _=>Option (MExit×Now)) (fun e c'=>MExit.rec (motive:=fun _=>Option (MExit×Now)) (ib cfg callE fuel c') (fun id=>some (.ex id,c')) (some (.ret,c')) e) r) (ia cfg callE fuel c)
def Njz(x:Arg)(a b:MCode)(ia ib:FCode):FCode:=fun cfg callE fuel c=>Option.rec (motive:=fun _=>Option (MExit×Now)) none (fun y=>Bool.rec (motive:=fun _=>Option (MExit×Now)) (ib cfg callE fuel c) (ia cfg callE fuel c) y) (No6 (rdF c.env .leaf x))
def Nhk(id:Nat)(a:MCode)(ia:FCode):FCode:=fun cfg callE fuel c=>Option.rec (motive:=fun _=>Option (MExit×Now)) none (fun r=>Prod.rec (motive:=fun _=>Option (MExit×Now)) (fun e c'=>MExit.rec (motive:=fun _=>Option (MExit×Now)) (some (.nrm,c')) (fun j=>Bool.rec (motive:=fun _=>Option (MExit×Now)) (some (.ex j,c')) (some (.nrm,c')) (Nat.beq j id)) (some (.ret,c')) e) r) (ia cfg callE fuel c)
def Nlz(body:Now→Option (MExit×Now))(n:Nat):Now→Option (MExit×Now):=Nat.rec (motive:=fun _=>Now→Option (MExit×Now)) (fun _=>none) (fun _ ih c=>Option.rec (motive:=fun _=>Option (MExit×Now)) none (fun r=>Prod.rec (motive:=fun _=>Option (MExit×Now)) (fun e c'=>MExit.rec (motive:=fun _=>Option (MExit×Now)) (ih c') (fun id=>some (.ex id,c')) (some (.ret,c')) e) r) (body c)) n
def NoT(a:MCode)(ia:FCode):FCode:=fun cfg callE fuel c=>Nlz (ia cfg callE fuel) fuel c
def NoS(id:Nat):FCode:=fun _ _ _ c=>some (.ex id,c)
def Nni(a:MCode)(ia:FCode):FCode:=ia
def NqW:FCode:=fun _ _ _ c=>some (.ret,c)
def NfY(m:MCode):FCode:=MCode.rec (motive:=fun _=>FCode) NoU Nlg Nnh Nnj Njz Nhk NoT NoS Nni NqW m
theorem Nib{b b':Now→Option (MExit×Now)}(h:∀ c,b c=b' c):∀ (n:Nat) (c:Now),Nlz b n c=Ncf b' n c
 |0,_=>rfl
 |n+1,c=>by
   show Option.rec (motive:=fun _=>Option (MExit×Now)) none (fun r=>Prod.rec (motive:=fun _=>Option (MExit×Now)) (fun e c'=>MExit.rec (motive:=fun _=>Option (MExit×Now)) (Nlz b n c') (fun id=>some (.ex id,c')) (some (.ret,c')) e) r) (b c)=_;simp only[Ncf];rw[h c];cases b' c with
   |none=>rfl
   |some r =>
     obtain⟨e,c'⟩:=r;cases e with
     |nrm=>exact Nib h n c'
     |ex id=>rfl
     |ret=>rfl
theorem loopE_nrm{b:Now→Option (MExit×Now)}:∀ (n:Nat) (c c':Now),Ncf b n c≠some (.nrm,c')
 |0,_,_=>by simp[Ncf]
 |n+1,c,c'=>by
   simp only[Ncf];split
   ·exact loopE_nrm n _ _
   ·rename_i e c1 hne _;intro h;simp only[Sj,Pj]at h;obtain⟨rfl,_⟩:=h;exact hne rfl
   ·simp
theorem Nb9(cfg:Cfg)(callE:CallE)(fuel:Nat):∀ (m:MCode) (c:Now),NfY m cfg callE fuel c=Nao cfg callE fuel m c
 |.skip,_=>rfl
 |.region ops,c=>by
   obtain⟨env,sto,cnt⟩:=c;show Option.rec (motive:=fun _=>Option (MExit×Now)) none (fun l=>Loc.rec (motive:=fun _=>Option (MExit×Now)) (fun env' _ st'=>some (.nrm,{ env:=env',st:=st' })) l) (NoD cfg callE ops cnt env .leaf { sto,cnt:=Nat.add cnt (Nat.mul 8 (NqL ops)) })=_;rw[NfZ,NjR];simp only[Nao,Nbw];show Option.rec (motive:=fun _=>Option (MExit×Now)) none (fun l=>Loc.rec (motive:=fun _=>Option (MExit×Now)) (fun env' _ st'=>some (.nrm,{ env:=env',st:=st' })) l) (Na5 cfg callE ops cnt { env,loc:=.leaf,st:={ sto,cnt:=cnt+8 * ops.length } })=_;cases Na5 cfg callE ops cnt { env,loc:=.leaf,st:={ sto,cnt:=cnt+8 * ops.length } }<;>rfl
 |.chain ops masks sw,c=>rfl
 |.seq a b,c=>by
   show Nnj a b (NfY a) (NfY b) cfg callE fuel c=_;unfold Nnj;simp only[Nao];rw[Nb9 cfg callE fuel a c];cases Nao cfg callE fuel a c with
   |none=>rfl
   |some r =>
     obtain⟨e,c'⟩:=r;cases e with
     |nrm=>exact Nb9 cfg callE fuel b c'
     |ex id=>rfl
     |ret=>rfl
 |.cond x a b,c=>by
   show Njz x a b (NfY a) (NfY b) cfg callE fuel c=_;unfold Njz;simp only[Nao];rw[NkI c.env .leaf c.st,Nb9 cfg callE fuel a c,Nb9 cfg callE fuel b c];cases ({ env:=c.env,loc:=.leaf,st:=c.st }:Loc).rd x with
   |b y=>cases y<;>rfl
   |_=>rfl
 |.block id a,c=>by
   show Nhk id a (NfY a) cfg callE fuel c=_;unfold Nhk;simp only[Nao];rw[Nb9 cfg callE fuel a c];cases Nao cfg callE fuel a c with
   |none=>rfl
   |some r =>
     obtain⟨e,c'⟩:=r;cases e with
     |nrm=>rfl
     |ex j =>
       show Bool.rec (motive:=fun _=>Option (MExit×Now)) (some (.ex j,c')) (some (.nrm,c')) (Nat.beq j id)=_;rw[NcX]
     |ret=>rfl
 |.loop a,c=>by
   show Nlz (NfY a cfg callE fuel) fuel c=_;rw[Nib (Nb9 cfg callE fuel a)];simp only[Nao];split
   ·rename_i h;exact absurd h (loopE_nrm _ _ _)
   ·rfl
 |.exit id,_=>rfl
 |.scope a,c=>Nb9 cfg callE fuel a c
 |.ret,_=>rfl
def NqN(c:Now)(l:List MRes):Option (PV×St):=match mapO (Nej c) l with
 |some [v]=>some (v,c.st)
 |some vs=>some (.tup vs,c.st)
 |none=>none
def Nnw(cfg:Cfg)(callE:CallE)(fuel:Nat)(m:MFunc)(args:List PV)(st:St):Option (PV×St) :=
 MFunc.rec (motive:=fun _=>Option (PV×St)) (fun body res=>Option.rec (motive:=fun _=>Option (PV×St)) none (fun r=>Prod.rec (motive:=fun _=>Option (PV×St)) (fun e c=>MExit.rec (motive:=fun _=>Option (PV×St)) (NqN c res) (fun _=>none) (NqN c res) e) r) (NfY body cfg callE fuel { env:=Naj args 0 .leaf,st })) m
theorem Nly(cfg:Cfg)(callE:CallE)(fuel:Nat)(m:MFunc)(args:List PV)(st:St):Nnw cfg callE fuel m args st=NdB cfg callE fuel m args st:=by
 obtain⟨body,res⟩:=m;show Option.rec (motive:=fun _=>Option (PV×St)) none (fun r=>Prod.rec (motive:=fun _=>Option (PV×St)) (fun e c=>MExit.rec (motive:=fun _=>Option (PV×St)) (NqN c res) (fun _=>none) (NqN c res) e) r) (NfY body cfg callE fuel { env:=Naj args 0 .leaf,st })=_;rw[Nb9];unfold NdB;simp only[];cases Nao cfg callE fuel body { env:=Naj args 0 .leaf,st } with
 |none=>rfl
 |some r =>
   obtain⟨e,c⟩:=r;cases e<;>rfl
def fFn(cfg:Cfg)(n:Nat):CallE:=Nat.rec (motive:=fun _=>CallE) (fun _ _ _=>none) (fun fuel ih f args st=>Option.rec (motive:=fun _=>Option (PV×St)) none (fun m=>Nnw cfg ih (Nat.add fuel 1) m args st) (cfg.fn f)) n
theorem NmH(cfg:Cfg):∀ n,fFn cfg n=Nay cfg n
 |0=>rfl
 |n+1=>by
   funext f args st;show Option.rec (motive:=fun _=>Option (PV×St)) none (fun m=>Nnw cfg (fFn cfg n) (Nat.add n 1) m args st) (cfg.fn f)=_;rw[NmH cfg n];show _=match cfg.fn f with
    |some m=>NdB cfg (Nay cfg n) (n+1) m args st
    |none=>none
   cases cfg.fn f with
   |none=>rfl
   |some m=>exact Nly _ _ _ _ _ _
def fvP(cfg:Cfg)(fuel:Nat)(f:FuncId)(args:List PV):Option PV:=Nak cfg (fFn cfg fuel) f args
theorem NmJ(cfg:Cfg)(fuel:Nat)(f:FuncId)(args:List PV):fvP cfg fuel f args=evP cfg fuel f args:=by
 unfold fvP evP;rw[NmH]
def NcA(f:Nat)(l:List (Nat×MFunc)):Option MFunc:=List.rec (motive:=fun _=>Option MFunc) none (fun p _ ih=>Bool.rec (motive:=fun _=>Option MFunc) ih (some p.2) (Nat.beq f p.1)) l
def NoI(P:Program)(modes:FuncId→Option Bool):List (Nat×MFunc)→Prop
 |[]=>True
 |p::r=>Naw P modes p.1=some p.2∧NoI P modes r
theorem Nik{P:Program}{modes:FuncId→Option Bool}{f:Nat}{m:MFunc}:∀ l:List (Nat×MFunc),NoI P modes l→NcA f l=some m→Naw P modes f=some m
 |[],_,h=>by simp[NcA]at h
 |p::r,ha,h=>by
   have e:Bool.rec (motive:=fun _=>Option MFunc) (NcA f r) (some p.2) (Nat.beq f p.1)=some m:=h;rw[NcX]at e;split at e
   ·rename_i hf;rw[hf,←e];exact ha.1
   ·exact Nik r ha.2 e
theorem NbN{P:Program}{Gl:Gmap}{modes:FuncId→Option Bool}{l:List (Nat×MFunc)}(hl:NoI P modes l){ext:FuncId→Option (List PV→Option PV)}(h:∀ f g,ext f=some g→Nbc P Gl f g):CfgOK P Gl { fn:=fun f=>NcA f l,ext }:=⟨h,modes,fun f m hm=>Nik l hl hm⟩
end
section
variable {cfg:Cfg}{callE:CallE}{f:FuncId}{st:St}{n fuel:Nat}{x:Now}{Q:MExit→Now→Prop}{args:List PV}{r:PV}{g:List PV→Option PV}
def WO(cfg:Cfg)(callE:CallE)(ops:List MOper)(key:Nat)(c:Loc)(Q:Loc→Prop):Prop:=∃ c',Na5 cfg callE ops key c=some c'∧Q c'
def WC(cfg:Cfg)(callE:CallE)(n:Nat)(m:MCode)(x:Now)(Q:MExit→Now→Prop):Prop:=∃ e x',Nao cfg callE n m x=some (e,x')∧Q e x'
def WV(r:Option (PV×St))(Q:PV→St→Prop):Prop:=∃ v st,r=some (v,st)∧Q v st
@[congr] theorem Zu{r r':Option (PV×St)}(h:r=r')(Q:PV→St→Prop):WV r Q=WV r' Q:=by rw[h]
@[congr] theorem Zv{ops:List MOper}{key key':Nat}{c c':Loc}(h:key=key')(h2:c=c')(Q:Loc→Prop):WO cfg callE ops key c Q=WO cfg callE ops key' c' Q:=by rw[h,h2]
@[congr] theorem Zw{m:MCode}{x':Now}(h:x=x')(Q:MExit→Now→Prop):WC cfg callE n m x Q=WC cfg callE n m x' Q:=by rw[h]
def WI(c A B:Prop):Prop:=(c→A)∧(¬ c→B)
@[congr] theorem Zt{c c':Prop}(h:c=c')(A B:Prop):WI c A B=WI c' A B:=by rw[h]
theorem Zq(A B:Prop):WI True A B↔A:=by simp[WI]
theorem Zr(A B:Prop):WI False A B↔B:=by simp[WI]
theorem Zs(c A B:Prop)[Decidable c]:(if c then A else B)↔WI c A B:=by
 by_cases h:c<;>simp[WI,h]
theorem Zx(v:PV)(st:St)(Q:PV→St→Prop):WV (some (v,st)) Q↔Q v st:=by
 constructor
 ·rintro⟨a,b,h,q⟩;simp only[Sj,Pj]at h;obtain⟨rfl,rfl⟩:=h;exact q
 ·intro q;exact⟨v,st,rfl,q⟩
theorem Zz(c:Prop)[Decidable c](r:Option (PV×St))(Q:PV→St→Prop):WV (if c then r else none) Q↔c∧WV r Q:=by
 by_cases h:c
 ·simp[h]
 ·simp[h,WV]
theorem Ze(cfg:Cfg)(callE:CallE)(key:Nat)(c:Loc)(Q:Loc→Prop):WO cfg callE [] key c Q↔Q c:=by
 constructor
 ·rintro⟨c',h,q⟩;simp only[Na5,Sj]at h;subst h;exact q
 ·intro q;exact⟨c,rfl,q⟩
theorem Zb(cfg:Cfg)(callE:CallE)(d:MDst)(op:MOp)(l:List MOper)(key:Nat)(env loc:Env)(st:St)(Q:Loc→Prop) :
 WO cfg callE (⟨d,op,none⟩::l) key ⟨env,loc,st⟩ Q↔WV (Nap cfg callE (Loc.rd ⟨env,loc,st⟩) st key op) fun v st'=>WO cfg callE l (key+8) ((⟨env,loc,st'⟩:Loc).wr d v) Q:=by
 unfold WO WV;simp only[Na5,NaA];cases Nap cfg callE (Loc.rd ⟨env,loc,st⟩) st key op with
 |none=>simp
 |some p =>
   obtain⟨v,st'⟩:=p;constructor
   ·rintro⟨c',h,q⟩;exact⟨v,st',rfl,c',h,q⟩
   ·rintro⟨a,b,h,c',h2,q⟩;simp only[Sj,Pj]at h;obtain⟨rfl,rfl⟩:=h;exact⟨c',h2,q⟩
theorem Zd(cfg:Cfg)(callE:CallE)(d:MDst)(op:MOp)(x:Arg)(w y:Bool)(l:List MOper)(key:Nat)(env loc:Env)(st:St)(Q:Loc→Prop)(h:Loc.rd ⟨env,loc,st⟩ x=.b y) :
 WO cfg callE (⟨d,op,some (x,w)⟩::l) key ⟨env,loc,st⟩ Q↔if y=w then WV (Nap cfg callE (Loc.rd ⟨env,loc,st⟩) st key op) (fun v st'=>WO cfg callE l (key+8) ((⟨env,loc,st'⟩:Loc).wr d v) Q)else WO cfg callE l (key+8) ((⟨env,loc,st⟩:Loc).wr d (.tup [])) Q:=by
 have hg:NaA ⟨env,loc,st⟩ (some (x,w))=some (y==w):=by unfold NaA;simp only[h]
 by_cases hw:y=w
 ·rw[if_pos hw,←Zb];have h1:NaA ⟨env,loc,st⟩ (some (x,w))=some true:=by rw[hg,hw];simp
  unfold WO;simp only[Na5,h1];simp only[NaA]
 ·rw[if_neg hw];have h1:NaA ⟨env,loc,st⟩ (some (x,w))=some false:=by rw[hg];simp[hw]
  unfold WO;simp only[Na5,h1]
theorem Z1(cfg:Cfg)(callE:CallE)(n:Nat)(l:List MOper)(env:Env)(st:St)(Q:MExit→Now→Prop) :
 WC cfg callE n (.region l) ⟨env,st⟩ Q↔WO cfg callE l st.cnt ⟨env,.leaf,{ st with cnt:=st.cnt+8 * l.length }⟩ fun c=>Q .nrm ⟨c.env,c.st⟩:=by
 unfold WC WO;simp only[Nao,Nbw,Option.map_map,Option.map_eq_some_iff,Function.comp_def];constructor
 ·rintro⟨e,x',⟨c',h,h2⟩,q⟩;simp only[Pj]at h2;obtain⟨rfl,rfl⟩:=h2;exact⟨c',h,q⟩
 ·rintro⟨c',h,q⟩;exact⟨.nrm,_,⟨c',h,rfl⟩,q⟩
def NhN(Q:MExit→Now→Prop)(k:Now→Prop):MExit→Now→Prop
 |.nrm,x=>k x
 |.ex id,x=>Q (.ex id) x
 |.ret,x=>Q .ret x
theorem Z0(cfg:Cfg)(callE:CallE)(n:Nat)(a b:MCode)(x:Now)(Q:MExit→Now→Prop):WC cfg callE n (.seq a b) x Q↔WC cfg callE n a x (NhN Q fun x'=>WC cfg callE n b x' Q):=by
 unfold WC;simp only[Nao];cases Nao cfg callE n a x with
 |none=>simp
 |some r =>
   obtain⟨e,x'⟩:=r;cases e<;>simp[NhN,and_assoc]
theorem Z4(cfg:Cfg)(callE:CallE)(n:Nat)(x:Now)(Q:MExit→Now→Prop):WC cfg callE n .skip x Q↔Q .nrm x:=by simp[WC,Nao,and_assoc]
theorem Z5(cfg:Cfg)(callE:CallE)(n id:Nat)(x:Now)(Q:MExit→Now→Prop):WC cfg callE n (.exit id) x Q↔Q (.ex id) x:=by simp[WC,Nao,and_assoc]
theorem Z6(cfg:Cfg)(callE:CallE)(n:Nat)(x:Now)(Q:MExit→Now→Prop):WC cfg callE n .ret x Q↔Q .ret x:=by simp[WC,Nao,and_assoc]
theorem Z3(cfg:Cfg)(callE:CallE)(n:Nat)(a:MCode)(x:Now)(Q:MExit→Now→Prop):WC cfg callE n (.scope a) x Q↔WC cfg callE n a x Q:=by simp[WC,Nao]
theorem Z8(cfg:Cfg)(callE:CallE)(n:Nat)(t:Arg)(a b:MCode)(env:Env)(st:St)(Q:MExit→Now→Prop)(y:Bool)(h:Loc.rd ⟨env,.leaf,st⟩ t=.b y) :
 WC cfg callE n (.cond t a b) ⟨env,st⟩ Q↔if y=true then WC cfg callE n a ⟨env,st⟩ Q else WC cfg callE n b ⟨env,st⟩ Q:=by
 unfold WC;simp only[Nao,h];cases y<;>simp
def Nd1(id:Nat)(Q:MExit→Now→Prop):MExit→Now→Prop
 |.nrm,x=>Q .nrm x
 |.ex j,x=>if j=id then Q .nrm x else Q (.ex j) x
 |.ret,x=>Q .ret x
theorem Z2(cfg:Cfg)(callE:CallE)(n id:Nat)(a:MCode)(x:Now)(Q:MExit→Now→Prop):WC cfg callE n (.block id a) x Q↔WC cfg callE n a x (Nd1 id Q):=by
 unfold WC;simp only[Nao];cases Nao cfg callE n a x with
 |none=>simp
 |some r =>
   obtain⟨e,x'⟩:=r;cases e with
   |nrm=>simp[Nd1,and_assoc]
   |ret=>simp[Nd1,and_assoc]
   |ex j =>
     by_cases hj:j=id
     ·simp[Nd1,hj,and_assoc]
     ·simp[Nd1,hj,and_assoc]
theorem Z9{a:MCode}(I:Nat→Now→Prop)
 (h:∀ k x,I k x→WC cfg callE n a x fun e x'=>match e with|.nrm=>∃ j,j<k∧I j x'|.ex id=>Q (.ex id) x'|.ret=>Q .ret x')
 {k:Nat}{x:Now}(hI:I k x) (hk:k<n):WC cfg callE n (.loop a) x Q:=by
 have key:∀ m k x,I k x→k<m→∃ e x',Ncf (Nao cfg callE n a) m x=some (e,x')∧e≠.nrm∧Q e x':=by
  intro m
  induction m with
  |zero=>intro k x _ h;omega
  |succ m ih =>
    intro k x hx hm;obtain⟨e,x',h1,h2⟩:=h k x hx;simp only[Ncf,h1];cases e with
    |nrm =>
      obtain⟨j,hj,h3⟩:=h2;exact ih j x' h3 Zaa
    |ex id=>exact⟨_,_,rfl,by simp,h2⟩
    |ret=>exact⟨_,_,rfl,by simp,h2⟩
 obtain⟨e,x',h1,h2,h3⟩:=key n k x hI hk;refine⟨e,x',?_,h3⟩;simp only[Nao,h1];cases e with
 |nrm=>exact absurd rfl h2
 |ex id=>rfl
 |ret=>rfl
theorem WC.mono{m:MCode}{Q':MExit→Now→Prop}(h:WC cfg callE n m x Q)(q:∀ e x',Q e x'→Q' e x'):WC cfg callE n m x Q':=by
 obtain⟨e,x',h1,h2⟩:=h;exact⟨e,x',h1,q _ _ h2⟩
theorem Nql(Q:MExit→Now→Prop)(k:Now→Prop)(x:Now):NhN Q k .nrm x↔k x:=Iff.trans Iff.rfl Iff.rfl
theorem Nqm(Q:MExit→Now→Prop)(k:Now→Prop)(id:Nat)(x:Now):NhN Q k (.ex id) x↔Q (.ex id) x:=Iff.trans Iff.rfl Iff.rfl
theorem Nqn(Q:MExit→Now→Prop)(k:Now→Prop)(x:Now):NhN Q k .ret x↔Q .ret x:=Iff.trans Iff.rfl Iff.rfl
theorem Nqo(id:Nat)(Q:MExit→Now→Prop)(x:Now):Nd1 id Q .nrm x↔Q .nrm x:=Iff.trans Iff.rfl Iff.rfl
theorem Nqp(id j:Nat)(Q:MExit→Now→Prop)(x:Now):Nd1 id Q (.ex j) x↔if j=id then Q .nrm x else Q (.ex j) x:=Iff.trans Iff.rfl Iff.rfl
theorem Z0A_(id:Nat)(Q:MExit→Now→Prop)(x:Now):Nd1 id Q .ret x↔Q .ret x:=Iff.trans Iff.rfl Iff.rfl
theorem Env.get_leaf(u:Nat):Env.get .leaf u=.und:=rfl
theorem Nqj(env loc:Env)(st:St)(t:Nat):Loc.rd ⟨env,loc,st⟩ (.t t)=env.get t:=Eq.trans rfl rfl
theorem NoP(env loc:Env)(st:St)(t:Nat):Loc.rd ⟨env,loc,st⟩ (.l t)=Env.get loc t:=Eq.trans rfl rfl
theorem Nqk(env loc:Env)(st:St)(v:PV):Loc.rd ⟨env,loc,st⟩ (.c v)=v:=Eq.trans rfl rfl
theorem NqV(env loc:Env)(st:St)(v:PV):Loc.wr ⟨env,loc,st⟩ .no v=⟨env,loc,st⟩:=Eq.trans rfl rfl
theorem NqT(env loc:Env)(st:St)(t:Nat)(v:PV):Loc.wr ⟨env,loc,st⟩ (.t t) v=⟨env.put t v,loc,st⟩:=Eq.trans rfl rfl
theorem NqU(env loc:Env)(st:St)(t:Nat)(v:PV):Loc.wr ⟨env,loc,st⟩ (.l t) v=⟨env,Env.put loc t v,st⟩:=Eq.trans rfl rfl
theorem Nns{m:MFunc}(hf:cfg.fn f=some m){st':St}
 (h:WC cfg (Nay cfg fuel) (fuel+1) m.body ⟨Naj args 0 .leaf,st⟩ fun e x=>(∀ id,e≠.ex id)∧x.st=st'∧∃ vs,mapO (Nej x) m.res=some vs∧r=(match vs with|[v]=>v|vs=>.tup vs)):Nay cfg (fuel+1) f args st=some (r,st'):=by
 obtain⟨e,x,h1,h2,rfl,vs,h3,rfl⟩:=h;show(match cfg.fn f with
  |some m=>NdB cfg (Nay cfg fuel) (fuel+1) m args st
  |none=>none)=_
 rw[hf];simp only[NdB,h1,h3];cases e with
 |ex id=>exact absurd rfl (h2 id)
 |nrm =>
   match vs with
   |[]=>rfl
   |[v]=>rfl
   |_::_::_=>rfl
 |ret =>
   match vs with
   |[]=>rfl
   |[v]=>rfl
   |_::_::_=>rfl
def WB(v:PV)(A B:Prop):Prop:=match v with
 |.b y=>if y=true then A else B
 |_=>False
@[congr] theorem Zp{v v':PV}(h:v=v')(A B:Prop):WB v A B=WB v' A B:=by rw[h]
theorem Zo(y:Bool)(A B:Prop):WB (.b y) A B↔WI (y=true) A B:=Zs _ _ _
theorem Z7(cfg:Cfg)(callE:CallE)(n:Nat)(t:Arg)(a b:MCode)(env:Env)(st:St)(Q:MExit→Now→Prop) :
 WC cfg callE n (.cond t a b) ⟨env,st⟩ Q↔WB (Loc.rd ⟨env,.leaf,st⟩ t) (WC cfg callE n a ⟨env,st⟩ Q) (WC cfg callE n b ⟨env,st⟩ Q):=by
 cases h:Loc.rd ⟨env,.leaf,st⟩ t with
 |b y=>rw[Z8 cfg callE n t a b env st Q y h];rfl
 |_ =>
   unfold WC WB;simp only[Nao,h];simp
def WG(v:PV)(w:Bool)(A B:Prop):Prop:=match v with
 |.b y=>if y=w then A else B
 |.tup []=>B
 |_=>False
@[congr] theorem Zl{v v':PV}(h:v=v')(w:Bool)(A B:Prop):WG v w A B=WG v' w A B:=by rw[h]
theorem Zf(A B:Prop):WG (.b true) true A B↔A:=by simp[WG]
theorem Zg(A B:Prop):WG (.b true) false A B↔B:=by simp[WG]
theorem Zh(A B:Prop):WG (.b false) true A B↔B:=by simp[WG]
theorem Zi(A B:Prop):WG (.b false) false A B↔A:=by simp[WG]
theorem Zm(A B:Prop):WB (.b true) A B↔A:=by simp[WB]
theorem Zn(A B:Prop):WB (.b false) A B↔B:=by simp[WB]
theorem Zj(w:Bool)(A B:Prop):WG (.tup []) w A B↔B:=Iff.trans Iff.rfl Iff.rfl
theorem Zc(cfg:Cfg)(callE:CallE)(d:MDst)(op:MOp)(x:Arg)(w:Bool)(l:List MOper)(key:Nat)(env loc:Env)(st:St)(Q:Loc→Prop) :
 WO cfg callE (⟨d,op,some (x,w)⟩::l) key ⟨env,loc,st⟩ Q↔WG (Loc.rd ⟨env,loc,st⟩ x) w (WV (Nap cfg callE (Loc.rd ⟨env,loc,st⟩) st key op) (fun v st'=>WO cfg callE l (key+8) ((⟨env,loc,st'⟩:Loc).wr d v) Q)) (WO cfg callE l (key+8) ((⟨env,loc,st⟩:Loc).wr d (.tup [])) Q):=by
 cases h:Loc.rd ⟨env,loc,st⟩ x with
 |b y=>rw[Zd cfg callE d op x w y l key env loc st Q h];rfl
 |tup vs =>
   cases vs with
   |nil =>
     have h1:NaA ⟨env,loc,st⟩ (some (x,w))=some false:=(by unfold NaA;simp only[h]);unfold WO;simp only[Na5,h1];rfl
   |cons a r =>
     have h1:NaA ⟨env,loc,st⟩ (some (x,w))=none:=(by unfold NaA;simp only[h]);unfold WO WG;simp only[Na5,h1];simp
 |_ =>
   have h1:NaA ⟨env,loc,st⟩ (some (x,w))=none:=(by unfold NaA;simp only[h]);unfold WO WG;simp only[Na5,h1];simp
theorem St.get_cnt(st:St)(c k:Nat):St.get ⟨st.sto,c⟩ k=st.get k:=rfl
theorem NaD(n:Int)(h:-9223372036854775808≤n∧n<9223372036854775808):IntKind.i64.wrap n=n:=by
 rw[IntKind.wrap_i64];omega
theorem Np3(n:Int)(h:0≤n∧n<256):IntKind.u8.wrap n=n:=by
 rw[IntKind.wrap_u8];omega
theorem Nnd(n:Int)(h:0≤n∧n<18446744073709551616):IntKind.u64.wrap n=n:=by
 rw[IntKind.wrap_u64];omega
theorem Nnc(n:Int)(h:0≤n∧n<4294967296):IntKind.u32.wrap n=n:=by
 rw[IntKind.wrap_u32];omega
theorem map_some{α β:Type}(f:α→β)(a:α):(some a).map f=some (f a):=rfl
theorem ZB{α:Type}(c:Prop)[Decidable c](r:Option α)(f:α→PV×St)(Q:PV→St→Prop):WV ((if c then r else none).map f) Q↔c∧WV (r.map f) Q:=by
 by_cases h:c
 ·simp[h]
 ·simp[h,WV]
theorem Zy(Q:PV→St→Prop):WV none Q↔False:=by simp[WV]
theorem ZA(l:List UInt8)(n:Nat)(f:UInt8→PV×St)(Q:PV→St→Prop):WV ((l[n]?).map f) Q↔n<l.length∧WV (some (f (l.getD n 0))) Q:=by
 by_cases h:n<l.length
 ·simp only[List.getElem?_eq_getElem h,Option.map_some,List.getD_eq_getElem?_getD,Option.getD_some,h,true_and]
 ·have e:l[n]? = none:=List.getElem?_eq_none Zaa;rw[e];simp[WV,h]
def Nau(vs:List PV):PV:=match vs with
 |[v]=>v
 |vs=>.tup vs
theorem Nax{m:MFunc}(hf:cfg.fn f=some m){R:PV→St→Prop}
 (h:WC cfg (Nay cfg fuel) (fuel+1) m.body ⟨Naj args 0 .leaf,st⟩ fun e x=>(∀ id,e≠.ex id)∧∃ vs,mapO (Nej x) m.res=some vs∧R (Nau vs) x.st):∃ r st',Nay cfg (fuel+1) f args st=some (r,st')∧R r st':=by
 obtain⟨e,x,h1,h2,vs,h3,h4⟩:=h;refine⟨Nau vs,x.st,?_,h4⟩;refine Nns hf ⟨e,x,h1,h2,rfl,vs,h3,?_⟩;unfold Nau;rfl
theorem Nd0{r:Option (PV×St)}{Q R:PV→St→Prop}(h:∃ v st,r=some (v,st)∧R v st)(q:∀ v st,R v st→Q v st):WV r Q:=by
 obtain⟨v,st,h1,h2⟩:=h;exact⟨v,st,h1,q v st h2⟩
theorem Z0B_(d most:Nat):Na4 none d most=some d:=rfl
theorem Nbp{k:IntKind}{n:Int}{d most:Nat}(h:0≤n∧n≤most):Na4 (some (.i k n)) d most=some n.toNat:=by
 show(if 0≤n∧n≤(most:Int)then some n.toNat else none)=some n.toNat;rw[if_pos h]
theorem Nav(h:cfg.ext f=some g)(args:List PV):Nak cfg callE f args=g args:=by
 unfold Nak;rw[h]
def PV.flat:PV→Bool
 |.i ..|.b _|.s _|.nsl|.fsl ..|.und=>true
 |_=>false
theorem NbX{st:St}:∀ {l:List PV},l.all PV.flat=true→Nbk st l=some l
 |[],_=>rfl
 |v::l,h=>by
   simp only[List.all_cons,Bool.and_eq_true]at h;have ih:=NbX (st:=st) h.2;unfold Nbk at ih ⊢;have e:deep st Ndt v=some v:=(by cases v<;>first|rfl|(simp[PV.flat]at h;done));simp only[mapO,e,ih]
theorem Ncr{st:St}:∀ {l:List PV},l.all PV.flat=true→keysL st l=[]
 |[],_=>rfl
 |v::l,h=>by
   simp only[List.all_cons,Bool.and_eq_true]at h;have ih:=Ncr (st:=st) h.2;unfold keysL at ih ⊢;have e:keysP st Ndt v=[]:=(by cases v<;>first|rfl|(simp[PV.flat]at h;done));simp only[List.flatMap_cons,e,ih,List.append_nil]
theorem Nal{key:Nat}{ps:List PV}(hp:ps.all PV.flat=true)(hg:g ps=some r)(hr:NaE st key r=some (r,st)):Nam g false st key ps=some (r,st):=by
 unfold Nam;simp only[NbX hp,hg,Ncr hp,NaI,ite_self,hr]
theorem Nb7{vs:List PV}(h:vs.all PV.flat=true):NaU st (.tup vs)=some (.tup vs):=by
 have e:∀ l:List PV,l.all PV.flat=true→NbF st l=none:=by
  intro l
  induction l with
  |nil=>intro _;rfl
  |cons v l ih =>
    intro hl;simp only[List.all_cons,Bool.and_eq_true]at hl;have hv:Nfi? st v=none:=(by cases v<;>first|rfl|(simp[PV.flat]at hl;done));simp only[NbF,hv,ih hl.2,Option.map_none]
 simp only[NaU,e vs h,NbX h,map_some]
theorem Nj9{k:Nat}{fz:Bool}{l:List UInt8}(hk:st.get k=some (.cells (Nbs l) fz)){i:Nat}(hi:i<l.length):NaX st 1 (.ptr k (0+i * 1))=some [.i .u8 (l.getD i 0).toNat]:=by
 have hc:cut? (Nbs l) (0+i * 1) 1=some [.i .u8 (l.getD i 0).toNat]:=by
  unfold cut? Nbs;rw[if_pos Zak];apply congrArg;apply List.ext_getElem?;intro j;cases j with
  |zero=>simp[List.getElem?_take,List.getElem?_drop,List.getElem?_map,List.getElem?_eq_getElem hi,List.getD_eq_getElem?_getD]
  |succ j=>simp[List.getElem?_take]
 unfold NaX;simp only[hk,hc]
theorem ZC(cfg:Cfg)(callE:CallE)(ρ:Arg→PV)(st:St)(key:Nat)(x:Arg)(Q:PV→St→Prop):WV (Nap cfg callE ρ st key (.mv x)) Q↔WV (some (ρ x,st)) Q:=Iff.trans Iff.rfl Iff.rfl
theorem ZD(cfg:Cfg)(callE:CallE)(ρ:Arg→PV)(st:St)(key:Nat)(c:Arg)(a:Arg)(b:Arg)(Q:PV→St→Prop):WV (Nap cfg callE ρ st key (.pick c a b)) Q↔WV (match ρ c with
 |.b x=>some (if x then ρ a else ρ b,st)
 |_=>none) Q:=Iff.trans Iff.rfl Iff.rfl
theorem ZE(cfg:Cfg)(callE:CallE)(ρ:Arg→PV)(st:St)(key:Nat)(zero:List PV)(Q:PV→St→Prop):WV (Nap cfg callE ρ st key (.alloc zero)) Q↔WV (some (.ptr key 0,st.put key (some (.cells zero false)))) Q:=Iff.trans Iff.rfl Iff.rfl
theorem ZF(cfg:Cfg)(callE:CallE)(ρ:Arg→PV)(st:St)(key:Nat)(x:Arg)(Q:PV→St→Prop):WV (Nap cfg callE ρ st key (.box x)) Q↔WV (if(ρ x).cells.all PV.one then some (.ptr key 0,st.put key (some (.cells (ρ x).cells false)))else none) Q:=Iff.trans Iff.rfl Iff.rfl
theorem ZG(cfg:Cfg)(callE:CallE)(ρ:Arg→PV)(st:St)(key:Nat)(zero:List PV)(parts:List (Nat×Nat×Arg))(Q:PV→St→Prop):WV (Nap cfg callE ρ st key (.build zero parts)) Q↔WV ((Nbi zero (parts.map fun p=>(p.1,p.2.1,ρ p.2.2))).map fun cs=>(.agg cs,st)) Q:=Iff.trans Iff.rfl Iff.rfl
theorem ZH(cfg:Cfg)(callE:CallE)(ρ:Arg→PV)(st:St)(key:Nat)(len:Nat)(sz:Nat)(zero:List PV)(parts:List (Nat×Nat×Arg))(Q:PV→St→Prop):WV (Nap cfg callE ρ st key (.bslice len sz zero parts)) Q↔WV (match Nbi zero (parts.map fun p=>(p.1,p.2.1,ρ p.2.2))with
 |some cs=>if 0<sz∧cs.length=len * sz then some (.rsl key sz 0 len,st.put key (some (.cells cs false)))else none
 |none=>none) Q:=Iff.trans Iff.rfl Iff.rfl
theorem ZI(cfg:Cfg)(callE:CallE)(ρ:Arg→PV)(st:St)(key:Nat)(agg:Bool)(n:Nat)(a:Arg)(Q:PV→St→Prop):WV (Nap cfg callE ρ st key (.load agg n a)) Q↔WV (match NaX st n (ρ a)with
 |some cs=>(Naa agg cs).map (·,st)
 |none=>none) Q:=Iff.trans Iff.rfl Iff.rfl
theorem ZJ(cfg:Cfg)(callE:CallE)(ρ:Arg→PV)(st:St)(key:Nat)(n:Nat)(a:Arg)(x:Arg)(Q:PV→St→Prop):WV (Nap cfg callE ρ st key (.store n a x)) Q↔WV ((Na1 st n (ρ a) (ρ x)).map (.tup [],·)) Q:=Iff.trans Iff.rfl Iff.rfl
theorem ZK(cfg:Cfg)(callE:CallE)(ρ:Arg→PV)(st:St)(key:Nat)(x:Arg)(Q:PV→St→Prop):WV (Nap cfg callE ρ st key (.nilck x)) Q↔WV (match ρ x with
 |.ptr k o=>some (.ptr k o,st)
 |.fptr cs=>some (.fptr cs,st)
 |_=>none) Q:=Iff.trans Iff.rfl Iff.rfl
theorem ZL(cfg:Cfg)(callE:CallE)(ρ:Arg→PV)(st:St)(key:Nat)(op:BinOp)(x:Arg)(y:Arg)(Q:PV→St→Prop):WV (Nap cfg callE ρ st key (.bin op x y)) Q↔WV ((Nae op (ρ x) (ρ y)).map (·,st)) Q:=Iff.trans Iff.rfl Iff.rfl
theorem ZM(cfg:Cfg)(callE:CallE)(ρ:Arg→PV)(st:St)(key:Nat)(neg:Bool)(x:Arg)(y:Arg)(Q:PV→St→Prop):WV (Nap cfg callE ρ st key (.eqb neg x y)) Q↔WV ((NjN neg (ρ x) (ρ y)).map (·,st)) Q:=Iff.trans Iff.rfl Iff.rfl
theorem ZN(cfg:Cfg)(callE:CallE)(ρ:Arg→PV)(st:St)(key:Nat)(kd:Nat)(neg:Bool)(x:Arg)(y:Arg)(Q:PV→St→Prop):WV (Nap cfg callE ρ st key (.eqn kd neg x y)) Q↔WV ((NoZ kd neg (ρ x) (ρ y)).map (·,st)) Q:=Iff.trans Iff.rfl Iff.rfl
theorem ZO(cfg:Cfg)(callE:CallE)(ρ:Arg→PV)(st:St)(key:Nat)(neg:Bool)(fs:List (Nat×Nat))(x:Arg)(y:Arg)(Q:PV→St→Prop):WV (Nap cfg callE ρ st key (.eqs neg fs x y)) Q↔WV (match ρ x,ρ y with
 |.agg ps,.agg qs=>(Nhg fs ps qs).map fun b=>(.b (b != neg),st)
 |_,_=>none) Q:=Iff.trans Iff.rfl Iff.rfl
theorem ZP(cfg:Cfg)(callE:CallE)(ρ:Arg→PV)(st:St)(key:Nat)  (Q:PV→St→Prop):WV (Nap cfg callE ρ st key (.mkmap )) Q↔WV (some (.mp key,st.put key (some (.map [])))) Q:=Iff.trans Iff.rfl Iff.rfl
theorem ZQ(cfg:Cfg)(callE:CallE)(ρ:Arg→PV)(st:St)(key:Nat)(ck:Nat)(ok:Bool)(zero:PV)(m:Arg)(k:Arg)(Q:PV→St→Prop):WV (Nap cfg callE ρ st key (.lookup ck ok zero m k)) Q↔WV (match ρ m with
 |.nmp=>if ck=3 then none else some (if ok then .tup [zero,.b false]else zero,st)
 |.mp j=>match st.get j with
   |some (.map es)=>(Nbz ck (ρ k) es).map fun r=>(if ok then .tup [r.getD zero,.b r.isSome]else r.getD zero,st)
   |_=>none
 |_=>none) Q:=Iff.trans Iff.rfl Iff.rfl
theorem ZR(cfg:Cfg)(callE:CallE)(ρ:Arg→PV)(st:St)(key:Nat)(ck:Nat)(m:Arg)(k:Arg)(v:Arg)(Q:PV→St→Prop):WV (Nap cfg callE ρ st key (.mapup ck m k v)) Q↔WV (match ρ m with
 |.mp j=>match st.get j with
   |some (.map es)=>(Nbu ck (ρ k) (ρ v) es).map fun es'=>(.tup [],st.put j (some (.map es')))
   |_=>none
 |_=>none) Q:=Iff.trans Iff.rfl Iff.rfl
theorem ZS(cfg:Cfg)(callE:CallE)(ρ:Arg→PV)(st:St)(key:Nat)(m:Arg)(Q:PV→St→Prop):WV (Nap cfg callE ρ st key (.mlen m)) Q↔WV (match ρ m with
 |.nmp=>some (.i .i64 0,st)
 |.mp j=>match st.get j with
   |some (.map es)=>some (.i .i64 es.length,st)
   |_=>none
 |_=>none) Q:=Iff.trans Iff.rfl Iff.rfl
theorem ZT(cfg:Cfg)(callE:CallE)(ρ:Arg→PV)(st:St)(key:Nat)(x:Arg)(Q:PV→St→Prop):WV (Nap cfg callE ρ st key (.srange x)) Q↔WV (match ρ x with
 |.s l=>some (.ptr key 0,st.put key (some (.iter l 0)))
 |_=>none) Q:=Iff.trans Iff.rfl Iff.rfl
theorem ZU(cfg:Cfg)(callE:CallE)(ρ:Arg→PV)(st:St)(key:Nat)(x:Arg)(Q:PV→St→Prop):WV (Nap cfg callE ρ st key (.snext x)) Q↔WV (match ρ x with
 |.ptr k 0=>match st.get k with
   |some (.iter l p)=>if p<l.length then some (.tup [.b true,.i .i64 p,.i .i32 (Utf8.decode ⟨l.toArray⟩ p).1],st.put k (some (.iter l (p+(Utf8.decode ⟨l.toArray⟩ p).2))))else some (.tup [.b false],st)
   |_=>none
 |_=>none) Q:=Iff.trans Iff.rfl Iff.rfl
theorem ZV(cfg:Cfg)(callE:CallE)(ρ:Arg→PV)(st:St)(key:Nat)(x:Arg)(Q:PV→St→Prop):WV (Nap cfg callE ρ st key (.mark x)) Q↔WV (match ρ x with
 |.rsl k z off n=>match st.get k with
   |some (.cells _ _)=>some (.rsl k z off n,st)
   |_=>none
 |_=>none) Q:=Iff.trans Iff.rfl Iff.rfl
theorem ZW(cfg:Cfg)(callE:CallE)(ρ:Arg→PV)(st:St)(key:Nat)  (Q:PV→St→Prop):WV (Nap cfg callE ρ st key (.bad )) Q↔WV (none) Q:=Iff.trans Iff.rfl Iff.rfl
theorem ZX(cfg:Cfg)(callE:CallE)(ρ:Arg→PV)(st:St)(key:Nat)(op:UnOp)(x:Arg)(Q:PV→St→Prop):WV (Nap cfg callE ρ st key (.un op x)) Q↔WV ((unP op (ρ x)).map (·,st)) Q:=Iff.trans Iff.rfl Iff.rfl
theorem ZY(cfg:Cfg)(callE:CallE)(ρ:Arg→PV)(st:St)(key:Nat)(c:Cv)(x:Arg)(Q:PV→St→Prop):WV (Nap cfg callE ρ st key (.conv c x)) Q↔WV (match c,ρ x with
 |.int k,.i _ n=>some (.i k (k.wrap n),st)
 |.same,.s l=>some (.s l,st)
 |.s2b,.s l=>if l.length≤maxBytes then some (.rsl key 1 0 l.length,st.put key (some (.cells (Nbs l) false)))else none
 |.b2s,v=>match cellsOf st 1 v with
   |some (_,cs)=>(bytesOf? cs).map fun l=>(.s l,st)
   |none=>none
 |.up,.ptr k 0=>match st.get k with
   |some (.bld _)=>some (.ptr k 0,st)
   |_=>none
 |.down Ts,.ptr k 0=>match st.get k with
   |some (.bld T)=>if T∈Ts then some (.ptr k 0,st)else none
   |_=>none
 |_,_=>none) Q:=Iff.trans Iff.rfl Iff.rfl
theorem ZZ(cfg:Cfg)(callE:CallE)(ρ:Arg→PV)(st:St)(key:Nat)(f:FuncId)(cap:List Arg)(Q:PV→St→Prop):WV (Nap cfg callE ρ st key (.mkfn f cap)) Q↔WV (some (.fn f (cap.map ρ),st)) Q:=Iff.trans Iff.rfl Iff.rfl
theorem NrB(cfg:Cfg)(callE:CallE)(ρ:Arg→PV)(st:St)(key:Nat)(f:FuncId)(pre:List Arg)(Q:PV→St→Prop):WV (Nap cfg callE ρ st key (.mkbfn f pre)) Q↔WV (some (.bfn f (pre.map ρ),st)) Q:=Iff.trans Iff.rfl Iff.rfl
theorem NrC(cfg:Cfg)(callE:CallE)(ρ:Arg→PV)(st:St)(key:Nat)(sz:Nat)(bytes:Nat)(zero:List PV)(l:Arg)(Q:PV→St→Prop):WV (Nap cfg callE ρ st key (.mkslice sz bytes zero l)) Q↔WV (match ρ l with
 |.i _ n=>if 0≤n∧n.toNat * bytes≤maxBytes∧0<bytes∧zero.length=sz∧0<sz then some (.rsl key sz 0 n.toNat,st.put key (some (.cells (List.flatten (List.replicate n.toNat zero)) false)))else none
 |_=>none) Q:=Iff.trans Iff.rfl Iff.rfl
theorem NrD(cfg:Cfg)(callE:CallE)(ρ:Arg→PV)(st:St)(key:Nat)(N:Nat)(sz:Nat)(x:Arg)(lo:Option Arg)(hi:Option Arg)(Q:PV→St→Prop):WV (Nap cfg callE ρ st key (.slice (some N) sz x lo hi)) Q↔WV (match ρ x with
 |.ptr k off=>match Na4 (hi.map ρ) N N,st.get k with
   |some h,some (.cells cs _)=>match Na4 (lo.map ρ) 0 h with
     |some l=>if l<N∧0<sz∧off+N * sz≤cs.length∧N<4294967296 then some (.rsl k sz (off+l * sz) (h - l),st)else none
     |none=>none
   |_,_=>none
 |_=>none) Q:=Iff.trans Iff.rfl Iff.rfl
theorem NrE(cfg:Cfg)(callE:CallE)(ρ:Arg→PV)(st:St)(key:Nat)(sz:Nat)(x:Arg)(lo:Option Arg)(hi:Option Arg)(Q:PV→St→Prop):WV (Nap cfg callE ρ st key (.slice none sz x lo hi)) Q↔WV ((NdL sz (lo.map ρ) (hi.map ρ) (ρ x)).map (·,st)) Q:=Iff.trans Iff.rfl Iff.rfl
theorem NrF(cfg:Cfg)(callE:CallE)(ρ:Arg→PV)(st:St)(key:Nat)(x:Arg)(lo:Option Arg)(hi:Option Arg)(Q:PV→St→Prop):WV (Nap cfg callE ρ st key (.substr x lo hi)) Q↔WV (match ρ x with
 |.s l=>match Na4 (hi.map ρ) l.length l.length with
   |some h=>match Na4 (lo.map ρ) 0 h with
     |some k=>some (.s ((l.drop k).take (h - k)),st)
     |none=>none
   |none=>none
 |_=>none) Q:=Iff.trans Iff.rfl Iff.rfl
theorem NrG(cfg:Cfg)(callE:CallE)(ρ:Arg→PV)(st:St)(key:Nat)(off:Nat)(x:Arg)(Q:PV→St→Prop):WV (Nap cfg callE ρ st key (.fieldAddr off x)) Q↔WV (match ρ x with
 |.ptr k o=>some (.ptr k (o+off),st)
 |.fptr cs=>some (.fptr (cs.drop off),st)
 |_=>none) Q:=Iff.trans Iff.rfl Iff.rfl
theorem NrH(cfg:Cfg)(callE:CallE)(ρ:Arg→PV)(st:St)(key:Nat)(agg:Bool)(off:Nat)(n:Nat)(x:Arg)(Q:PV→St→Prop):WV (Nap cfg callE ρ st key (.field agg off n x)) Q↔WV (match ρ x with
 |.agg cs=>match cut? cs off n with
   |some l=>(Naa agg l).map (·,st)
   |none=>none
 |_=>none) Q:=Iff.trans Iff.rfl Iff.rfl
theorem NrI(cfg:Cfg)(callE:CallE)(ρ:Arg→PV)(st:St)(key:Nat)(N:Nat)(sz:Nat)(x:Arg)(i:Arg)(Q:PV→St→Prop):WV (Nap cfg callE ρ st key (.indexAddr (some N) sz x i)) Q↔WV (match ρ x,ρ i with
 |.ptr k o,.i _ j=>if 0≤j∧j<N then some (.ptr k (o+j.toNat * sz),st)else none
 |.fptr cs,.i _ j=>if 0≤j∧j<N then some (.fptr (cs.drop (j.toNat * sz)),st)else none
 |_,_=>none) Q:=Iff.trans Iff.rfl Iff.rfl
theorem NrJ(cfg:Cfg)(callE:CallE)(ρ:Arg→PV)(st:St)(key:Nat)(sz:Nat)(x:Arg)(i:Arg)(Q:PV→St→Prop):WV (Nap cfg callE ρ st key (.indexAddr none sz x i)) Q↔WV (match ρ x,ρ i with
 |.rsl k z off n,.i _ j=>if z=sz∧0≤j∧j<n then some (.ptr k (off+j.toNat * sz),st)else none
 |.fsl n cs,.i _ j=>if cs.length=n * sz∧0<sz∧0≤j∧j<n then some (.fptr (cs.drop (j.toNat * sz)),st)else none
 |_,_=>none) Q:=Iff.trans Iff.rfl Iff.rfl
theorem NrK(cfg:Cfg)(callE:CallE)(ρ:Arg→PV)(st:St)(key:Nat)(len:Nat)(agg:Bool)(n:Nat)(x:Arg)(i:Arg)(Q:PV→St→Prop):WV (Nap cfg callE ρ st key (.index len agg n x i)) Q↔WV (match ρ x,ρ i with
 |.agg cs,.i _ j=>if 0≤j∧j<len then match cut? cs (j.toNat * n) n with
  |some l=>(Naa agg l).map (·,st)
  |none=>none
   else none
 |_,_=>none) Q:=Iff.trans Iff.rfl Iff.rfl
theorem NrM(cfg:Cfg)(callE:CallE)(ρ:Arg→PV)(st:St)(key:Nat)(x:Arg)(i:Arg)(Q:PV→St→Prop):WV (Nap cfg callE ρ st key (.sindex x i)) Q↔WV (match ρ x,ρ i with
 |.s l,.i _ j=>if 0≤j then(l[j.toNat]?).map fun c=>(.i .u8 c.toNat,st)else none
 |_,_=>none) Q:=Iff.trans Iff.rfl Iff.rfl
theorem NrN(cfg:Cfg)(callE:CallE)(ρ:Arg→PV)(st:St)(key:Nat)(i:Nat)(x:Arg)(Q:PV→St→Prop):WV (Nap cfg callE ρ st key (.extract i x)) Q↔WV (match ρ x with
 |.tup vs=>(vs[i]?).map (·,st)
 |_=>none) Q:=Iff.trans Iff.rfl Iff.rfl
theorem NrO(cfg:Cfg)(callE:CallE)(ρ:Arg→PV)(st:St)(key:Nat)(f:FuncId)(own:Bool)(args:List Arg)(Q:PV→St→Prop):WV (Nap cfg callE ρ st key (.call f own args)) Q↔WV (Nam (Nak cfg callE f) own st key (args.map ρ)) Q:=Iff.trans Iff.rfl Iff.rfl
theorem NrP(cfg:Cfg)(callE:CallE)(ρ:Arg→PV)(st:St)(key:Nat)(f:FuncId)(args:List Arg)(Q:PV→St→Prop):WV (Nap cfg callE ρ st key (.calle f args)) Q↔WV (match cfg.ext f with
 |some _=>none
 |none=>callE f (args.map ρ) st) Q:=Iff.trans Iff.rfl Iff.rfl
theorem NrQ(cfg:Cfg)(callE:CallE)(ρ:Arg→PV)(st:St)(key:Nat)(f:FuncId)(args:List Arg)(Q:PV→St→Prop):WV (Nap cfg callE ρ st key (.callq f args)) Q↔WV (match Nbk st (args.map ρ)with
 |some l=>match Nak cfg callE f l with
   |some r=>if r.closedB then NaE st key r else none
   |none=>none
 |none=>none) Q:=Iff.trans Iff.rfl Iff.rfl
theorem NrR(cfg:Cfg)(callE:CallE)(ρ:Arg→PV)(st:St)(key:Nat)(f:Arg)(args:List Arg)(Q:PV→St→Prop):WV (Nap cfg callE ρ st key (.callv f args)) Q↔WV (match ρ f with
 |.fn g cap=>match cfg.ext g with
   |some _=>none
   |none=>callE g (args.map ρ++cap) st
 |.bfn g pre=>match cfg.ext g with
   |some _=>none
   |none=>callE g (pre++args.map ρ) st
 |_=>none) Q:=Iff.trans Iff.rfl Iff.rfl
theorem NrS(cfg:Cfg)(callE:CallE)(ρ:Arg→PV)(st:St)(key:Nat)(sz:Nat)(bytes:Nat)(s:Arg)(x:Arg)(Q:PV→St→Prop):WV (Nap cfg callE ρ st key (.append sz bytes s x)) Q↔WV (match cellsOf st sz (ρ x)with
 |some (m,news)=>if 0<sz∧0<bytes∧news.all PV.one then Nbj st key sz bytes m news (ρ s)else none
 |none=>none) Q:=Iff.trans Iff.rfl Iff.rfl
theorem NrT(cfg:Cfg)(callE:CallE)(ρ:Arg→PV)(st:St)(key:Nat)(s:Arg)(x:Arg)(Q:PV→St→Prop):WV (Nap cfg callE ρ st key (.appstr s x)) Q↔WV (match ρ x with
 |.s l=>Nbj st key 1 1 l.length (Nbs l) (ρ s)
 |_=>none) Q:=Iff.trans Iff.rfl Iff.rfl
theorem NrU(cfg:Cfg)(callE:CallE)(ρ:Arg→PV)(st:St)(key:Nat)(x:Arg)(Q:PV→St→Prop):WV (Nap cfg callE ρ st key (.len x)) Q↔WV ((Nd7 (ρ x)).map (·,st)) Q:=Iff.trans Iff.rfl Iff.rfl
theorem NrV(cfg:Cfg)(callE:CallE)(ρ:Arg→PV)(st:St)(key:Nat)(x:Arg)(Q:PV→St→Prop):WV (Nap cfg callE ρ st key (.slen x)) Q↔WV (match ρ x with
 |.s l=>some (.i .i64 l.length,st)
 |_=>none) Q:=Iff.trans Iff.rfl Iff.rfl
theorem NrW(cfg:Cfg)(callE:CallE)(ρ:Arg→PV)(st:St)(key:Nat)(n:Nat)(Q:PV→St→Prop):WV (Nap cfg callE ρ st key (.alen n)) Q↔WV (some (.i .i64 n,st)) Q:=Iff.trans Iff.rfl Iff.rfl
theorem NrX(cfg:Cfg)(callE:CallE)(ρ:Arg→PV)(st:St)(key:Nat)(sz:Nat)(d:Arg)(s:Arg)(Q:PV→St→Prop):WV (Nap cfg callE ρ st key (.copy sz d s)) Q↔WV (match cellsOf st sz (ρ s)with
 |some (m,cs)=>NdA st sz m cs (ρ d)
 |none=>none) Q:=Iff.trans Iff.rfl Iff.rfl
theorem NrY(cfg:Cfg)(callE:CallE)(ρ:Arg→PV)(st:St)(key:Nat)(x:Arg)(ys:List Arg)(Q:PV→St→Prop):WV (Nap cfg callE ρ st key (.min x ys)) Q↔WV ((Nk5 (ρ x) (ys.map ρ)).map (·,st)) Q:=Iff.trans Iff.rfl Iff.rfl
theorem Z0n_(cfg:Cfg)(callE:CallE)(ρ:Arg→PV)(st:St)(key:Nat)(x:Arg)(ys:List Arg)(Q:PV→St→Prop):WV (Nap cfg callE ρ st key (.max x ys)) Q↔WV ((NlY (ρ x) (ys.map ρ)).map (·,st)) Q:=Iff.trans Iff.rfl Iff.rfl
noncomputable def Npz(o:Option PObj)(n off:Nat):Option (List PV):=match o with
 |some (.cells cs _)=>cut? cs off n
 |some (.bld _)=>cut? [.nptr,.nsl] off n
 |_=>none
theorem NbU(st:St)(n k off:Nat):NaX st n (.ptr k off)=Npz (st.get k) n off:=Eq.trans rfl rfl
theorem NbV(cs:List PV)(fz:Bool)(n off:Nat):Npz (some (.cells cs fz)) n off=cut? cs off n:=Eq.trans rfl rfl
theorem NrL(st:St)(n:Nat)(cs:List PV):NaX st n (.fptr cs)=cut? cs 0 n:=Eq.trans rfl rfl
noncomputable def NmW(st:St)(k:Nat)(o:Option PObj)(n off:Nat)(v:PV):Option St:=match o with
 |some (.cells cs false)=>if v.cells.length=n∧off+n≤cs.length∧v.cells.all PV.one then some (st.put k (some (.cells (cs.take off++v.cells++cs.drop (off+n)) false)))else none
 |some (.bld _)=>match v with
   |.ptr j 0=>if j=k∧off=0∧n=1 then some (st.put k (some (.cells [.ptr k 0,.nsl] false)))else none
   |_=>none
 |_=>none
theorem NiH(st:St)(n k off:Nat)(v:PV):Na1 st n (.ptr k off) v=NmW st k (st.get k) n off v:=Eq.trans rfl rfl
theorem NiI(st:St)(k:Nat)(cs:List PV)(n off:Nat)(v:PV):NmW st k (some (.cells cs false)) n off v=if v.cells.length=n∧off+n≤cs.length∧v.cells.all PV.one then some (st.put k (some (.cells (cs.take off++v.cells++cs.drop (off+n)) false)))else none:=Eq.trans rfl rfl
theorem Njl(st:St)(k:Nat)(o:Option PObj):(st.put k o).get k=o:=Yaf st k o
theorem NaN(st:St)(k k':Nat)(o:Option PObj)(h:k≠k'):(st.put k o).get k'=st.get k':=Yae h
theorem NaG(st:St)(c k:Nat):St.get ⟨st.sto,c⟩ k=st.get k:=Eq.trans rfl rfl
theorem Np5(c k:Nat):St.get ⟨.leaf,c⟩ k=none:=Eq.trans rfl rfl
theorem Naz(st:St)(k:Nat)(o:Option PObj):(st.put k o).cnt=st.cnt:=Eq.trans rfl rfl
theorem Na2(s:Trie PObj)(c:Nat):(⟨s,c⟩:St).cnt=c:=Eq.trans rfl rfl
theorem Np6(cs:List PV):(PV.agg cs).cells=cs:=Eq.trans rfl rfl
theorem Np7(k:IntKind)(n:Int):(PV.i k n).cells=[.i k n]:=Eq.trans rfl rfl
theorem Np8(x:Bool):(PV.b x).cells=[.b x]:=Eq.trans rfl rfl
theorem Np9(l:List UInt8):(PV.s l).cells=[.s l]:=Eq.trans rfl rfl
theorem Nqa:PV.nsl.cells=[.nsl]:=Eq.trans rfl rfl
theorem Nqb(n:Nat)(l:List PV):(PV.fsl n l).cells=[.fsl n l]:=Eq.trans rfl rfl
theorem Nqc(a b c d:Nat):(PV.rsl a b c d).cells=[.rsl a b c d]:=Eq.trans rfl rfl
theorem Nqd(a b:Nat):(PV.ptr a b).cells=[.ptr a b]:=Eq.trans rfl rfl
theorem Nqe(a:Nat):(PV.mp a).cells=[.mp a]:=Eq.trans rfl rfl
theorem Nqf(k:IntKind)(n:Int):(PV.i k n).one=true:=Eq.trans rfl rfl
theorem Nqg(x:Bool):(PV.b x).one=true:=Eq.trans rfl rfl
theorem Nqh(l:List UInt8):(PV.s l).one=true:=Eq.trans rfl rfl
theorem Nqi:PV.nsl.one=true:=Eq.trans rfl rfl
theorem Nqq(n:Nat)(l:List PV):(PV.fsl n l).one=true:=Eq.trans rfl rfl
theorem Nqr(a b c d:Nat):(PV.rsl a b c d).one=true:=Eq.trans rfl rfl
theorem Nqs(a b:Nat):(PV.ptr a b).one=true:=Eq.trans rfl rfl
theorem Nqt(a:Nat):(PV.mp a).one=true:=Eq.trans rfl rfl
theorem Nqu:PV.nptr.one=true:=Eq.trans rfl rfl
theorem Nqv:PV.nmp.one=true:=Eq.trans rfl rfl
theorem Nqw(cs:List PV)(off n:Nat):cut? cs off n=if off+n≤cs.length then some ((cs.drop off).take n)else none:=Eq.trans rfl rfl
theorem Nqx(cs:List PV):Nbi cs []=some cs:=by unfold Nbi;rfl
theorem Nqy(cs:List PV)(off n:Nat)(v:PV)(r:List (Nat×Nat×PV)):Nbi cs ((off,n,v)::r)=if v.cells.length=n∧off+n≤cs.length∧v.cells.all PV.one then Nbi (cs.take off++v.cells++cs.drop (off+n)) r else none:=by rw[Nbi]
theorem Nqz(xs ys:List PV):Nhg [] xs ys=some true:=by unfold Nhg;rfl
def eqC(r:Option Bool)(k:Option Bool):Option Bool:=match r with
 |some true=>k
 |some false=>some false
 |none=>none
def Nq1(ck:Nat)(p q:Option PV):Option Bool:=match p,q with
 |some p,some q=>eq1 ck p q
 |_,_=>none
theorem NqA(o ck:Nat)(r:List (Nat×Nat))(xs ys:List PV):Nhg ((o,ck)::r) xs ys=eqC (Nq1 ck xs[o]? ys[o]?) (Nhg r xs ys):=by
 rw[Nhg];unfold eqC Nq1;cases xs[o]?<;>cases ys[o]?<;>simp;rename_i p q;cases eq1 ck p q with
 |none=>rfl
 |some b=>cases b<;>rfl
theorem NqB(k:Option Bool):eqC (some true) k=k:=Eq.trans rfl rfl
theorem NqC(k:Option Bool):eqC (some false) k=some false:=Eq.trans rfl rfl
theorem NqD(ck:Nat)(p q:PV):Nq1 ck (some p) (some q)=eq1 ck p q:=Eq.trans rfl rfl
theorem NqE(k:IntKind)(a c:Int):eq1 0 (.i k a) (.i k c)=some (a==c):=by simp[eq1]
theorem NqF(x y:Bool):eq1 1 (.b x) (.b y)=some (x==y):=by simp[eq1]
theorem NqG(x y:List UInt8):eq1 2 (.s x) (.s y)=some (x==y):=by simp[eq1]
theorem NqH:(true != false)=true:=Eq.trans rfl rfl
theorem NqI:(false != false)=false:=Eq.trans rfl rfl
theorem NqJ:(true != true)=false:=Eq.trans rfl rfl
theorem Z1k_:(false != true)=true:=Eq.trans rfl rfl
theorem Za{a b:MCode}(R:Now→Prop)(h:WC cfg callE n a x fun e x'=>e=.nrm∧R x')(k:∀ x',R x'→WC cfg callE n b x' Q):WC cfg callE n (.seq a b) x Q:=by
 rw[Z0];refine h.mono ?_;rintro e x' ⟨rfl,hr⟩;exact k x' hr
theorem NcB{P:Program}{Gl:Gmap}(hc:CfgOK P Gl cfg)(h:∀ args r,g args=some r→∃ fuel,evP cfg fuel f args=some r):Nbc P Gl f g:=by
 intro args r hr;obtain⟨fuel,hf⟩:=h args r hr;exact NjP hc fuel _ args r hf
theorem Nfr(hx:cfg.ext f=none)(ho:NaC args=(args,{ sto:=.leaf,cnt:=1 }))(h:∃ r' st',Nay cfg fuel f args { sto:=.leaf,cnt:=1 }=some (r',st')∧NaU st' r'=some r):evP cfg fuel f args=some r:=by
 obtain⟨r',st',h1,h2⟩:=h;unfold evP Nak;simp only[hx];unfold Ndr;rw[ho,h1];exact h2
end
end Go.Pe
namespace Go.Pe
open Go Go.Am Go.RowKit
section
variable {F:Nat→Nat→Option Value}{P:Program}{Gl:Gmap}{f:FuncId}
theorem NkC(c:UInt8):∀ (l:List UInt8) (n:Nat),Ngo c l n=if Lib.indexByte l c=-1 then -1 else Lib.indexByte l c+n
 |[],n=>by simp[Ngo,Lib.indexByte]
 |b::l,n=>by
   have h:=Lib.indexByte_ge l c;unfold Ngo Lib.indexByte;by_cases hb:b=c
   ·simp[hb]
   ·rw[NkC c l (n+1)];by_cases h1:Lib.indexByte l c=-1
    ·simp[hb,h1]
    ·have h2:¬ (Lib.indexByte l c+1=-1):=(by omega);simp[hb,h1,h2];omega
theorem NfR(c:UInt8):∀ (l:List UInt8) (n:Nat),Ned c l n=l.count c+n
 |[],n=>by simp[Ned]
 |b::l,n=>by
   unfold Ned;rw[NfR c l];by_cases hb:b=c
   ·simp[hb];omega
   ·simp[hb,List.count_cons]
theorem Nj2(sub:List UInt8):∀ (l:List UInt8),Nep sub l=Lib.contains l sub
 |[]=>by
   unfold Nep Lib.contains Lib.index;cases sub<;>simp
 |b::l=>by
   have h:=Lib.index_ge l sub;unfold Nep;rw[Nj2 sub l];unfold Lib.contains;rw[Lib.index];by_cases hb:sub.isPrefixOf (b::l)=true
   ·simp[hb]
   ·by_cases h1:Lib.index l sub=-1
    ·simp[hb,h1]
    ·simp[hb,h1];omega
theorem FC.two{vs:List Value}{p q:PV}(h:FC F vs [p,q]):∃ u v,vs=[u,v]∧FRel F u p∧FRel F v q:=by
 match vs,h with
 |[u,v],h=>exact⟨u,v,rfl,h.2 0 u p rfl rfl,h.2 1 v q rfl rfl⟩
 |[],h=>have:=h.1;simp at this
 |[_],h=>have:=h.1;simp at this
 |_::_::_::_,h=>have:=h.1;simp at this
theorem FRel.s_inv{v:Value}{l:List UInt8}(h:FRel F v (.s l)):v=.string ⟨l.toArray⟩:=by cases h;rfl
theorem FRel.i_inv{v:Value}{k:IntKind}{n:Int}(h:FRel F v (.i k n)):v=.int k n:=by cases h;rfl
theorem Nho{gb:Nat}{m:Int}(hg:Gl gb 0=some (.int .i64 m))(hc:∀ (s sub:ByteArray) (m:Int) (w:World),s.size<4294967281→w.cell? ⟨gb,0,none⟩=some (.int .i64 m) →
 Calls P f #[.string s,.string sub] w fun e w'=>e=.returned (.bool (Lib.contains s.data.toList sub.data.toList))∧w'=w):Nbc P Gl f gContains:=by
 refine NdW fun args r hr=>?_;unfold gContains at hr;split at hr
 ·rename_i a b;split at hr
  ·rename_i hl;simp only[Sj]at hr;subst hr;refine⟨rfl,rfl,fun vs F w hw hf=>?_⟩;obtain⟨u,v,rfl,hu,hv⟩:=hf.two;rw[hu.s_inv,hv.s_inv];refine(hc ⟨a.toArray⟩ ⟨b.toArray⟩ m w (by simpa[ByteArray.size]using hl) (hw _ _ _ hg)).mono ?_;rintro e w' ⟨rfl,rfl⟩;exact⟨_,rfl,by rw[Nj2];exact .b _,rfl⟩
  ·simp at hr
 ·simp at hr
theorem Nlp(hc:∀ (s:ByteArray) (c:UInt8) (w:World),
 Calls P f #[.string s,.string ⟨#[c]⟩] w fun e w'=>e=.returned (.int .i64 (Lib.countByte s.data.toList c))∧w'=w):Nbc P Gl f gCount:=by
 refine NdW fun args r hr=>?_;unfold gCount at hr;split at hr
 ·rename_i a c;simp only[Sj]at hr;subst hr;refine⟨rfl,rfl,fun vs F w hw hf=>?_⟩;obtain⟨u,v,rfl,hu,hv⟩:=hf.two;rw[hu.s_inv,hv.s_inv];refine(hc ⟨a.toArray⟩ c w).mono ?_;rintro e w' ⟨rfl,rfl⟩;exact⟨_,rfl,by rw[NfR];exact .i _ _,rfl⟩
 ·simp at hr
theorem NgJ(hc:∀ (s:ByteArray) (c:Int) (w:World),
 Calls P f #[.string s,.int .u8 c] w fun e w'=>e=.returned (.int .i64 (Lib.indexByte s.data.toList c.toNat.toUInt8))∧w'=w):Nbc P Gl f gIndexByte:=by
 refine NdW fun args r hr=>?_;unfold gIndexByte at hr;split at hr
 ·rename_i a c;simp only[Sj]at hr;subst hr;refine⟨rfl,rfl,fun vs F w hw hf=>?_⟩;obtain⟨u,v,rfl,hu,hv⟩:=hf.two;rw[hu.s_inv,hv.i_inv];refine(hc ⟨a.toArray⟩ c w).mono ?_;rintro e w' ⟨rfl,rfl⟩;refine⟨_,rfl,?_,rfl⟩;have:Ngo c.toNat.toUInt8 a 0=Lib.indexByte a c.toNat.toUInt8:=by
   rw[NkC];split
   ·rename_i h;rw[h]
   ·simp
  rw[this];exact .i _ _
 ·simp at hr
theorem Xp:type_of% @Z1∧type_of% @Z2∧type_of% @Z3∧type_of% @Z4∧type_of% @Z5∧type_of% @Z6∧type_of% @Z7∧type_of% @Zb∧type_of% @Zc∧type_of% @Ze∧type_of% @Zf∧type_of% @Zg∧type_of% @Zh∧type_of% @Zi∧type_of% @Zm∧type_of% @Zn∧type_of% @Zj∧type_of% @Zq∧type_of% @Zr∧type_of% @Zx∧type_of% @Zy∧type_of% @Zz∧type_of% @ZA∧type_of% @ZB∧type_of% @ZC∧type_of% @ZD∧type_of% @ZE∧type_of% @ZF∧type_of% @ZG∧type_of% @ZH∧type_of% @ZI∧type_of% @ZJ∧type_of% @ZK∧type_of% @ZL∧type_of% @ZM∧type_of% @ZN∧type_of% @ZO∧type_of% @ZP∧type_of% @ZQ∧type_of% @ZR∧type_of% @ZS∧type_of% @ZT∧type_of% @ZU∧type_of% @ZV∧type_of% @ZW∧type_of% @ZX∧type_of% @ZY∧type_of% @ZZ∧type_of% @NrB∧type_of% @NrC∧type_of% @NrD∧type_of% @NrE∧type_of% @NrF∧type_of% @NrG∧type_of% @NrH∧type_of% @NrI∧type_of% @NrJ∧type_of% @NrK∧type_of% @NrM∧type_of% @NrN∧type_of% @NrO∧type_of% @NrP∧type_of% @NrQ∧type_of% @NrR∧type_of% @NrS∧type_of% @NrT∧type_of% @NrU∧type_of% @NrV∧type_of% @NrW∧type_of% @NrX∧type_of% @NrY∧type_of% @Z0n_:=⟨@Z1,@Z2,@Z3,@Z4,@Z5,@Z6,@Z7,@Zb,@Zc,@Ze,@Zf,@Zg,@Zh,@Zi,@Zm,@Zn,@Zj,@Zq,@Zr,@Zx,@Zy,@Zz,@ZA,@ZB,@ZC,@ZD,@ZE,@ZF,@ZG,@ZH,@ZI,@ZJ,@ZK,@ZL,@ZM,@ZN,@ZO,@ZP,@ZQ,@ZR,@ZS,@ZT,@ZU,@ZV,@ZW,@ZX,@ZY,@ZZ,@NrB,@NrC,@NrD,@NrE,@NrF,@NrG,@NrH,@NrI,@NrJ,@NrK,@NrM,@NrN,@NrO,@NrP,@NrQ,@NrR,@NrS,@NrT,@NrU,@NrV,@NrW,@NrX,@NrY,@Z0n_⟩
theorem Xt:type_of% @Nql∧type_of% @Nqm∧type_of% @Nqn∧type_of% @Nqo∧type_of% @Nqp∧type_of% @Z0A_:=⟨@Nql,@Nqm,@Nqn,@Nqo,@Nqp,@Z0A_⟩
theorem Xq:type_of% @Z1∧type_of% @Z7∧type_of% @Zb∧type_of% @Zc∧type_of% @Ze∧type_of% @Zf∧type_of% @Zg∧type_of% @Zh∧type_of% @Zi∧type_of% @Zm∧type_of% @Zn∧type_of% @Zo∧type_of% @Zj∧type_of% @Zq∧type_of% @Zr∧type_of% @Zx∧type_of% @Zz∧type_of% @Nqj∧type_of% @NoP∧type_of% @Nqk∧type_of% @NqT∧type_of% @NqU∧type_of% @NqV∧type_of% @Nql∧type_of% @Nqm∧type_of% @Nqn∧type_of% @Nqo∧type_of% @Nqp∧type_of% @Z0A_∧type_of% @Yad∧type_of% @Env.get_leaf∧type_of% @map_some∧type_of% @ZA∧type_of% @Z0B_:=⟨@Z1,@Z7,@Zb,@Zc,@Ze,@Zf,@Zg,@Zh,@Zi,@Zm,@Zn,@Zo,@Zj,@Zq,@Zr,@Zx,@Zz,@Nqj,@NoP,@Nqk,@NqT,@NqU,@NqV,@Nql,@Nqm,@Nqn,@Nqo,@Nqp,@Z0A_,@Yad,@Env.get_leaf,@map_some,@ZA,@Z0B_⟩
theorem Xc:type_of% @List.length_cons.{0}∧type_of% @List.length_nil.{0}∧type_of% @Nat.add_assoc∧type_of% @ne_eq.{1}∧type_of% @not_true_eq_false∧type_of% @decide_eq_true_eq∧type_of% @decide_true∧type_of% @decide_false∧type_of% @Bool.false_eq_true∧type_of% @Int.toNat_natCast∧type_of% @and_true∧type_of% @true_and∧type_of% @Bool.not_true∧type_of% @Bool.not_false∧type_of% @Option.map_none.{0,0}∧type_of% @List.map_cons.{0,0}∧type_of% @List.map_nil.{0,0}∧type_of% @eq_self_iff_true.{1}∧type_of% @Bool.true_eq_false:=⟨@List.length_cons.{0},@List.length_nil.{0},@Nat.add_assoc,@ne_eq.{1},@not_true_eq_false,@decide_eq_true_eq,@decide_true,@decide_false,@Bool.false_eq_true,@Int.toNat_natCast,@and_true,@true_and,@Bool.not_true,@Bool.not_false,@Option.map_none.{0,0},@List.map_cons.{0,0},@List.map_nil.{0,0},@eq_self_iff_true.{1},@Bool.true_eq_false⟩
theorem Xm:type_of% @NbU∧type_of% @NbV∧type_of% @NrL∧type_of% @NiH∧type_of% @NiI∧type_of% @Njl∧type_of% @NaN∧type_of% @NaG∧type_of% @Np5∧type_of% @Naz∧type_of% @Na2∧type_of% @Np6∧type_of% @Np7∧type_of% @Np8∧type_of% @Np9∧type_of% @Nqa∧type_of% @Nqb∧type_of% @Nqc∧type_of% @Nqd∧type_of% @Nqe∧type_of% @Nqf∧type_of% @Nqg∧type_of% @Nqh∧type_of% @Nqi∧type_of% @Nqq∧type_of% @Nqr∧type_of% @Nqs∧type_of% @Nqt∧type_of% @Nqu∧type_of% @Nqv∧type_of% @Nqw∧type_of% @Nqx∧type_of% @Nqy∧type_of% @Nqz∧type_of% @NqA∧type_of% @NqB∧type_of% @NqC∧type_of% @NqD∧type_of% @NqE∧type_of% @NqF∧type_of% @NqG∧type_of% @List.take_succ_cons.{0}∧type_of% @List.take_zero.{0}∧type_of% @List.drop_succ_cons.{0}∧type_of% @List.drop_zero.{0}∧type_of% @List.cons_append.{0}∧type_of% @List.nil_append.{0}∧type_of% @List.append_nil.{0}∧type_of% @List.all_cons.{0}∧type_of% @List.all_nil.{0}∧type_of% @Bool.and_self∧type_of% @Bool.and_true∧type_of% @Bool.true_and∧type_of% @Nat.zero_add∧type_of% @Nat.add_zero∧type_of% @Nat.le_refl∧type_of% @List.getElem?_cons_zero.{0}∧type_of% @List.getElem?_cons_succ.{0}∧type_of% @Nat.add_left_cancel_iff∧type_of% @Nat.left_eq_add∧type_of% @Nat.add_eq_left∧type_of% @not_false_eq_true∧type_of% @NqH∧type_of% @NqI∧type_of% @NqJ∧type_of% @Z1k_:=⟨@NbU,@NbV,@NrL,@NiH,@NiI,@Njl,@NaN,@NaG,@Np5,@Naz,@Na2,@Np6,@Np7,@Np8,@Np9,@Nqa,@Nqb,@Nqc,@Nqd,@Nqe,@Nqf,@Nqg,@Nqh,@Nqi,@Nqq,@Nqr,@Nqs,@Nqt,@Nqu,@Nqv,@Nqw,@Nqx,@Nqy,@Nqz,@NqA,@NqB,@NqC,@NqD,@NqE,@NqF,@NqG,@List.take_succ_cons.{0},@List.take_zero.{0},@List.drop_succ_cons.{0},@List.drop_zero.{0},@List.cons_append.{0},@List.nil_append.{0},@List.append_nil.{0},@List.all_cons.{0},@List.all_nil.{0},@Bool.and_self,@Bool.and_true,@Bool.true_and,@Nat.zero_add,@Nat.add_zero,@Nat.le_refl,@List.getElem?_cons_zero.{0},@List.getElem?_cons_succ.{0},@Nat.add_left_cancel_iff,@Nat.left_eq_add,@Nat.add_eq_left,@not_false_eq_true,@NqH,@NqI,@NqJ,@Z1k_⟩
end
end Go.Pe
