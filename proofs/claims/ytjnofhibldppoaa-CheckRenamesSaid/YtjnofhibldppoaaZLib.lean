/-
 General lemmas used by the proofs of this seat: a slice that is only read ('Rd'), kept under new blocks; a slice that the call made ('ownsRow' of the kit) as such a slice. No condition.
-/
import Derived.Test.YtjnofhibldppoaaRows
import Derived.WalkKit
import Derived.WalkSpells
import Derived.WalkLawsBesides
import Derived.Lib.Hide
import Derived.Deep.QuietTactic
import Derived.BigQuiet
import Derived.Laws.AppendOwnNone
namespace Go.Am
open Go.RowKit
def blk(ao:Option Addr):Nat:=(ao.getD ⟨0,0,none⟩).block
def off(ao:Option Addr):Nat:=(ao.getD ⟨0,0,none⟩).off
@[simp] theorem Nle(b o:Nat)(s):blk (some ⟨b,o,s⟩)=b:=rfl
@[simp] theorem Nl3(b o:Nat)(s):off (some ⟨b,o,s⟩)=o:=rfl
structure Rd(w:World)(sz:Nat)(ao:Option Addr)(n cap:Nat)(cs:List Value):Prop where
 len:cs.length=n * sz
 nil:ao=none→n=0∧cap=0
 spot:0<n→(ao.getD ⟨0,0,none⟩).spot=none
 lecap:n≤cap
 lemax:cap≤9223372036854775807
 lt:0<cs.length→blk ao<w.heap.size
 cell:∀ j (h:j<cs.length),w.cell? ⟨blk ao,off ao+j,none⟩=some cs[j]
def Holds(w w':World):Prop:=w.heap.size≤w'.heap.size∧∀ b o,b<w.heap.size→w'.cell? ⟨b,o,none⟩=w.cell? ⟨b,o,none⟩
theorem Holds.refl(w:World):Holds w w:=⟨Nat.le_refl _,fun _ _ _=>rfl⟩
theorem Rd.keep{w w':World}{sz:Nat}{ao:Option Addr}{n cap:Nat}{cs:List Value}(h:Rd w sz ao n cap cs)(hk:Holds w w'):Rd w' sz ao n cap cs :=
 {h with lt:=fun x=>Nat.lt_of_lt_of_le (h.lt x) hk.1,cell:=fun j hj=>by rw[hk.2 _ _ (h.lt (by omega))];exact h.cell j hj }
theorem Rd.below{B:Nat}{w w':World}{sz:Nat}{ao:Option Addr}{n cap:Nat}{cs:List Value}(h:Rd w sz ao n cap cs)(hk:Below B w w')(hb:0<cs.length→blk ao<B):Rd w' sz ao n cap cs :=
 {h with lt:=fun x=>Nat.lt_of_lt_of_le (h.lt x) hk.size,cell:=fun j hj=>by rw[hk.cell (p:=⟨blk ao,off ao+j,none⟩) (hb (by omega))];exact h.cell j hj }
theorem Rd.fresh{w w':World}{sz:Nat}{ao:Option Addr}{n cap:Nat}{cs:List Value}(h:Rd w sz ao n cap cs)(hk:Below w.heap.size w w'):Rd w' sz ao n cap cs:=h.below hk h.lt
theorem Ngg{P:Program}{t e:TypeId}{sz:Nat}(ht:P.underlying t=some (.slice e))(hs:((P.info? e).map (·.size))=some sz)(ao:Option Addr)(n cap:Nat)(k h:Nat)(hk:k≤h)(hh:h≤cap)(w:World) :
 (Instr.sliceAt t (.slice ao n cap) (some (.int .i64 k)) (some (.int .i64 h)) none).run P w=.ok (.slice (if cap=k then ao else ao.map (fun a=>Addr.add a (k * sz))) (h - k) (cap - k)) w:=by
 obtain⟨i0,hi,hz⟩:=Option.map_eq_some_iff.1 hs;simp[Instr.sliceAt,Instr.slice,run_underlying ht,Instr.sliceBounds,Instr.sliceBound,asIntOf,sizeOf,typeInfo,hi,hz,hk,hh]
theorem Ng5{P:Program}{t e:TypeId}{sz:Nat}(ht:P.underlying t=some (.slice e))(hs:((P.info? e).map (·.size))=some sz)(ao:Option Addr)(n cap:Nat)(k:Nat)(hk:k≤n)(w:World) :
 (Instr.sliceAt t (.slice ao n cap) (some (.int .i64 k)) none none).run P w=.ok (.slice (if cap=k then ao else ao.map (fun a=>Addr.add a (k * sz))) (n - k) (cap - k)) w:=by
 obtain⟨i0,hi,hz⟩:=Option.map_eq_some_iff.1 hs;simp[Instr.sliceAt,Instr.slice,run_underlying ht,Instr.sliceBounds,Instr.sliceBound,asIntOf,sizeOf,typeInfo,hi,hz,hk]
theorem Rd.sub{w:World}{sz:Nat}{ao:Option Addr}{n cap:Nat}{cs:List Value}(hr:Rd w sz ao n cap cs){k h:Nat}(hk:k≤h)(hh:h≤n) :
 Rd w sz (if cap=k then ao else ao.map (fun a=>Addr.add a (k * sz))) (h - k) (cap - k) ((cs.drop (k * sz)).take ((h - k) * sz)):=by
 have hl:=hr.len;have hle:=hr.lecap;have hmul:(h - k) * sz+k * sz=h * sz:=by rw[←Nat.add_mul];congr 1;omega
 have hmul2:h * sz≤n * sz:=Nat.mul_le_mul_right _ hh;have hlen:((cs.drop (k * sz)).take ((h - k) * sz)).length=(h - k) * sz:=by simp;omega
 by_cases hc:cap=k
 ·have h0:h - k=0:=by omega
  rw[if_pos hc,h0];refine { len:=by simp,nil:=fun e=>⟨rfl,by omega⟩,spot:=fun x=>by omega,lecap:=by omega,lemax:=by have:=hr.lemax;omega,lt:=fun x=>by simp at x,cell:=fun j x=>by simp at x }
 ·rw[if_neg hc];have hb:0<((cs.drop (k * sz)).take ((h - k) * sz)).length→blk (ao.map (fun a=>Addr.add a (k * sz)))=blk ao∧off (ao.map (fun a=>Addr.add a (k * sz)))=off ao+k * sz∧((ao.map (fun a=>Addr.add a (k * sz))).getD ⟨0,0,none⟩).spot=none∧0<cs.length:=by
   intro hp;rw[hlen]at hp;have hsz:0<sz:=by
    rcases Nat.eq_zero_or_pos sz with h0|h0
    ·subst h0;simp at hp
    ·exact h0
   have hn:0<n:=by
    rcases Nat.eq_zero_or_pos n with h0|h0
    ·subst h0;have:h - k=0:=by omega
     rw[this]at hp;simp at hp
    ·exact h0
   have hcs:0<cs.length:=(by rw[hl];exact Nat.mul_pos hn hsz);have hsp:=hr.spot hn;have hnil:=hr.nil;cases ao with
   |none=>have:=(hnil rfl).1;omega
   |some a =>
     obtain⟨b,o,s⟩:=a;simp at hsp;subst hsp;simp[Addr.add_lit,blk,off,hcs]
  refine { len:=hlen,nil:=fun e=>?_,spot:=fun x=>?_,lecap:=by omega,lemax:=by have:=hr.lemax;omega,lt:=fun x=>?_,cell:=fun j hj=>?_ }
  ·cases ao with
   |none=>have:=hr.nil rfl;omega
   |some a=>simp at e
  ·rcases Nat.eq_zero_or_pos sz with h0|h0
   ·subst h0;have hsp:=hr.spot (by omega);cases ao with
    |none=>rfl
    |some a=>simpa[Addr.add_zero']using hsp
   ·exact(hb (by rw[hlen];exact Nat.mul_pos x h0)).2.2.1
  ·obtain⟨h1,_,_,h4⟩:=hb x;rw[h1];exact hr.lt h4
  ·obtain⟨h1,h2,_,h4⟩:=hb (by omega);rw[h1,h2,Nat.add_assoc,hr.cell (k * sz+j) (by rw[hlen]at hj;omega)];simp
theorem Rd.from{P:Program}{t e:TypeId}{sz:Nat}(ht:P.underlying t=some (.slice e))(hs:((P.info? e).map (·.size))=some sz){w:World}{ao:Option Addr}{n cap:Nat}{cs:List Value}(hr:Rd w sz ao n cap cs){k:Nat}(hk:k≤n) :
 ∃ ao' cap',(∀ w,(Instr.sliceAt t (.slice ao n cap) (some (.int .i64 k)) none none).run P w=.ok (.slice ao' (n - k) cap') w)∧Rd w sz ao' (n - k) cap' (cs.drop (k * sz)):=by
 have h:=hr.sub hk (Nat.le_refl n);rw[List.take_of_length_le (by simp;rw[hr.len,Nat.sub_mul];omega)]at h;exact⟨_,_,fun w=>Ng5 ht hs ao n cap k hk w,h⟩
theorem Rd.mid{P:Program}{t e:TypeId}{sz:Nat}(ht:P.underlying t=some (.slice e))(hs:((P.info? e).map (·.size))=some sz){w:World}{ao:Option Addr}{n cap:Nat}{cs:List Value}(hr:Rd w sz ao n cap cs){k h:Nat}(hk:k≤h)(hh:h≤n) :
 ∃ ao' cap',(∀ w,(Instr.sliceAt t (.slice ao n cap) (some (.int .i64 k)) (some (.int .i64 h)) none).run P w=.ok (.slice ao' (h - k) cap') w)∧Rd w sz ao' (h - k) cap' ((cs.drop (k * sz)).take ((h - k) * sz)) :=
 ⟨_,_,fun w=>Ngg ht hs ao n cap k h hk (by have:=hr.lecap;omega) w,hr.sub hk hh⟩
def Nr1(k:IntKind)(xs:List Int):List Value:=xs.map (Value.int k)
@[simp] theorem NnV(k:IntKind)(xs:List Int):(Nr1 k xs).length=xs.length:=by simp[Nr1]
def gi(xs:List Int)(i:Nat):Int:=xs.getD i 0
theorem Nre{xs:List Int}{i:Nat}(h:i<xs.length):gi xs i=xs[i]:=by simp[gi,List.getD,h]
theorem Nrd{xs:List Int}{i:Nat}(h:xs.length≤i):gi xs i=0:=by simp[gi,List.getD,h]
structure Elem(P:Program)(t e:TypeId)(z:Value)(size bytes:Nat):Prop where
 under:P.underlying t=some (.slice e)
 info:(P.info? e).map (fun i=>(i.zero,i.size,i.bytes))=some (some z,size,bytes)
 cells:z.cells.size=size
 pos:0<size
 posb:0<bytes
theorem Elem.sz{P:Program}{t e:TypeId}{z:Value}{size bytes:Nat}(E:Elem P t e z size bytes):((P.info? e).map (·.size))=some size:=by
 obtain⟨i,hi,h1,h2,h3⟩:=info_parts E.info;simp[hi,h2]
theorem Rd.new(w:World)(sz n:Nat)(cs:Array Value)(e:TypeId)(hl:cs.size=n * sz)(hm:n≤9223372036854775807):Rd (w.alloc (.cells cs e)) sz (some ⟨w.heap.size,0,none⟩) n n cs.toList :=
 {len:=by simpa using hl,nil:=fun h=>by simp at h,spot:=fun _=>rfl,lecap:=Nat.le_refl _,lemax:=hm,lt:=fun _=>by simp,
  cell:=fun j hj=>by simp at hj;simp[hj] }
theorem Rd.at{w:World}{g sz n:Nat}{cs:Array Value}{e:TypeId}(hg:g=w.heap.size)(hl:cs.size=n * sz)(hm:n≤9223372036854775807):Rd (w.alloc (.cells cs e)) sz (some ⟨g,0,none⟩) n n cs.toList:=by
 subst hg;exact Rd.new w sz n cs e hl hm
def NaP(l:List UInt8):List Value:=l.map fun b=>Value.int .u8 (b.toNat:Int)
@[simp] theorem Nlf(l:List UInt8):(NaP l).length=l.length:=by simp[NaP]
def bi(l:List UInt8)(i:Nat):Nat:=(l.getD i 0).toNat
def Blk(w:World)(g:Nat)(t:TypeId)(cs:List Value):Prop:=w.heap[g]? = some (.cells cs.toArray t (0,0))
theorem Blk.lt{w:World}{g:Nat}{t:TypeId}{cs:List Value}(h:Blk w g t cs):g<w.heap.size:=lt_of_block h
theorem Blk.cell{w:World}{g:Nat}{t:TypeId}{cs:List Value}(h:Blk w g t cs){i:Nat}(hi:i<cs.length):w.cell? ⟨g,i,none⟩=some cs[i]:=by
 unfold Blk at h;simp[World.cell?,h,hi]
theorem Blk.free{w:World}{g:Nat}{t:TypeId}{cs:List Value}(h:Blk w g t cs)(i:Nat):w.frozen? ⟨g,i,none⟩=false:=by
 unfold Blk at h;simp[World.frozen?,h]
theorem Blk.set{w:World}{g:Nat}{t:TypeId}{cs:List Value}(h:Blk w g t cs)(i:Nat)(v:Value):Blk (w.setCell ⟨g,i,none⟩ v) g t (cs.set i v):=by
 have hlt:=h.lt;have h':w.heap[g]=.cells cs.toArray t (0,0):=by unfold Blk at h;simpa[Array.getElem?_eq_getElem hlt]using h
 show(w.heap.modify g _)[g]? = _;rw[Array.getElem?_eq_getElem (by simpa using hlt),Array.getElem_modify_self,h'];simp
theorem Blk.new(w:World)(t:TypeId)(cs:Array Value):Blk (w.alloc (.cells cs t)) w.heap.size t cs.toList:=heap_alloc_new w _
theorem Blk.at{w:World}{g:Nat}{t:TypeId}{cs:Array Value}(hg:g=w.heap.size):Blk (w.alloc (.cells cs t)) g t cs.toList:=by subst hg;exact heap_alloc_new w _
theorem Blk.below{B:Nat}{w w':World}{g:Nat}{t:TypeId}{cs:List Value}(h:Blk w g t cs)(hb:Below B w w')(hB:g<B):Blk w' g t cs:=by
 unfold Blk;rw[hb.block g hB];exact h
theorem Blk.fresh{w w':World}{g:Nat}{t:TypeId}{cs:List Value}(h:Blk w g t cs)(hb:Below w.heap.size w w'):Blk w' g t cs:=h.below hb h.lt
theorem Blk.rd{w:World}{g:Nat}{t:TypeId}{cs:List Value}(h:Blk w g t cs){n cap:Nat}(hn:n≤cs.length)(hc:n≤cap)(hm:cap≤9223372036854775807):Rd w 1 (some ⟨g,0,none⟩) n cap (cs.take n) :=
 {len:=by simp;omega,nil:=fun h=>by simp at h,spot:=fun _=>rfl,lecap:=hc,lemax:=hm,lt:=fun _=>h.lt,
  cell:=by
   intro j hj;simp at hj;simp only[Nle,Nl3,Nat.zero_add];rw[h.cell (i:=j) (by omega)];simp }
def Nrp(x:Int):Prop:=-9223372036854775808≤x∧x≤9223372036854775807
def wf64(xs:List Int):Prop:=∀ x∈xs,Nrp x
theorem wf64.gi{xs:List Int}(h:wf64 xs)(i:Nat):Nrp (Am.gi xs i):=by
 by_cases hi:i<xs.length
 ·rw[Nre hi];exact h _ (List.getElem_mem _)
 ·rw[Nrd (by omega)];unfold Nrp;omega
theorem Ng4 {P : Program} {f : FuncId} {fn : Func} (hf : P.funcs[f]? = some fn) (hn : decide (fn.name = "runtime.NumGoroutine") = false) (hb : fn.body.isNone = false) (args : Array Value) (w : World) :
 (callFunc f args).run P w=.ok (.enter f args) w:=by
 have h1 : ¬ fn.name = "runtime.NumGoroutine" := by simpa using hn
 have h2:¬ fn.body=none:=by intro h;simp[h]at hb
 simp[callFunc,hf,h1,h2]
theorem _root_.Sj{α:Type _}(a b:α):(some a=some b)=(a=b):=Option.some.injEq a b
theorem _root_.Pj{α:Type _}{β:Type _}(a c:α)(b d:β):((a,b)=(c,d))=(a=c∧b=d):=Prod.mk.injEq a b c d
end Go.Am
