/-
 How any argument of a law is opened: numbers, truths, texts, structures, arrays, slices, slices of slices, as plain data over the first world. No condition; nothing of the program.
-/
import Derived.Test.YtjnofhibldppoaaZLib
import Derived.ProofKit
import Derived.OpenShut
import Derived.ShutString
import Derived.ChangeOld
import Derived.SizedLaws
import Derived.Test.YtjnofhibldppoaaZPe4
namespace Go.Am
open Go.RowKit Go.ChangeShapes Go.WideShapes Go.ChangeAt
set_option linter.unusedVariables false
end Go.Am
namespace Go.Pe
open Go.RowKit Go.ChangeShapes Go.WideShapes Go.ChangeAt Go.Am
inductive Sh where
 |i (k:IntKind)
 |b
 |s
 |sl (e:Sh)
 |st (r:Sh)
 |cons (a r:Sh)
 |nil
 |bot (w:Nat)
def Sh.width:Sh→Nat
 |.i _=>1
 |.b=>1
 |.s=>1
 |.sl _=>1
 |.st r=>r.width
 |.cons a r=>a.width+r.width
 |.nil=>0
 |.bot w=>w
def Sh.dep:Sh→Nat→Prop
 |.bot _,f=>f=0
 |.sl e,f+1=>e.dep f
 |.st r,f+1=>r.dep f
 |.cons a r,f=>a.dep f∧r.dep f
 |_,_=>True
def Sh.flat:Sh→Bool
 |.bot _=>false
 |.sl e=>e.flat
 |.st r=>r.flat
 |.cons a r=>a.flat&&r.flat
 |_=>true
theorem Sh.dep_flat:∀ {sh:Sh},sh.flat=true→∀ f,sh.dep f
 |.bot _,h,_=>by simp[Sh.flat]at h
 |.sl e,h,0=>by simp[Sh.dep]
 |.sl e,h,f+1=>by simp only[Sh.dep];exact Sh.dep_flat (sh:=e) h f
 |.st e,h,0=>by simp[Sh.dep]
 |.st e,h,f+1=>by simp only[Sh.dep];exact Sh.dep_flat (sh:=e) h f
 |.cons a r,h,f=>by
   simp only[Sh.flat,Bool.and_eq_true]at h;simp only[Sh.dep];exact⟨Sh.dep_flat h.1 f,Sh.dep_flat h.2 f⟩
 |.i _,_,_=>by simp[Sh.dep]
 |.b,_,_=>by simp[Sh.dep]
 |.s,_,_=>by simp[Sh.dep]
 |.nil,_,_=>by simp[Sh.dep]
def Sh.low:Sh→Nat
 |.st (.cons (.i .u8) (.cons .s (.cons (.i .i64) (.cons (.sl _) .nil))))=>56
 |_=>1
theorem Sh.low_pos(e:Sh):1≤e.low:=by
 unfold Sh.low;split<;>omega
def Sh.fits(P:Program):Sh→Sum TypeId (Nat×List (TypeId×Nat))→Bool
 |.i k,.inl t=>match P.underlying t with
   |some (.int k')=>decide (k'=k)
   |_=>false
 |.b,.inl t=>match P.underlying t with
   |some .bool=>true
   |_=>false
 |.s,.inl t=>match P.underlying t with
   |some .string=>true
   |_=>false
 |.sl e,.inl t=>match P.underlying t with
   |some (.slice et)=>e.fits P (.inl et)&&decide (P.cellsOf et=e.width)&&decide (0<e.width)&&decide (0<P.bytesOf et)&&decide (e.low≤P.bytesOf et)
   |_=>false
 |.st r,.inl t=>match P.underlying t with
   |some (.struct fs)=>r.fits P (.inr (0,fs.toList.map fun f=>(f.type,f.offset)))&&decide (P.cellsOf t=r.width)
   |some (.array n e)=>r.fits P (.inr (0,(List.range n).map fun j=>(e,j * P.cellsOf e)))&&decide (P.cellsOf t=r.width)
   |_=>false
 |.cons a r,.inr (off,(ft,o)::L)=>decide (o=off)&&decide (P.cellsOf ft=a.width)&&a.fits P (.inl ft)&&r.fits P (.inr (off+a.width,L))
 |.nil,.inr (_,[])=>true
 |.bot _,.inl _=>true
 |_,_=>false
def Sh.Is:Sh→List PV→Prop
 |.i k,cs=>∃ n,cs=[.i k n]∧(Lit.int k n).wf=true
 |.b,cs=>∃ x,cs=[.b x]
 |.s,cs=>∃ l:List UInt8,cs=[.s l]∧l.length≤reachBytes
 |.sl e,cs=>∃ n ps,cs=[.fsl n ps]∧ps.length=n * e.width∧n * e.low≤reachBytes∧∀ j,j<n→e.Is ((ps.drop (j * e.width)).take e.width)
 |.st r,cs=>r.Is cs
 |.cons a r,cs=>a.Is (cs.take a.width)∧r.Is (cs.drop a.width)
 |.nil,cs=>cs=[]
 |.bot _,_=>False
section
variable {H:Type}{enc:TypeId×Value→H}{P:Program}{W:World}
def Small(P:Program)(t:TypeId)(d:DataW H):Prop:=∀ n∈d.weights P t,n≤reachBytes
theorem Nff{e:TypeId}:∀ {ds:List (DataW H)},(∀ n∈DataW.weightsAll P e ds,n≤reachBytes)→∀ d∈ds,Small P e d
 |[],_,d,hd=>by simp at hd
 |x::r,h,d,hd=>by
   simp only[DataW.weightsAll,List.mem_append]at h;rcases List.mem_cons.1 hd with rfl|hd
   ·exact fun n hn=>h n (.inl hn)
   ·exact Nff (fun n hn=>h n (.inr hn)) d hd
theorem NiZ{α:Type}{w:Nat}(g:Nat→List α):∀ n,(∀ j,j<n→(g j).length=w)→((List.range n).flatMap g).length=n * w∧∀ j,j<n→((((List.range n).flatMap g).drop (j * w)).take w)=g j:=by
 intro n
 induction n with
 |zero=>intro _;exact⟨by simp,fun j hj=>by omega⟩
 |succ n ih =>
   intro h;obtain⟨h1,h2⟩:=ih (fun j hj=>h j Zaa);have hn:=h n Zaa;refine⟨by rw[List.range_succ,List.flatMap_append,List.length_append,h1];simp[hn,Nat.add_mul],fun j hj=>?_⟩;rw[List.range_succ,List.flatMap_append];simp only[List.flatMap_cons,List.flatMap_nil,List.append_nil];by_cases hjn:j<n
   ·have hle:j * w+w≤n * w:=by
     have:=Nat.mul_le_mul_right w (show j+1≤n from hjn);rwa[Nat.add_mul,Nat.one_mul]at this
    rw[List.drop_append_of_le_length (by rw[h1];omega),List.take_append_of_le_length (by rw[List.length_drop,h1];omega)];exact h2 j hjn
   ·have:j=n:=(by omega);subst this;rw[List.drop_append,h1,List.drop_of_length_le (by rw[h1];omega),Nat.sub_self,List.drop_zero,List.nil_append,←hn,List.take_length]
theorem FC.drop{F:Nat→Nat→Option Value}{vs:List Value}{ps:List PV}(h:FC F vs ps)(k:Nat):FC F (vs.drop k) (ps.drop k) :=
 ⟨by simp[h.1],fun i v p hv hp=>h.2 (k+i) v p (by simpa using hv) (by simpa using hp)⟩
theorem FC.append{F:Nat→Nat→Option Value}{vs us:List Value}{ps qs:List PV}(h:FC F vs ps)(k:FC F us qs):FC F (vs++us) (ps++qs):=by
 refine⟨by simp[h.1,k.1],fun i v p hv hp=>?_⟩;by_cases hi:i<vs.length
 ·rw[List.getElem?_append_left hi]at hv;rw[List.getElem?_append_left (by rw[←h.1];exact hi)]at hp;exact h.2 i v p hv hp
 ·rw[List.getElem?_append_right Zaa]at hv;rw[List.getElem?_append_right (by rw[←h.1];omega),←h.1]at hp;exact k.2 _ v p hv hp
theorem Nla{b o n cap w:Nat}{ps:List PV}(hc:n≤cap)(hm:cap≤maxLen)(hl:ps.length=n * w)
 (h:∀ j,j<n→∃ cs,W.cells? 0 ((⟨b,o,none⟩:Addr).add (j * w)) w=some cs∧FC (Nk2 W) cs ((ps.drop (j * w)).take w)) (hw:0<w):FRel (Nk2 W) (.slice (some ⟨b,o,none⟩) n cap) (.fsl n ps):=by
 have key:∀ i,i<ps.length→∃ v,W.cell? ⟨b,o+i,none⟩=some v∧∀ p,ps[i]? = some p→FRel (Nk2 W) v p:=by
  intro i hi;have hj:i / w<n:=by rw[hl]at hi;exact(Nat.div_lt_iff_lt_mul hw).2 hi
  obtain⟨cs,h1,h2⟩:=h (i / w) hj;obtain⟨_,hcl,hce⟩:=World.cells?_some h1;have hr:i % w<w:=Nat.mod_lt _ hw;have hdm:=Nat.div_add_mod i w;have hmm:w * (i / w)=i / w * w:=Nat.mul_comm _ _;have h3:=hce (i % w) hr;rw[Addr.add_lit,Addr.add_lit,List.getElem?_eq_getElem Zaa]at h3;rw[show o+i / w * w+i % w=o+i by omega]at h3;refine⟨_,h3,fun p hp=>?_⟩;refine h2.2 (i % w) _ p (List.getElem?_eq_getElem Zaa) ?_;rw[List.getElem?_take,if_pos hr,List.getElem?_drop,show i / w * w+i % w=i by omega];exact hp
 refine .fsl b o n cap ps (fun i=>(W.cell? ⟨b,o+i,none⟩).getD default) hc hm ?_ ?_
 ·intro i hi;obtain⟨v,h1,_⟩:=key i hi;show W.cell? ⟨b,o+i,none⟩=_;rw[h1];rfl
 ·intro i p hp;have hi:i<ps.length:=by
   rcases Nat.lt_or_ge i ps.length with h|h
   ·exact h
   ·rw[List.getElem?_eq_none h]at hp;simp at hp
  obtain⟨v,h1,h2⟩:=key i hi;rw[h1];exact h2 p hp
def NqR(enc:TypeId×Value→H)(P:Program)(W:World)(sh:Sh):Prop:=∀ (t:TypeId) (fuel:Nat) (cs:List Value) (d:DataW H) (p:List MemPlace),sh.dep fuel→sh.fits P (.inl t)=true→DataW.trod enc P W 0 (fun _=>true) true fuel t cs=some (d,p)→Small P t d→cs.length=sh.width→∃ ps,FC (Nk2 W) cs ps∧sh.Is ps
def NqS(enc:TypeId×Value→H)(P:Program)(W:World)(sh:Sh):Prop:=∀ (off:Nat) (L:List (TypeId×Nat)) (fuel:Nat) (cs:List Value),sh.dep fuel→sh.fits P (.inr (off,L))=true →
 (∀ (i:Nat) (t:TypeId) (o:Nat),L[i]? = some (t,o)→∃ d p,DataW.trod enc P W 0 (fun _=>true) true fuel t ((cs.drop o).take (P.cellsOf t))=some (d,p)∧Small P t d)→off+sh.width=cs.length→∃ ps,FC (Nk2 W) (cs.drop off) ps∧sh.Is ps
theorem FC.one{F:Nat→Nat→Option Value}{v:Value}{p:PV}(h:FRel F v p):FC F [v] [p]:=FC.cons h FC.nil
theorem Nk0:∀ sh:Sh,NqR enc P W sh∧NqS enc P W sh:=by
 intro sh
 induction sh with
 |i k =>
   refine⟨?_,fun off L fuel cs hdp h=>by simp[Sh.fits]at h⟩;intro t fuel cs d p hdp h ht hs hl;unfold Sh.fits at h;split at h
   ·rename_i k' hu;simp only[decide_eq_true_eq]at h;subst h;obtain⟨n,rfl,_,hw⟩:=DataW.trod_int hu ht;exact⟨_,FC.one (.i _ _),n,rfl,hw⟩
   ·simp at h
 |b =>
   refine⟨?_,fun off L fuel cs hdp h=>by simp[Sh.fits]at h⟩;intro t fuel cs d p hdp h ht hs hl;unfold Sh.fits at h;split at h
   ·rename_i hu;obtain⟨x,rfl,_⟩:=DataW.trod_bool hu ht;exact⟨_,FC.one (.b _),x,rfl⟩
   ·simp at h
 |s =>
   refine⟨?_,fun off L fuel cs hdp h=>by simp[Sh.fits]at h⟩;intro t fuel cs d p hdp h ht hs hl;unfold Sh.fits at h;split at h
   ·rename_i hu;obtain⟨x,rfl,hx,_⟩:=DataW.trod_string hu ht;simp only[Pj]at hx;have:=hs x.data.toList.length (by rw[hx.1];simp[DataW.weights]);exact⟨_,FC.one (.s x.data.toList),_,rfl,this⟩
   ·simp at h
 |sl e ih =>
   refine⟨?_,fun off L fuel cs hdp h=>by simp[Sh.fits]at h⟩;intro t fuel cs d p hdp h ht hs hl;unfold Sh.fits at h;split at h
   ·rename_i et hu;simp only[Bool.and_eq_true,decide_eq_true_eq]at h;obtain⟨⟨⟨⟨h1,h2⟩,h3⟩,h4⟩,h5⟩:=h;rcases DataW.trod_slice hu ht with⟨rfl,_⟩|⟨a,len,cap,elems,rest,n,rfl,rfl,hx,hb,hlc,hcm,hel,hg,hr,_⟩
    ·exact⟨_,FC.one (.fnull none 0 (Nat.zero_le _)),0,[],rfl,by simp,by rw[Nat.zero_mul];exact Nat.zero_le _,fun j hj=>by omega⟩
    ·simp only[Pj]at hx;have hsm:∀ m∈(elems.map (·.1)).length * P.bytesOf et::DataW.weightsAll P et (elems.map (·.1)),m≤reachBytes:=by
      intro m hm;rcases List.mem_cons.1 hm with rfl|hm
      ·have:=hs (((elems.map (·.1)).length+(rest.map (·.1)).length) * P.bytesOf et) (by rw[hx.1];simp[DataW.weights,hu]);refine Nat.le_trans (Nat.mul_le_mul_right _ (Nat.le_add_right _ _)) this
      ·exact hs m (by rw[hx.1];simp only[DataW.weights,hu];simp[hm])
     have hlen:len * e.low≤reachBytes:=by
      have:=hsm _ List.mem_cons_self;rw[List.length_map,hel]at this;exact Nat.le_trans (Nat.mul_le_mul_left _ h5) this
     have hall:=Nff (fun m hm=>hsm m (List.mem_cons_of_mem _ hm));rcases Nat.eq_zero_or_pos len with h0|h0
     ·subst h0;exact⟨_,FC.one (.fnull (some a) cap hcm),0,[],rfl,by simp,by rw[Nat.zero_mul];exact Nat.zero_le _,fun j hj=>by omega⟩
     have hone:∀ j,j<len→∃ cs' qs,W.cells? 0 (a.add (j * e.width)) e.width=some cs'∧FC (Nk2 W) cs' qs∧e.Is qs∧qs.length=e.width:=by
      intro j hj;have hgj:=hg j hj;rw[List.getElem?_eq_getElem Zaa]at hgj;rw[Option.bind_eq_some_iff]at hgj;obtain⟨cs',hc1,hc2⟩:=hgj;rw[h2]at hc1;obtain⟨_,hcl,_⟩:=World.cells?_some hc1;obtain⟨qs,q1,q2⟩:=ih.1 et n cs' _ _ hdp h1 hc2 (hall _ (List.mem_map.2 ⟨elems[j],List.getElem_mem _,rfl⟩)) hcl;exact⟨cs',qs,hc1,q1,q2,by rw[←q1.1,hcl]⟩
     obtain⟨b0,o0,sp⟩:=a;have hsp:sp=none:=by
      obtain⟨cs',qs,c1,_,_,_⟩:=hone 0 h0;obtain⟨_,hcl,hce⟩:=World.cells?_some c1;have:=hce 0 h3;rw[List.getElem?_eq_getElem Zaa,Nat.zero_mul]at this;cases sp with
      |none=>rfl
      |some x =>
        simp only[Addr.add_zero',World.cell?]at this;split at this<;>simp at this
     subst hsp;obtain⟨g,hgd⟩:∃ g:Nat→List PV,∀ j,j<len→∃ cs',W.cells? 0 ((⟨b0,o0,none⟩:Addr).add (j * e.width)) e.width=some cs'∧FC (Nk2 W) cs' (g j)∧e.Is (g j)∧(g j).length=e.width:=by
      refine⟨fun j=>if hj:j<len then Classical.choose (Classical.choose_spec (hone j hj))else [],fun j hj=>?_⟩;simp only[hj,dif_pos];exact⟨_,Classical.choose_spec (Classical.choose_spec (hone j hj))⟩
     obtain⟨f1,f2⟩:=NiZ (w:=e.width) g len (fun j hj=>by obtain⟨_,_,_,_,q⟩:=hgd j hj;exact q);refine⟨[.fsl len ((List.range len).flatMap g)],FC.one (Nla hlc hcm f1 (fun j hj=>?_) h3),len,_,rfl,f1,hlen,fun j hj=>?_⟩
     ·obtain⟨cs',c1,c2,_,_⟩:=hgd j hj;exact⟨cs',c1,by rw[f2 j hj];exact c2⟩
     ·obtain⟨cs',c1,c2,c3,_⟩:=hgd j hj;rw[f2 j hj];exact c3
   ·simp at h
 |st r ih =>
   refine⟨?_,fun off L fuel cs hdp h=>by simp[Sh.fits]at h⟩;intro t fuel cs d p hdp h ht hs hl;unfold Sh.fits at h;split at h
   ·rename_i fs hu;simp only[Bool.and_eq_true,decide_eq_true_eq]at h;obtain⟨xs,n,rfl,hx,hcl,hxl,hel⟩:=DataW.trod_struct hu ht;simp only[Pj]at hx;have:=ih.2 0 _ n cs hdp h.1 (by
     intro i tt o hi;rw[List.getElem?_map]at hi;rw[Option.map_eq_some_iff]at hi;obtain⟨f,hf,hfe⟩:=hi;simp only[Pj]at hfe;obtain⟨rfl,rfl⟩:=hfe;have hil:i<fs.size:=by
      have:=(List.getElem?_eq_some_iff.1 hf).1;simpa using this
     have hf':fs[i]? = some f:=(by simpa using hf);have he:=hel i f hf';rw[List.getElem?_eq_getElem Zaa]at he;refine⟨_,_,he,?_⟩;intro m hm;refine hs m ?_;rw[hx.1];simp only[DataW.weights,hu];refine DataW.weights_mem_each (j:=i) (t:=f.type) (d:=(xs[i]'Zaa).1) ?_ ?_ m hm
     ·rw[List.getElem?_map,hf];rfl
     ·rw[List.getElem?_map,List.getElem?_eq_getElem Zaa];rfl) (by rw[Nat.zero_add,hl];rfl)
    rw[List.drop_zero]at this;exact this
   ·rename_i n e hu;simp only[Bool.and_eq_true,decide_eq_true_eq]at h;obtain⟨xs,m,rfl,hx,hcl,hxl,hel⟩:=DataW.trod_array hu ht;simp only[Pj]at hx;have hall:=Nff (P:=P) (e:=e) (ds:=xs.map (·.1)) (fun q hq=>hs q (by rw[hx.1];simp only[DataW.weights,hu];exact hq));have:=ih.2 0 _ m cs hdp h.1 (by
     intro i tt o hi;rw[List.getElem?_map]at hi;rw[Option.map_eq_some_iff]at hi;obtain⟨j,hf,hfe⟩:=hi;simp only[Pj]at hfe;obtain⟨rfl,rfl⟩:=hfe;obtain⟨hil,hj⟩:=List.getElem?_eq_some_iff.1 hf;rw[List.getElem_range]at hj;subst hj;rw[List.length_range]at hil;have he:=hel i hil;rw[List.getElem?_eq_getElem Zaa]at he;exact⟨_,_,he,hall _ (List.mem_map.2 ⟨_,List.getElem_mem _,rfl⟩)⟩) (by rw[Nat.zero_add,hl];rfl)
    rw[List.drop_zero]at this;exact this
   ·simp at h
 |cons a r iha ihr =>
   refine⟨fun t fuel cs d p hdp h=>by simp[Sh.fits]at h,?_⟩;intro off L fuel cs hdp h hL hw;cases L with
   |nil=>simp[Sh.fits]at h
   |cons q L =>
     obtain⟨ft,o⟩:=q;simp only[Sh.fits,Bool.and_eq_true,decide_eq_true_eq]at h;obtain⟨⟨⟨rfl,h2⟩,h3⟩,h4⟩:=h;obtain⟨d,p,ht,hs⟩:=hL 0 ft o rfl;rw[h2]at ht;have hw':o+(a.width+r.width)=cs.length:=hw;obtain⟨ps,p1,p2⟩:=iha.1 ft fuel _ d p hdp.1 h3 ht hs (by rw[List.length_take,List.length_drop];omega);obtain⟨qs,q1,q2⟩:=ihr.2 (o+a.width) L fuel cs hdp.2 h4 (fun i t' o' hi=>hL (i+1) t' o' hi) (by rw[Nat.add_assoc];exact hw');have hpl:ps.length=a.width:=(by rw[←p1.1,List.length_take,List.length_drop];omega);refine⟨ps++qs,?_,?_,?_⟩
     ·have:=FC.append p1 q1;rwa[←List.drop_drop,List.take_append_drop]at this
     ·rw[←hpl,List.take_left];exact p2
     ·rw[←hpl,List.drop_left];exact q2
 |nil =>
   refine⟨fun t fuel cs d p hdp h=>by simp[Sh.fits]at h,?_⟩;intro off L fuel cs hdp h hL hw;have hw':off+0=cs.length:=hw;refine⟨[],?_,rfl⟩;rw[List.drop_of_length_le Zaa];exact FC.nil
 |bot w =>
   refine⟨?_,fun off L fuel cs hdp h=>by simp[Sh.fits]at h⟩;intro t fuel cs d p hdp h ht hs hl;simp only[Sh.dep]at hdp;subst hdp;simp[DataW.trod]at ht
theorem Np2{E:Nat→Sh}{t:TypeId}{v:Value}{d:DataW H}{p:List MemPlace}(hE:∀ f,(E f).dep f)(hf:∀ f,(E f).fits P (.inl t)=true)(h:DataW.Trod enc P W 0 (fun _=>true) true t v d p)(hs:Small P t d)(hl:∀ f,v.cells.toList.length=(E f).width) :
 ∃ f ps,FC (Nk2 W) v.cells.toList ps∧(E f).Is ps:=by
 obtain⟨fuel,hf'⟩:=h;obtain⟨ps,h1,h2⟩:=(Nk0 (E fuel)).1 t fuel _ d p (hE fuel) (hf fuel) hf' hs (hl fuel);exact⟨fuel,ps,h1,h2⟩
theorem NkS{ts:List TypeId}{ds:List (DataW H)}(h:(DataW.weightsEach P ts ds).all (·≤reachBytes)=true)(j:Nat){t:TypeId}{d:DataW H}(ht:ts[j]? = some t)(hd:ds[j]? = some d):Small P t d:=by
 intro n hn;have:=List.all_eq_true.1 h _ (DataW.weights_mem_each ht hd n hn);simpa using this
theorem Nmw{E:Nat→Sh}{t:TypeId}{fs:Array Field}{v:Value}{d:DataW H}{p:List MemPlace}{r:Reach}{b0:Nat}(hu:P.underlying t=some (.struct fs))(hw:∀ f,P.cellsOf t=(E f).width)(hE:∀ f,(E f).dep f)(hf:∀ f,(E f).fits P (.inl t)=true)(hv:Value.okWide P W r b0 t v)(h:DataW.Trod enc P W 0 (fun _=>true) true t v d p)(hs:Small P t d) :
 ∃ f ps,FRel (Nk2 W) v (.agg ps)∧(E f).Is ps:=by
 obtain⟨cs,rfl,hsz⟩:=okWide_struct hu hv;obtain⟨f,ps,h1,h2⟩:=Np2 hE hf h hs (fun f=>by show cs.toList.length=(E f).width;rw[Array.length_toList,hsz,hw]);exact⟨f,ps,.agg _ _ (by have:=h1.1;simpa[Value.cells]using this) (fun i v p hv hp=>h1.2 i v p (by simpa[Value.cells]using hv) hp),h2⟩
end
end Go.Pe
