/-
 Open-order regions in the logic: nothing hangs on when an operation runs that reads only what no other one writes. No condition; nothing of the program.
-/
import Derived.Test.YtjnofhibldppoaaZPe7
set_option linter.unusedVariables false
set_option linter.unusedSimpArgs false
set_option maxHeartbeats 4000000
namespace Go.Pe
open Go
section
variable {cfg:Cfg}{callE:CallE}{key:Nat}{st st':St}{v:PV}{ml:List MOper}
def NdT:MOp→Bool
 |.mv _|.pick ..|.bin ..|.eqb ..|.eqn ..|.eqs ..|.un ..|.field ..|.index ..|.extract ..|.len _|.slen _|.alen _|.min ..|.max ..|.substr ..|.sindex ..|.fieldAddr ..|.build ..|.nilck _|.indexAddr ..|.slice none ..=>true
 |.conv (.int _) _|.conv .same _=>true
 |_=>false
def NhP:MOp→Bool
 |.load ..=>true
 |_=>false
theorem Neq{ρ:Arg→PV}{m:MOp}(hp:NdT m=true)(h:Nal cfg callE ρ st key m=some (v,st')):st'=st∧∀ st2 key2,Nal cfg callE ρ st2 key2 m=some (v,st2):=by
 cases m
 case conv c x =>
  cases c with
  |int k =>
    simp only[Nal]at h ⊢;split at h<;>simp_all
  |same =>
    simp only[Nal]at h ⊢;split at h<;>simp_all
  |_=>simp[NdT]at hp
 case slice len sz x lo hi =>
  cases len with
  |none =>
    simp only[Nal]at h ⊢;obtain⟨a,ha,he⟩:=Option.map_eq_some_iff.1 h;cases he;exact⟨rfl,fun _ _=>by rw[ha];rfl⟩
  |some N=>simp[NdT]at hp
 case indexAddr arr sz x i =>
  cases arr<;>simp only[Nal]at h ⊢<;>(repeat' split at h)<;>simp_all
 all_goals first
  |(simp[NdT]at hp;done)
  |(simp only[Nal]at h ⊢;simp only[Option.some.injEq,Prod.mk.injEq]at h;obtain⟨rfl,rfl⟩:=h;exact⟨rfl,fun _ _=>rfl⟩)
  |(simp only[Nal]at h ⊢;obtain⟨a,ha,he⟩:=Option.map_eq_some_iff.1 h;cases he;exact⟨rfl,fun _ _=>by rw[ha];rfl⟩)
  |(simp only[Nal]at h ⊢;(repeat' split at h)<;>first|(simp at h;done)|(cases h;exact⟨rfl,fun _ _=>by simp_all⟩)|(obtain⟨a,ha,he⟩:=Option.map_eq_some_iff.1 h;cases he;exact⟨rfl,fun _ _=>by simp_all⟩))
theorem Nek{ρ:Arg→PV}{agg:Bool}{n:Nat}{a:Arg}(h:Nal cfg callE ρ st key (.load agg n a)=some (v,st')):st'=st∧∀ st2 key2,(∀ k o,ρ a=.ptr k o→st2.get k=st.get k)→Nal cfg callE ρ st2 key2 (.load agg n a)=some (v,st2):=by
 simp only[Nal]at h ⊢;have hl:∀ st2:St,(∀ k o,ρ a=.ptr k o→st2.get k=st.get k)→NaS st2 n (ρ a)=NaS st n (ρ a):=by
  intro st2 hk;unfold NaS;split
  ·rename_i k o e;rw[hk _ _ e]
  ·rfl
  ·rfl
 split at h
 ·rename_i cs hcs;simp only[Option.map_eq_some_iff,Prod.mk.injEq]at h;obtain⟨x,hx,rfl,rfl⟩:=h;refine⟨rfl,fun st2 key2 hk=>?_⟩;rw[hl st2 hk,hcs];simp[hx]
 ·simp at h
theorem Njy{r:PV}(h:Nav st key r=some (v,st'))(st2:St):∃ st2',Nav st2 key r=some (v,st2')∧((st2'=st2∧st'=st)∨st2'.get key=st'.get key):=by
 unfold Nav at h ⊢;split at h
 ·simp only[Option.some.injEq,Prod.mk.injEq]at h;obtain⟨rfl,rfl⟩:=h;exact⟨_,rfl,.inr (by rw[Yaf,Yaf])⟩
 ·split at h
  ·split at h
   ·rename_i hc;simp only[Option.some.injEq,Prod.mk.injEq]at h;obtain⟨rfl,rfl⟩:=h;simp only[hc,if_true];exact⟨_,rfl,.inr (by rw[Yaf,Yaf])⟩
   ·simp at h
  ·simp only[Option.some.injEq,Prod.mk.injEq]at h;obtain⟨rfl,rfl⟩:=h;exact⟨_,rfl,.inl ⟨rfl,rfl⟩⟩
 ·simp only[Option.some.injEq,Prod.mk.injEq]at h;obtain⟨rfl,rfl⟩:=h;exact⟨_,rfl,.inl ⟨rfl,rfl⟩⟩
theorem NfD{ρ:Arg→PV}{f:FuncId}{args:List Arg}{l:List PV}(hp:∀ st,Na9 st (args.map ρ)=some l)(h:Nal cfg callE ρ st key (.callq f args)=some (v,st'))(st2:St):∃ st2',Nal cfg callE ρ st2 key (.callq f args)=some (v,st2')∧((st2'=st2∧st'=st)∨st2'.get key=st'.get key):=by
 simp only[Nal,hp]at h ⊢;split at h
 ·split at h
  ·rename_i hc;simp only[hc,if_true];exact Njy h st2
  ·simp at h
 ·simp at h
def NhM(T:List Nat)(k0:Nat)(ρ:Arg→PV):MOp→Prop
 |.load _ _ a=>∀ k o,ρ a=.ptr k o→k<k0∧k∉T
 |.callq _ args=>∃ l,∀ st,Na9 st (args.map ρ)=some l
 |m=>NdT m=true
def Nh5(nd:Bool)(T:List Nat)(k0 key:Nat)(ρ:Arg→PV)(st:St)(m:MOp):Prop :=
 Nas m=true→((nd||NdT m||NhP m)=true→key∉T)∧(nd=true→NhM T k0 ρ m)
def Net(nd:Bool)(key:Nat)(v:PV)(st':St):Prop:=nd=true→PV.same NbS v v=true∧PObj.same (st'.get key) (st'.get key)=true
def Nb8(nd:Bool)(T:List Nat)(key:Nat)(m:MOp)(st:St)(v:PV)(st':St):Prop:=if Nas m then Net nd key v st' else ∀ k,k≠key→k∉T→st'.get k=st.get k
def WOC(cfg:Cfg)(callE:CallE)(T:List Nat)(k0:Nat):List Bool→List MOper→Nat→Loc→(Loc→Prop)→Prop
 |_,[],_,c,Q=>Q c
 |[],_::_,_,_,_=>False
 |nd::ns,o::r,key,c,Q=>match Nar c o.guard with
   |some true=>Nh5 nd T k0 key c.rd c.st o.op∧WV (Nal cfg callE c.rd c.st key o.op) fun v st'=>Nb8 nd T key o.op c.st v st'∧WOC cfg callE T k0 ns r (key+8) (({ c with st:=st' }:Loc).wr o.dst v) Q
   |some false=>WOC cfg callE T k0 ns r (key+8) (c.wr o.dst (.tup [])) Q
   |none=>False
def Nlr(cfg:Cfg)(callE:CallE)(T:List Nat)(k0 key:Nat)(nd:Bool)(o:MOper)(c:Loc)(v:PV)(s1 s2:St):Prop :=
 c.st=s1∧((Nar c o.guard=some true∧Nh5 nd T k0 key c.rd s1 o.op∧Nal cfg callE c.rd s1 key o.op=some (v,s2)∧Nb8 nd T key o.op s1 v s2)∨(Nar c o.guard=some false∧s2=s1))
theorem Nhi{cfg:Cfg}{callE:CallE}{T:List Nat}{k0:Nat}{Q:Loc→Prop}:∀ (ml:List MOper) (ns:List Bool) (key:Nat) (c:Loc),WOC cfg callE T k0 ns ml key c Q →
 ∃ tr c',NcF cfg callE ml key c=some (tr,c')∧Q c'∧tr.length=ml.length∧stAt tr c' 0=c.st∧∀ i o,ml[i]? = some o→∃ ci vi nd,tr[i]? = some (ci,vi)∧ns[i]? = some nd∧Nlr cfg callE T k0 (key+8 * i) nd o ci vi (stAt tr c' i) (stAt tr c' (i+1))
 |[],ns,key,c,h=>⟨[],c,rfl,by cases ns<;>exact h,rfl,rfl,fun i o h=>by simp at h⟩
 |o::r,[],key,c,h=>h.elim
 |o::r,nd::ns,key,c,h=>by
   unfold WOC at h;split at h
   ·rename_i hg;obtain⟨hok,v,st',hev,hself,hr⟩:=h;obtain⟨tr,c',h1,h2,h3,h4,h5⟩:=Nhi r ns _ _ hr;have e:stAt ((c,v)::tr) c' 0=c.st:=rfl;have e':∀ i,stAt ((c,v)::tr) c' (i+1)=stAt tr c' i:=fun _=>rfl;refine⟨(c,v)::tr,c',?_,h2,by rw[List.length_cons,List.length_cons,h3],rfl,?_⟩
    ·simp only[NcF,hg,hev,h1,Option.map_some]
    ·intro i o' hi;cases i with
     |zero =>
       simp only[List.getElem?_cons_zero,Option.some.injEq]at hi;subst hi;refine⟨c,v,nd,rfl,rfl,rfl,.inl ⟨hg,hok,?_,?_⟩⟩
       ·rw[e',h4,Na4];exact hev
       ·rw[e',h4,Na4];exact hself
     |succ i =>
       obtain⟨ci,vi,nd',q1,q2,q3⟩:=h5 i o' (by simpa using hi);refine⟨ci,vi,nd',by simpa using q1,by simpa using q2,?_⟩;rw[e',e',show key+8 * (i+1)=key+8+8 * i by omega];exact q3
   ·rename_i hg;obtain⟨tr,c',h1,h2,h3,h4,h5⟩:=Nhi r ns _ _ h;have e':∀ i,stAt ((c,PV.tup [])::tr) c' (i+1)=stAt tr c' i:=fun _=>rfl;refine⟨(c,.tup [])::tr,c',?_,h2,by rw[List.length_cons,List.length_cons,h3],rfl,?_⟩
    ·simp only[NcF,hg,h1,Option.map_some]
    ·intro i o' hi;cases i with
     |zero =>
       simp only[List.getElem?_cons_zero,Option.some.injEq]at hi;subst hi;refine⟨c,.tup [],nd,rfl,rfl,rfl,.inr ⟨hg,?_⟩⟩;rw[e',h4,Na4];rfl
     |succ i =>
       obtain⟨ci,vi,nd',q1,q2,q3⟩:=h5 i o' (by simpa using hi);refine⟨ci,vi,nd',by simpa using q1,by simpa using q2,?_⟩;rw[e',e',show key+8 * (i+1)=key+8+8 * i by omega];exact q3
   ·exact h.elim
def Nk1(ml:List MOper)(masks:List Nat)(q:Nat):Bool:=Nah ml q&&(List.range (ml.length+1)).any fun t=>!((decide (t<ml.length)&&Nah ml t)||Nd1 ml q t||!NfT ml masks q t)
def NhW(ml:List MOper)(masks:List Nat):List Bool:=(List.range ml.length).map (Nk1 ml masks)
def NfZ(ml:List MOper)(masks:List Nat):Bool:=(List.range ml.length).all fun j=>Nah ml j||(List.range ml.length).all fun m=>!(decide (m<j)&&Nah ml m)||Nay masks j m||(match ml[m]? with
 |some o=>NdT o.op||NhP o.op
 |none=>false)
theorem Ner{i:Nat}{o:MOper}(h:ml[i]? = some o):Nah ml i=Nas o.op:=by unfold Nah;rw[h]
theorem NhN{P:Program}{Gl:Gmap}(hC:NaL P Gl callE)(hE:Nb4 callE){masks:List Nat}{T:List Nat}{c c':Loc}{tr:List (Loc×PV)}(hO:NfZ ml masks=true)
 (h:NcF cfg callE ml key c=some (tr,c')) (hb:key+8 * ml.length≤c.st.cnt) (hn:∀ k,key≤k→k<key+8 * ml.length→c.st.get k=none) (h0:stAt tr c' 0=c.st)
 (hst:∀ i o,ml[i]? = some o→∃ ci vi nd,tr[i]? = some (ci,vi)∧(NhW ml masks)[i]? = some nd∧Nlr cfg callE T key (key+8 * i) nd o ci vi (stAt tr c' i) (stAt tr c' (i+1))):Nbt cfg callE ml masks tr c' key=true:=by
 have ha:=NcZ hC hE ml key c c' tr h hb hn
 -- frames
 have g1:∀ i k,i<ml.length→k∉T→k≠key+8 * i→(stAt tr c' (i+1)).get k=(stAt tr c' i).get k:=by
  intro i k hi hk hne;obtain⟨ci,vi,nd,_,_,_,hs⟩:=hst i _ (List.getElem?_eq_getElem hi);rcases hs with⟨_,hok,hev,hpo⟩|⟨_,e⟩
  ·unfold Nb8 at hpo;split at hpo
   ·rename_i hq;rcases NbF hq hev with e|⟨o,e⟩
    ·rw[e]
    ·rw[e];exact Yae (fun e=>hne e.symm)
   ·exact hpo k hne hk
  ·rw[e]
 have g2:∀ k,k∉T→k<key→∀ i,i≤ml.length→(stAt tr c' i).get k=(stAt tr c' 0).get k:=by
  intro k hk hlt i
  induction i with
  |zero=>intro _;rfl
  |succ i ih=>intro hi;rw[g1 i k Zaa hk Zaa];exact ih Zaa
 have g3:∀ q,key+8 * q∉T→∀ t,q+1≤t→t≤ml.length→(stAt tr c' t).get (key+8 * q)=(stAt tr c' (q+1)).get (key+8 * q):=by
  intro q hq t
  induction t with
  |zero=>intro h;omega
  |succ t ih =>
    intro h1 h2;by_cases e:t=q
    ·rw[e]
    ·rw[g1 t _ Zaa hq Zaa];exact ih Zaa Zaa
 have hcn:∀ i,i≤ml.length→key+8 * ml.length≤(stAt tr c' i).cnt:=by
  intro i
  induction i with
  |zero=>intro _;rw[h0];exact hb
  |succ i ih =>
    intro hi;have ih':=ih Zaa;obtain⟨ci,vi,nd,_,_,_,hs⟩:=hst i _ (List.getElem?_eq_getElem (show i<ml.length by omega));rcases hs with⟨_,_,hev,_⟩|⟨_,e⟩
    ·have:=Nbb hC hev;omega
    ·rw[e];exact ih'
 have g4:∀ q,q<ml.length→(stAt tr c' (q+1)).get (key+8 * q)=none→∀ t,q+1≤t→t≤ml.length→(stAt tr c' t).get (key+8 * q)=none:=by
  intro q hq hnq t
  induction t with
  |zero=>intro h;omega
  |succ t ih =>
    intro h1 h2;by_cases et:t=q
    ·rw[et];exact hnq
    ·have ih':=ih Zaa Zaa;have hct:=hcn t Zaa;obtain⟨ci,vi,nd,_,_,_,hs⟩:=hst t _ (List.getElem?_eq_getElem (show t<ml.length by omega));rcases hs with⟨_,_,hev,_⟩|⟨_,e⟩
     ·exact NcN hE hev Zaa Zaa ih'
     ·rw[e];exact ih'
 unfold Nbt;rw[List.all_eq_true];intro j hj;have hjl:j<ml.length:=by simpa using hj
 obtain⟨o,ho⟩:∃ o,ml[j]? = some o:=⟨_,List.getElem?_eq_getElem hjl⟩;have hqa:=Ner ho;split
 ·rename_i hq;rw[List.all_eq_true];intro t ht;have htl:t≤ml.length:=by have:=List.mem_range.1 ht;omega
  obtain⟨ci,vi,nd,htr,hnd,hcs,hs⟩:=hst j o ho;have hnd':Nk1 ml masks j=nd:=by
   unfold NhW at hnd;rw[List.getElem?_map]at hnd;simpa[hjl]using hnd
  cases nd with
  |false =>
    unfold Nk1 at hnd';rw[hq,Bool.true_and,List.any_eq_false]at hnd';have:=hnd' t ht;simp only[Bool.not_eq_true',Bool.not_eq_false]at this;rw[this,Bool.true_or]
  |true =>
    have hag:Ndh cfg callE ml tr c' key j t=true:=by
     unfold Ndh;rw[ho,htr];simp only[Bool.and_eq_true,Bool.or_eq_true,decide_eq_true_eq];rcases hs with⟨hg,hok,hev,hself⟩|⟨hg,e⟩
     ·obtain⟨hkT,hli⟩:=hok (by rw[←hqa];exact hq);unfold Nb8 at hself;rw[if_pos (by rw[←hqa];exact hq)]at hself;have hkT':=hkT Zaf;have hli':=hli rfl;obtain⟨hs1,hs2⟩:=hself rfl;have hfr:(stAt tr c' j).get (key+8 * j)=none:=ha j j (Nat.le_refl _) hjl;refine⟨?_,?_⟩
      ·by_cases htj:t≤j
       ·exact .inl htj
       ·right;rw[g3 j hkT' t Zaa htl];exact hs2
      ·rw[hg];simp only;have hsp:((sig ml tr c' key t).put (key+8 * j) none).get (key+8 * j)=none:=Yaf _ _ _;have hlow:∀ k,k<key→k∉T→((sig ml tr c' key t).put (key+8 * j) none).get k=(stAt tr c' j).get k:=by
        intro k hk hkT;rw[Yae Zaa];unfold sig;rw[Ncx _ _ _ (fun q _ _ _=>by omega),g2 k hkT hk t htl,g2 k hkT hk j Zaa]
       by_cases hp:NdT o.op=true
       ·obtain⟨e1,e2⟩:=Neq hp hev;rw[e2 _ _];simp only[hs1,Bool.true_and];rw[hsp,e1,hfr];rfl
       ·cases hop:o.op with
        |load agg n a =>
          rw[hop]at hev hli';obtain⟨e1,e2⟩:=Nek hev;rw[e2 _ _ (fun k o e=>hlow k (hli' k o e).1 (hli' k o e).2)];simp only[hs1,Bool.true_and];rw[hsp,e1,hfr];rfl
        |callq f args =>
          rw[hop]at hev hli';obtain⟨la,hla⟩:=hli';obtain⟨st2,e1,e2⟩:=NfD hla hev ((sig ml tr c' key t).put (key+8 * j) none);rw[e1];simp only[hs1,Bool.true_and];rcases e2 with⟨e3,e4⟩|e3
          ·rw[e3,hsp,e4,hfr];rfl
          ·rw[e3];exact hs2
        |_=>rw[hop]at hli' hp;exact absurd hli' hp
     ·refine⟨?_,by rw[hg]⟩;by_cases htj:t≤j
      ·exact .inl htj
      ·right;have hns:=g4 j hjl (by rw[e];exact ha j j (Nat.le_refl _) hjl);rw[hns t Zaa htl,hns (j+1) (Nat.le_refl _) Zaa];rfl
    rw[hag,Bool.or_true]
 ·rename_i hq;rw[List.all_eq_true];intro m hm;have hml:m<ml.length:=by simpa using hm
  by_cases hjm:j<m
  ·rw[if_pos hjm,ha (j+1) m Zaa hml];rfl
  ·rw[if_neg hjm];split
   ·rename_i hc;simp only[Bool.and_eq_true,decide_eq_true_eq]at hc;unfold NfZ at hO;rw[List.all_eq_true]at hO;have h1:=hO j hj;rw[Bool.or_eq_true]at h1;rcases h1 with h1|h1
    ·exact absurd h1 hq
    rw[List.all_eq_true]at h1;have h2:=h1 m hm;simp only[hc,decide_true,Bool.and_self,Bool.not_true,Bool.false_or,Bool.or_eq_true]at h2;rcases h2 with h2|h2
    ·rw[h2,Bool.true_or]
    ·obtain⟨om,hom⟩:∃ o,ml[m]? = some o:=⟨_,List.getElem?_eq_getElem hml⟩;rw[hom]at h2;simp only[Bool.or_eq_true]at h2;obtain⟨ci,vi,nd,_,_,_,hs⟩:=hst m om hom;have hqm:Nas om.op=true:=(by rw[←Ner hom];exact hc.2);have hfr:(stAt tr c' m).get (key+8 * m)=none:=ha m m (Nat.le_refl _) hml;have hend:(stAt tr c' j).get (key+8 * m)=none:=by
      rcases hs with⟨_,hok,hev,_⟩|⟨_,e⟩
      ·have hkT:=(hok hqm).1 (by rcases h2 with h2|h2<;>simp[h2]);rw[g3 m hkT j Zaa Zaa];rcases h2 with h2|h2
       ·rw[(Neq h2 hev).1];exact hfr
       ·cases hop:om.op<;>rw[hop]at h2 hev<;>first|(simp[NhP]at h2;done)|skip
        rw[(Nek hev).1];exact hfr
      ·exact g4 m hml (by rw[e];exact hfr) j Zaa Zaa
     rw[hend];simp
   ·rfl
theorem Nhg{P:Program}{Gl:Gmap}(hC:NaL P Gl callE)(hE:Nb4 callE){n:Nat}{masks:List Nat}{Q:MExit→Now→Prop}(T:List Nat){ns:List Bool}(hO:NfZ ml masks=true)(hN:NhW ml masks=ns){env:Env}(fr:∀ k,st.cnt≤k→st.get k=none)
 (h:WOC cfg callE T st.cnt ns ml st.cnt ⟨env,.leaf,⟨st.sto,st.cnt+8 * ml.length⟩⟩ fun c=>Q .nrm ⟨c.env,c.st⟩):WC cfg callE n (.chain ml masks none) ⟨env,st⟩ Q:=by
 subst hN;obtain⟨tr,c',h1,h2,h3,h4,h5⟩:=Nhi ml _ _ _ h;have hd:=NhN hC hE hO h1 (Nat.le_refl _) (fun k hk _=>fr k hk) h4 h5;refine⟨.nrm,⟨c'.env,c'.st⟩,?_,h2⟩;simp only[Nak,Nce,h1,hd,Nco,Bool.and_self,if_true,Option.map_some]
theorem Nkb(cfg:Cfg)(callE:CallE)(T:List Nat)(k0:Nat)(ns:List Bool)(key:Nat)(c:Loc)(Q:Loc→Prop):WOC cfg callE T k0 ns [] key c Q↔Q c:=by cases ns<;>exact Iff.rfl
theorem Na5(cfg:Cfg)(callE:CallE)(T:List Nat)(k0:Nat)(nd:Bool)(ns:List Bool)(d:MDst)(op:MOp)(r:List MOper)(key:Nat)(env loc:Env)(st:St)(Q:Loc→Prop) :
 WOC cfg callE T k0 (nd::ns) (⟨d,op,none⟩::r) key ⟨env,loc,st⟩ Q↔Nh5 nd T k0 key (Loc.rd ⟨env,loc,st⟩) st op∧WV (Nal cfg callE (Loc.rd ⟨env,loc,st⟩) st key op) fun v st'=>Nb8 nd T key op st v st'∧WOC cfg callE T k0 ns r (key+8) (Loc.wr ⟨env,loc,st'⟩ d v) Q:=Iff.trans Iff.rfl Iff.rfl
theorem NaN(cfg:Cfg)(callE:CallE)(T:List Nat)(k0:Nat)(nd:Bool)(ns:List Bool)(d:MDst)(op:MOp)(x:Arg)(w:Bool)(r:List MOper)(key:Nat)(env loc:Env)(st:St)(Q:Loc→Prop) :
 WOC cfg callE T k0 (nd::ns) (⟨d,op,some (x,w)⟩::r) key ⟨env,loc,st⟩ Q↔WG (Loc.rd ⟨env,loc,st⟩ x) w (Nh5 nd T k0 key (Loc.rd ⟨env,loc,st⟩) st op∧WV (Nal cfg callE (Loc.rd ⟨env,loc,st⟩) st key op) fun v st'=>Nb8 nd T key op st v st'∧WOC cfg callE T k0 ns r (key+8) (Loc.wr ⟨env,loc,st'⟩ d v) Q) (WOC cfg callE T k0 ns r (key+8) (Loc.wr ⟨env,loc,st⟩ d (.tup [])) Q):=by
 show(match Nar _ _ with|some true=>_|some false=>_|none=>False)↔_;unfold Nar WG;simp only[];cases Loc.rd ⟨env,loc,st⟩ x with
 |b y=>cases y<;>cases w<;>simp
 |tup vs=>cases vs<;>simp
 |_=>simp
@[congr] theorem Nlu{T:List Nat}{k0:Nat}{ns:List Bool}{key':Nat}{c c':Loc}(h:key=key')(h2:c=c')(Q:Loc→Prop):WOC cfg callE T k0 ns ml key c Q=WOC cfg callE T k0 ns ml key' c' Q:=by rw[h,h2]
theorem NaX(key:Nat)(v:PV)(st:St):Net false key v st=True:=by simp[Net]
theorem NaY(key:Nat)(v:PV)(st:St):Net true key v st=(PV.same NbS v v=true∧PObj.same (st.get key) (st.get key)=true):=by simp[Net]
end
mutual
theorem PV.sm_rfl:∀ a:PV,PV.sm a a=true:=fun a=>by
 cases a<;>simp only[PV.sm,PV.smL_rfl]<;>simp
theorem PV.smL_rfl:∀ x:List PV,PV.smL x x=true
 |[]=>rfl
 |a::x=>by simp only[PV.smL,PV.sm_rfl a,PV.smL_rfl x,Bool.and_self]
end
theorem PV.same_fslR(n:Nat)(cs:List PV):PV.same NbS (.fsl n cs) (.fsl n cs)=true:=by
 show(n==n&&PV.smL cs cs)=true;simp[PV.smL_rfl]
def NhR:MOp→Bool
 |.calle ..|.callv ..=>true
 |_=>false
theorem NgS{cfg:Cfg}{callE:CallE}{ρ:Arg→PV}{st:St}{key k:Nat}{m:MOp}(hl:NhR m=false){r:PV}{st':St}(he:Nal cfg callE ρ st key m=some (r,st'))(hk:k≠key)(hn:st.get k=none):st'.get k=none:=by
 cases m with
 |call=>simp only[Nal]at he;exact NcK hk hn he
 |calle=>simp[NhR]at hl
 |callv=>simp[NhR]at hl
 |callq =>
   simp only[Nal]at he
   repeat' split at he
   all_goals first|(simp at he;done)|exact Ncl hk hn he
 |slice arr sz x lo hi =>
   cases arr<;>simp only[Nal]at he
   ·obtain⟨_,_,h⟩:=Option.map_eq_some_iff.1 he;cases h;exact hn
   ·repeat' split at he
    all_goals first|(simp at he;done)|(cases he;exact hn)
 |indexAddr arr sz x i =>
   cases arr<;>simp only[Nal]at he
   all_goals (repeat' split at he)
   all_goals first|(simp at he;done)|(cases he;exact hn)
 |conv c x =>
   simp only[Nal]at he
   repeat' split at he
   all_goals first|(simp at he;done)|(cases he;exact hn)|(cases he;exact Nbk hn (fun e=>hk e.symm))|(obtain⟨_,_,h⟩:=Option.map_eq_some_iff.1 he;cases h;exact hn)
 |store n a x =>
   simp only[Nal]at he;obtain⟨_,h1,h⟩:=Option.map_eq_some_iff.1 he;cases h;exact Nd0 hn h1
 |append =>
   simp only[Nal]at he
   repeat' split at he
   all_goals first|(simp at he;done)|exact NbH hk hn he
 |appstr =>
   simp only[Nal]at he
   repeat' split at he
   all_goals first|(simp at he;done)|exact NbH hk hn he
 |appb =>
   simp only[Nal]at he
   repeat' split at he
   all_goals first|(simp at he;done)|exact Ncp hk hn he
 |appbs =>
   simp only[Nal]at he
   repeat' split at he
   all_goals first|(simp at he;done)|exact Ncp hk hn he
 |ustr =>
   simp only[Nal]at he
   repeat' split at he
   all_goals first|(simp at he;done)|(cases he;exact hn)|(cases he;exact NbY hn)
 |copy =>
   simp only[Nal]at he
   repeat' split at he
   all_goals first|(simp at he;done)|exact Nd8 hn he
 |mapup ck m k' v =>
   simp only[Nal]at he;split at he
   ·split at he
    ·rename_i hg;obtain⟨_,_,h⟩:=Option.map_eq_some_iff.1 he;cases h;exact NbE hn hg
    ·simp at he
   ·simp at he
 |snext x =>
   simp only[Nal]at he;split at he
   ·split at he
    ·rename_i hg;split at he<;>cases he
     ·exact NbE hn hg
     ·exact hn
    ·simp at he
   ·simp at he
 |_ =>
   simp only[Nal]at he
   repeat' split at he
   all_goals first|(simp at he;done)|(cases he;exact hn)|(cases he;exact Nbk hn (fun e=>hk e.symm))|(obtain⟨_,_,h⟩:=Option.map_eq_some_iff.1 he;cases h;exact hn)
def Top(st:St):Prop:=∀ k,st.cnt≤k→st.get k=none
def Nls(callE:CallE):Prop:=∀ f args st r st',callE f args st=some (r,st')→Top st→Top st'
theorem Top.le{sto:Trie PObj}{c c':Nat}(h:Top ⟨sto,c⟩)(hc:c≤c'):Top ⟨sto,c'⟩:=fun k hk=>h k (by simp only at hk ⊢;omega)
theorem Ngj{cfg:Cfg}{P:Program}{Gl:Gmap}{callE:CallE}(hC:NaL P Gl callE)(hT:Nls callE){ρ:Arg→PV}{st:St}{key:Nat}{m:MOp}{r:PV}{st':St}(he:Nal cfg callE ρ st key m=some (r,st'))(hk:key<st.cnt)(ht:Top st):Top st':=by
 by_cases hl:NhR m=true
 ·cases m with
  |calle =>
    simp only[Nal]at he;split at he
    ·simp at he
    ·exact hT _ _ _ _ _ he ht
  |callv =>
    simp only[Nal]at he;split at he
    ·split at he
     ·simp at he
     ·exact hT _ _ _ _ _ he ht
    ·split at he
     ·simp at he
     ·exact hT _ _ _ _ _ he ht
    ·simp at he
  |_=>simp[NhR]at hl
 ·have hc:=Nbb hC he;intro k hk2;exact NgS (by simpa using hl) he Zaa (ht k Zaa)
theorem NdA{cfg:Cfg}{P:Program}{Gl:Gmap}{callE:CallE}(hC:NaL P Gl callE)(hT:Nls callE):∀ (ml:List MOper) (key:Nat) (c c':Loc),NaT cfg callE ml key c=some c'→key+8 * ml.length≤c.st.cnt→Top c.st→Top c'.st
 |[],key,c,c',h,_,ht=>by simp[NaT]at h;subst h;exact ht
 |o::ml,key,c,c',h,hk,ht=>by
   simp only[List.length_cons]at hk;simp only[NaT]at h;split at h
   ·split at h
    ·rename_i v st hev;have h1:=Nbb hC hev;refine NdA hC hT ml _ _ _ h (by rw[Na4];simp only[];omega) ?_;rw[Na4];exact Ngj hC hT hev Zaa ht
    ·simp at h
   ·exact NdA hC hT ml _ _ _ h (by rw[Na4];omega) (by rw[Na4];exact ht)
   ·simp at h
theorem NeH{cfg:Cfg}{P:Program}{Gl:Gmap}{callE:CallE}(hC:NaL P Gl callE)(hT:Nls callE):∀ (ml:List MOper) (key:Nat) (c c':Loc) (tr:List (Loc×PV)),NcF cfg callE ml key c=some (tr,c')→key+8 * ml.length≤c.st.cnt→Top c.st→Top c'.st
 |[],key,c,c',tr,h,_,ht=>by simp[NcF]at h;obtain⟨_,rfl⟩:=h;exact ht
 |o::ml,key,c,c',tr,h,hk,ht=>by
   simp only[List.length_cons]at hk;simp only[NcF]at h;split at h
   ·split at h
    ·rename_i v st hev;simp only[Option.map_eq_some_iff,Prod.mk.injEq]at h;obtain⟨⟨tr',c2⟩,he,rfl,rfl⟩:=h;have h1:=Nbb hC hev;refine NeH hC hT ml _ _ _ _ he (by rw[Na4];simp only[];omega) ?_;rw[Na4];exact Ngj hC hT hev Zaa ht
    ·simp at h
   ·simp only[Option.map_eq_some_iff,Prod.mk.injEq]at h;obtain⟨⟨tr',c2⟩,he,rfl,rfl⟩:=h;exact NeH hC hT ml _ _ _ _ he (by rw[Na4];omega) (by rw[Na4];exact ht)
   ·simp at h
def Nlt(ev:Now→Option (MExit×Now)):Prop:=∀ x e x',ev x=some (e,x')→Top x.st→Top x'.st
theorem Nfa{ev:Now→Option (MExit×Now)}(h:Nlt ev):∀ (fuel:Nat) (x:Now) (e:MExit) (x':Now),NbO ev fuel x=some (e,x')→Top x.st→Top x'.st
 |0,x,e,x',he,_=>by simp[NbO]at he
 |fuel+1,x,e,x',he,ht=>by
   simp only[NbO]at he;split at he
   ·rename_i x1 h1;exact Nfa h fuel _ _ _ he (h _ _ _ h1 ht)
   ·rename_i e1 x1 hne h1;simp only[Option.some.injEq,Prod.mk.injEq]at he;obtain⟨rfl,rfl⟩:=he;exact h _ _ _ h1 ht
   ·simp at he
theorem NaV{cfg:Cfg}{P:Program}{Gl:Gmap}{callE:CallE}(hC:NaL P Gl callE)(hT:Nls callE)(fuel:Nat):∀ m:MCode,Nlt (Nak cfg callE fuel m)
 |.skip=>fun x e x' h ht=>by simp[Nak]at h;obtain⟨_,rfl⟩:=h;exact ht
 |.region ops=>fun x e x' h ht=>by
   simp only[Nak,Nbf,Option.map_eq_some_iff,Prod.mk.injEq]at h;obtain⟨y,⟨z,hz,rfl⟩,_,rfl⟩:=h;exact NdA hC hT _ _ _ _ hz (Nat.le_refl _) (fun k hk=>ht k (by simp only at hk;omega))
 |.chain ops masks sw=>fun x e x' h ht=>by
   simp only[Nak,Nce,Option.map_eq_some_iff,Prod.mk.injEq]at h;obtain⟨y,hy,_,rfl⟩:=h;split at hy
   ·rename_i tr z hz;split at hy
    ·simp only[Option.some.injEq]at hy;subst hy;exact NeH hC hT _ _ _ _ _ hz (Nat.le_refl _) (fun k hk=>ht k (by simp only at hk;omega))
    ·simp at hy
   ·simp at hy
 |.seq a b=>fun x e x' h ht=>by
   simp only[Nak]at h;split at h
   ·rename_i x1 h1;exact NaV hC hT fuel b _ _ _ h (NaV hC hT fuel a _ _ _ h1 ht)
   ·exact NaV hC hT fuel a _ _ _ h ht
 |.cond c a b=>fun x e x' h ht=>by
   simp only[Nak]at h;split at h
   ·split at h
    ·exact NaV hC hT fuel a _ _ _ h ht
    ·exact NaV hC hT fuel b _ _ _ h ht
   ·simp at h
 |.block id a=>fun x e x' h ht=>by
   simp only[Nak]at h;split at h
   ·rename_i j x1 h1;split at h<;>(simp only[Option.some.injEq,Prod.mk.injEq]at h;obtain⟨_,rfl⟩:=h;exact NaV hC hT fuel a _ _ _ h1 ht)
   ·exact NaV hC hT fuel a _ _ _ h ht
 |.loop a=>fun x e x' h ht=>by
   simp only[Nak]at h;split at h
   ·simp at h
   ·exact Nfa (NaV hC hT fuel a) _ _ _ _ h ht
 |.exit id=>fun x e x' h ht=>by simp[Nak]at h;obtain⟨_,rfl⟩:=h;exact ht
 |.scope a=>fun x e x' h ht=>by simp only[Nak]at h;exact NaV hC hT fuel a _ _ _ h ht
 |.ret=>fun x e x' h ht=>by simp[Nak]at h;obtain⟨_,rfl⟩:=h;exact ht
theorem Ngh{P:Program}{Gl:Gmap}{cfg:Cfg}(hcfg:CfgOK P Gl cfg):∀ fuel,Nls (NaI cfg fuel)
 |0=>fun f args st r st' h _=>by simp[NaI]at h
 |fuel+1=>by
   have hT:=Ngh hcfg fuel;have hC:=NeF hcfg fuel;intro f args st r st' h ht;simp only[NaI]at h;split at h
   ·rename_i m hm;unfold NcM at h;split at h
    ·simp at h
    ·rename_i e c' hne hev;have:=NaV hC hT _ _ _ _ _ hev ht;split at h<;>simp only[Option.some.injEq,Prod.mk.injEq,reduceCtorEq]at h
     ·obtain⟨_,rfl⟩:=h;exact this
     ·obtain⟨_,rfl⟩:=h;exact this
    ·simp at h
   ·simp at h
theorem Nhh{P:Program}{Gl:Gmap}{cfg:Cfg}(hcfg:CfgOK P Gl cfg){fuel n:Nat}{a:MCode}{x:Now}(ht:Top x.st){Q:MExit→Now→Prop}(h:WC cfg (NaI cfg fuel) n a x fun e x'=>Top x'.st→Q e x'):WC cfg (NaI cfg fuel) n a x Q:=by
 obtain⟨e,x',hev,hr⟩:=h;exact⟨e,x',hev,hr (NaV (NeF hcfg fuel) (Ngh hcfg fuel) n a _ _ _ hev ht)⟩
theorem NaU(nd:Bool)(T:List Nat)(key:Nat)(m:MOp)(st:St)(v:PV)(st':St)(h:Nas m=true):Nb8 nd T key m st v st'=Net nd key v st':=by unfold Nb8;rw[if_pos h]
theorem NaP(nd:Bool)(T:List Nat)(key:Nat)(m:MOp)(st:St)(v:PV)(st':St)(h:Nas m=false):Nb8 nd T key m st v st'=∀ k,k≠key→k∉T→st'.get k=st.get k:=by unfold Nb8;rw[if_neg (by rw[h];simp)]
theorem Nbw(nd:Bool)(T:List Nat)(k0 key:Nat)(ρ:Arg→PV)(st:St)(m:MOp)(h:Nas m=false):Nh5 nd T k0 key ρ st m=True:=by unfold Nh5;simp[h]
theorem Nbl(nd:Bool)(T:List Nat)(k0 key:Nat)(ρ:Arg→PV)(st:St)(m:MOp)(h:NdT m=true)(hq:Nas m=true):Nh5 nd T k0 key ρ st m=(key∉T):=by
 unfold Nh5;apply propext;constructor
 ·intro h1;exact(h1 hq).1 (by simp[h])
 ·intro h1 _;refine⟨fun _=>h1,fun _=>?_⟩;unfold NhM;split<;>first|exact h|(simp[NdT]at h)
theorem NbK(nd:Bool)(T:List Nat)(k0 key:Nat)(ρ:Arg→PV)(st:St)(agg:Bool)(n:Nat)(a:Arg):Nh5 nd T k0 key ρ st (.load agg n a)=(key∉T∧(nd=true→∀ k o,ρ a=.ptr k o→k<k0∧k∉T)):=by
 unfold Nh5;apply propext;constructor
 ·intro h1;have:=h1 rfl;exact⟨this.1 (by simp[NhP]),this.2⟩
 ·intro h1 _;exact⟨fun _=>h1.1,h1.2⟩
end Go.Pe
