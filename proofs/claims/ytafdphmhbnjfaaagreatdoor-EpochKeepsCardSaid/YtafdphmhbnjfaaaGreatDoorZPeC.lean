/-
 Open-order regions in the logic, where a new object may come earlier: nothing hangs on when it is made. No condition; nothing of the program.
-/
import Derived.Test.YtafdphmhbnjfaaaGreatDoorZPe8
set_option linter.unusedVariables false
set_option linter.unusedSimpArgs false
set_option maxHeartbeats 4000000
namespace Go.Pe
open Go
section
variable {cfg:Cfg}{callE:CallE}{ml:List MOper}{T:List Nat}{key:Nat}
def Nfy:MOp→Bool
 |.alloc _=>true
 |_=>false
def Nj7(T:List Nat)(k0:Nat)(ρ:Arg→PV):MOp→Prop
 |.load _ _ a=>∀ k o,ρ a=.ptr k o→k<k0∧k∉T
 |.callq _ args=>∃ l,∀ st,Nbg st (args.map ρ)=some l
 |.alloc _=>True
 |m=>Nda m=true
def Nhj(ml:List MOper)(masks:List Nat):Bool:=(List.range ml.length).all fun q=>match ml[q]? with
 |some o=>!Nfy o.op||(List.range (ml.length+1)).all fun t=>((decide (t<ml.length)&&Nam ml t)||Ndx ml q t||!Ngf ml masks q t)||decide (t≤q)
 |none=>true
def Niv(ml:List MOper)(masks:List Nat):Bool:=NdQ ml masks&&Nhj ml masks
def NdP(nd:Bool)(T:List Nat)(k0 key:Nat)(ρ:Arg→PV)(st:St)(m:MOp):Prop :=
 NaU m=true→(((nd&&!Nfy m)||Nda m||NgR m)=true→key∉T)∧(nd=true→Nj7 T k0 ρ m)
def NiI(cfg:Cfg)(callE:CallE)(T:List Nat)(k0:Nat):List Bool→List MOper→Nat→Loc→(Loc→Prop)→Prop
 |_,[],_,c,Q=>Q c
 |[],_::_,_,_,_=>False
 |nd::ns,o::r,key,c,Q=>match NaQ c o.guard with
   |some true=>NdP nd T k0 key c.rd c.st o.op∧WV (Naz cfg callE c.rd c.st key o.op) fun v st'=>NbR nd T key o.op c.st v st'∧NiI cfg callE T k0 ns r (key+8) (({ c with st:=st' }:Loc).wr o.dst v) Q
   |some false=>NiI cfg callE T k0 ns r (key+8) (c.wr o.dst (.tup [])) Q
   |none=>False
def NmF(cfg:Cfg)(callE:CallE)(T:List Nat)(k0 key:Nat)(nd:Bool)(o:MOper)(c:Loc)(v:PV)(s1 s2:St):Prop :=
 c.st=s1∧((NaQ c o.guard=some true∧NdP nd T k0 key c.rd s1 o.op∧Naz cfg callE c.rd s1 key o.op=some (v,s2)∧NbR nd T key o.op s1 v s2)∨(NaQ c o.guard=some false∧s2=s1))
theorem Nhi{cfg:Cfg}{callE:CallE}{T:List Nat}{k0:Nat}{Q:Loc→Prop}:∀ (ml:List MOper) (ns:List Bool) (key:Nat) (c:Loc),NiI cfg callE T k0 ns ml key c Q →
 ∃ tr c',NcP cfg callE ml key c=some (tr,c')∧Q c'∧tr.length=ml.length∧stAt tr c' 0=c.st∧∀ i o,ml[i]? = some o→∃ ci vi nd,tr[i]? = some (ci,vi)∧ns[i]? = some nd∧NmF cfg callE T k0 (key+8 * i) nd o ci vi (stAt tr c' i) (stAt tr c' (i+1))
 |[],ns,key,c,h=>⟨[],c,rfl,by cases ns<;>exact h,rfl,rfl,fun i o h=>by simp at h⟩
 |o::r,[],key,c,h=>h.elim
 |o::r,nd::ns,key,c,h=>by
   unfold NiI at h;split at h
   ·rename_i hg;obtain⟨hok,v,st',hev,hself,hr⟩:=h;obtain⟨tr,c',h1,h2,h3,h4,h5⟩:=Nhi r ns _ _ hr;have e:stAt ((c,v)::tr) c' 0=c.st:=rfl;have e':∀ i,stAt ((c,v)::tr) c' (i+1)=stAt tr c' i:=fun _=>rfl;refine⟨(c,v)::tr,c',?_,h2,by rw[List.length_cons,List.length_cons,h3],rfl,?_⟩
    ·simp only[NcP,hg,hev,h1,Option.map_some]
    ·intro i o' hi;cases i with
     |zero =>
       simp only[List.getElem?_cons_zero,Option.some.injEq]at hi;subst hi;refine⟨c,v,nd,rfl,rfl,rfl,.inl ⟨hg,hok,?_,?_⟩⟩
       ·rw[e',h4,Nbs];exact hev
       ·rw[e',h4,Nbs];exact hself
     |succ i =>
       obtain⟨ci,vi,nd',q1,q2,q3⟩:=h5 i o' (by simpa using hi);refine⟨ci,vi,nd',by simpa using q1,by simpa using q2,?_⟩;rw[e',e',show key+8 * (i+1)=key+8+8 * i by omega];exact q3
   ·rename_i hg;obtain⟨tr,c',h1,h2,h3,h4,h5⟩:=Nhi r ns _ _ h;have e':∀ i,stAt ((c,PV.tup [])::tr) c' (i+1)=stAt tr c' i:=fun _=>rfl;refine⟨(c,.tup [])::tr,c',?_,h2,by rw[List.length_cons,List.length_cons,h3],rfl,?_⟩
    ·simp only[NcP,hg,h1,Option.map_some]
    ·intro i o' hi;cases i with
     |zero =>
       simp only[List.getElem?_cons_zero,Option.some.injEq]at hi;subst hi;refine⟨c,.tup [],nd,rfl,rfl,rfl,.inr ⟨hg,?_⟩⟩;rw[e',h4,Nbs];rfl
     |succ i =>
       obtain⟨ci,vi,nd',q1,q2,q3⟩:=h5 i o' (by simpa using hi);refine⟨ci,vi,nd',by simpa using q1,by simpa using q2,?_⟩;rw[e',e',show key+8 * (i+1)=key+8+8 * i by omega];exact q3
   ·exact h.elim
theorem Ni2{P:Program}{Gl:Gmap}(hC:Nbd P Gl callE)(hE:Nb9 callE){masks:List Nat}{c c':Loc}{tr:List (Loc×PV)}(hO:Niv ml masks=true)
 (h:NcP cfg callE ml key c=some (tr,c')) (hb:key+8 * ml.length≤c.st.cnt) (hn:∀ k,key≤k→k<key+8 * ml.length→c.st.get k=none) (h0:stAt tr c' 0=c.st)
 (hst:∀ i o,ml[i]? = some o→∃ ci vi nd,tr[i]? = some (ci,vi)∧(NfJ ml masks)[i]? = some nd∧NmF cfg callE T key (key+8 * i) nd o ci vi (stAt tr c' i) (stAt tr c' (i+1))):NbJ cfg callE ml masks tr c' key=true:=by
 have ha:=Nc0 hC hE ml key c c' tr h hb hn
 -- frames
 have g1:∀ i k,i<ml.length→k∉T→k≠key+8 * i→(stAt tr c' (i+1)).get k=(stAt tr c' i).get k:=by
  intro i k hi hk hne;obtain⟨ci,vi,nd,_,_,_,hs⟩:=hst i _ (List.getElem?_eq_getElem hi);rcases hs with⟨_,hok,hev,hpo⟩|⟨_,e⟩
  ·unfold NbR at hpo;split at hpo
   ·rename_i hq;rcases NbW hq hev with e|⟨o,e⟩
    ·rw[e]
    ·rw[e];exact Yae (fun e=>hne e.symm)
   ·exact hpo k hne hk
  ·rw[e]
 have g2:∀ k,k∉T→k<key→∀ i,i≤ml.length→(stAt tr c' i).get k=(stAt tr c' 0).get k:=by
  intro k hk hlt i
  induction i with
  |zero=>intro _;rfl
  |succ i ih=>intro hi;rw[g1 i k Zaa hk Zaa];exact ih Zaa
 have g3:∀ q,key+8 * q∉T→∀ t,q+1≤t→t≤ml.length→(stAt tr c' t).get (key+8 * q)=(stAt tr c' (q+1)).get (key+8 * q):=by
  intro q hq t
  induction t with
  |zero=>intro h;omega
  |succ t ih =>
    intro h1 h2;by_cases e:t=q
    ·rw[e]
    ·rw[g1 t _ Zaa hq Zaa];exact ih Zaa Zaa
 have hcn:∀ i,i≤ml.length→key+8 * ml.length≤(stAt tr c' i).cnt:=by
  intro i
  induction i with
  |zero=>intro _;rw[h0];exact hb
  |succ i ih =>
    intro hi;have ih':=ih Zaa;obtain⟨ci,vi,nd,_,_,_,hs⟩:=hst i _ (List.getElem?_eq_getElem (show i<ml.length by omega));rcases hs with⟨_,_,hev,_⟩|⟨_,e⟩
    ·have:=Nbx hC hev;omega
    ·rw[e];exact ih'
 have g4:∀ q,q<ml.length→(stAt tr c' (q+1)).get (key+8 * q)=none→∀ t,q+1≤t→t≤ml.length→(stAt tr c' t).get (key+8 * q)=none:=by
  intro q hq hnq t
  induction t with
  |zero=>intro h;omega
  |succ t ih =>
    intro h1 h2;by_cases et:t=q
    ·rw[et];exact hnq
    ·have ih':=ih Zaa Zaa;have hct:=hcn t Zaa;obtain⟨ci,vi,nd,_,_,_,hs⟩:=hst t _ (List.getElem?_eq_getElem (show t<ml.length by omega));rcases hs with⟨_,_,hev,_⟩|⟨_,e⟩
     ·exact NcO hE hev Zaa Zaa ih'
     ·rw[e];exact ih'
 unfold NbJ;rw[List.all_eq_true];intro j hj;have hjl:j<ml.length:=by simpa using hj
 obtain⟨o,ho⟩:∃ o,ml[j]? = some o:=⟨_,List.getElem?_eq_getElem hjl⟩;have hqa:=Nc6 ho;split
 ·rename_i hq;rw[List.all_eq_true];intro t ht;have htl:t≤ml.length:=by have:=List.mem_range.1 ht;omega
  obtain⟨ci,vi,nd,htr,hnd,hcs,hs⟩:=hst j o ho;have hnd':Nkg ml masks j=nd:=by
   unfold NfJ at hnd;rw[List.getElem?_map]at hnd;simpa[hjl]using hnd
  cases nd with
  |false =>
    unfold Nkg at hnd';rw[hq,Bool.true_and,List.any_eq_false]at hnd';have:=hnd' t ht;simp only[Bool.not_eq_true',Bool.not_eq_false]at this;rw[this,Bool.true_or]
  |true =>
    by_cases hne:((decide (t<ml.length)&&Nam ml t)||Ndx ml j t||!Ngf ml masks j t)=true
    ·rw[hne,Bool.true_or]
    have hag:again cfg callE ml tr c' key j t=true:=by
     by_cases hal:Nfy o.op=true
     ·have htj:t≤j:=by
       have h1:Nhj ml masks=true:=(by unfold Niv at hO;exact(Bool.and_eq_true _ _▸hO:_∧_).2);unfold Nhj at h1;rw[List.all_eq_true]at h1;have h2:=h1 j hj;rw[ho]at h2;simp only[hal,Bool.not_true,Bool.false_or,List.all_eq_true]at h2;have h3:=h2 t ht;rw[Bool.or_eq_true]at h3;rcases h3 with h3|h3
       ·exact absurd h3 hne
       ·simpa using h3
      unfold again;rw[ho,htr];simp only[Bool.and_eq_true,Bool.or_eq_true,decide_eq_true_eq];refine⟨.inl htj,?_⟩;rcases hs with⟨hg,hok,hev,hself⟩|⟨hg,e⟩
      ·rw[hg];unfold NbR at hself;rw[if_pos (by rw[←hqa];exact hq)]at hself;obtain⟨hs1,hs2⟩:=hself rfl;cases hop:o.op<;>rw[hop]at hal hev<;>first|(simp[Nfy]at hal;done)|skip
       simp only[Naz,Option.some.injEq,Prod.mk.injEq]at hev ⊢;obtain⟨rfl,e2⟩:=hev;rw[hs1,Bool.true_and];rw[←e2,Yaf]at hs2 ⊢;rw[Yaf];exact hs2
      ·rw[hg]
     unfold again;rw[ho,htr];simp only[Bool.and_eq_true,Bool.or_eq_true,decide_eq_true_eq];rcases hs with⟨hg,hok,hev,hself⟩|⟨hg,e⟩
     ·obtain⟨hkT,hli⟩:=hok (by rw[←hqa];exact hq);unfold NbR at hself;rw[if_pos (by rw[←hqa];exact hq)]at hself;have hkT':=hkT (by simp[hal]);have hli':=hli rfl;obtain⟨hs1,hs2⟩:=hself rfl;have hfr:(stAt tr c' j).get (key+8 * j)=none:=ha j j (Nat.le_refl _) hjl;refine⟨?_,?_⟩
      ·by_cases htj:t≤j
       ·exact .inl htj
       ·right;rw[g3 j hkT' t Zaa htl];exact hs2
      ·rw[hg];simp only;have hsp:((sig ml tr c' key t).put (key+8 * j) none).get (key+8 * j)=none:=Yaf _ _ _;have hlow:∀ k,k<key→k∉T→((sig ml tr c' key t).put (key+8 * j) none).get k=(stAt tr c' j).get k:=by
        intro k hk hkT;rw[Yae Zaa];unfold sig;rw[Ncr _ _ _ (fun q _ _ _=>by omega),g2 k hkT hk t htl,g2 k hkT hk j Zaa]
       by_cases hp:Nda o.op=true
       ·obtain⟨e1,e2⟩:=Nc5 hp hev;rw[e2 _ _];simp only[hs1,Bool.true_and];rw[hsp,e1,hfr];rfl
       ·cases hop:o.op with
        |load agg n a =>
          rw[hop]at hev hli';obtain⟨e1,e2⟩:=Nc4 hev;rw[e2 _ _ (fun k o e=>hlow k (hli' k o e).1 (hli' k o e).2)];simp only[hs1,Bool.true_and];rw[hsp,e1,hfr];rfl
        |callq f args =>
          rw[hop]at hev hli';obtain⟨la,hla⟩:=hli';obtain⟨st2,e1,e2⟩:=Nex hla hev ((sig ml tr c' key t).put (key+8 * j) none);rw[e1];simp only[hs1,Bool.true_and];rcases e2 with⟨e3,e4⟩|e3
          ·rw[e3,hsp,e4,hfr];rfl
          ·rw[e3];exact hs2
        |alloc z=>rw[hop]at hal;simp[Nfy]at hal
        |_=>rw[hop]at hli' hp;exact absurd hli' hp
     ·refine⟨?_,by rw[hg]⟩;by_cases htj:t≤j
      ·exact .inl htj
      ·right;have hns:=g4 j hjl (by rw[e];exact ha j j (Nat.le_refl _) hjl);rw[hns t Zaa htl,hns (j+1) (Nat.le_refl _) Zaa];rfl
    rw[hag,Bool.or_true]
 ·rename_i hq;rw[List.all_eq_true];intro m hm;have hml:m<ml.length:=by simpa using hm
  by_cases hjm:j<m
  ·rw[if_pos hjm,ha (j+1) m Zaa hml];rfl
  ·rw[if_neg hjm];split
   ·rename_i hc;simp only[Bool.and_eq_true,decide_eq_true_eq]at hc;have hO1:NdQ ml masks=true:=(by unfold Niv at hO;exact(Bool.and_eq_true _ _▸hO:_∧_).1);unfold NdQ at hO1;rw[List.all_eq_true]at hO1;have h1:=hO1 j hj;rw[Bool.or_eq_true]at h1;rcases h1 with h1|h1
    ·exact absurd h1 hq
    rw[List.all_eq_true]at h1;have h2:=h1 m hm;simp only[hc,decide_true,Bool.and_self,Bool.not_true,Bool.false_or,Bool.or_eq_true]at h2;rcases h2 with h2|h2
    ·rw[h2,Bool.true_or]
    ·obtain⟨om,hom⟩:∃ o,ml[m]? = some o:=⟨_,List.getElem?_eq_getElem hml⟩;rw[hom]at h2;simp only[Bool.or_eq_true]at h2;obtain⟨ci,vi,nd,_,_,_,hs⟩:=hst m om hom;have hqm:NaU om.op=true:=(by rw[←Nc6 hom];exact hc.2);have hfr:(stAt tr c' m).get (key+8 * m)=none:=ha m m (Nat.le_refl _) hml;have hend:(stAt tr c' j).get (key+8 * m)=none:=by
      rcases hs with⟨_,hok,hev,_⟩|⟨_,e⟩
      ·have hkT:=(hok hqm).1 (by rcases h2 with h2|h2<;>simp[h2]);rw[g3 m hkT j Zaa Zaa];rcases h2 with h2|h2
       ·rw[(Nc5 h2 hev).1];exact hfr
       ·cases hop:om.op<;>rw[hop]at h2 hev<;>first|(simp[NgR]at h2;done)|skip
        rw[(Nc4 hev).1];exact hfr
      ·exact g4 m hml (by rw[e];exact hfr) j Zaa Zaa
     rw[hend];simp
   ·rfl
theorem NiH{P:Program}{Gl:Gmap}(hC:Nbd P Gl callE)(hE:Nb9 callE){n:Nat}{masks:List Nat}{Q:MExit→Now→Prop}(T:List Nat){ns:List Bool}(hO:Niv ml masks=true)(hN:NfJ ml masks=ns){env:Env}{st:St}(fr:∀ k,st.cnt≤k→st.get k=none)
 (h:NiI cfg callE T st.cnt ns ml st.cnt ⟨env,.leaf,⟨st.sto,st.cnt+8 * ml.length⟩⟩ fun c=>Q .nrm ⟨c.env,c.st⟩):WC cfg callE n (.chain ml masks none) ⟨env,st⟩ Q:=by
 subst hN;obtain⟨tr,c',h1,h2,h3,h4,h5⟩:=Nhi ml _ _ _ h;have hd:=Ni2 hC hE hO h1 (Nat.le_refl _) (fun k hk _=>fr k hk) h4 h5;refine⟨.nrm,⟨c'.env,c'.st⟩,?_,h2⟩;simp only[Naw,Ncz,h1,hd,NcE,Bool.and_self,if_true,Option.map_some]
theorem Nk6(cfg:Cfg)(callE:CallE)(T:List Nat)(k0:Nat)(ns:List Bool)(key:Nat)(c:Loc)(Q:Loc→Prop):NiI cfg callE T k0 ns [] key c Q↔Q c:=by cases ns<;>exact Iff.rfl
theorem NaV(cfg:Cfg)(callE:CallE)(T:List Nat)(k0:Nat)(nd:Bool)(ns:List Bool)(d:MDst)(op:MOp)(r:List MOper)(key:Nat)(env loc:Env)(st:St)(Q:Loc→Prop) :
 NiI cfg callE T k0 (nd::ns) (⟨d,op,none⟩::r) key ⟨env,loc,st⟩ Q↔NdP nd T k0 key (Loc.rd ⟨env,loc,st⟩) st op∧WV (Naz cfg callE (Loc.rd ⟨env,loc,st⟩) st key op) fun v st'=>NbR nd T key op st v st'∧NiI cfg callE T k0 ns r (key+8) (Loc.wr ⟨env,loc,st'⟩ d v) Q:=Iff.trans Iff.rfl Iff.rfl
theorem NaP(cfg:Cfg)(callE:CallE)(T:List Nat)(k0:Nat)(nd:Bool)(ns:List Bool)(d:MDst)(op:MOp)(x:Arg)(w:Bool)(r:List MOper)(key:Nat)(env loc:Env)(st:St)(Q:Loc→Prop) :
 NiI cfg callE T k0 (nd::ns) (⟨d,op,some (x,w)⟩::r) key ⟨env,loc,st⟩ Q↔WG (Loc.rd ⟨env,loc,st⟩ x) w (NdP nd T k0 key (Loc.rd ⟨env,loc,st⟩) st op∧WV (Naz cfg callE (Loc.rd ⟨env,loc,st⟩) st key op) fun v st'=>NbR nd T key op st v st'∧NiI cfg callE T k0 ns r (key+8) (Loc.wr ⟨env,loc,st'⟩ d v) Q) (NiI cfg callE T k0 ns r (key+8) (Loc.wr ⟨env,loc,st⟩ d (.tup [])) Q):=by
 show(match NaQ _ _ with|some true=>_|some false=>_|none=>False)↔_;unfold NaQ WG;simp only[];cases Loc.rd ⟨env,loc,st⟩ x with
 |b y=>cases y<;>cases w<;>simp
 |tup vs=>cases vs<;>simp
 |_=>simp
@[congr] theorem NoH{k0:Nat}{ns:List Bool}{key':Nat}{c c':Loc}(h:key=key')(h2:c=c')(Q:Loc→Prop):NiI cfg callE T k0 ns ml key c Q=NiI cfg callE T k0 ns ml key' c' Q:=by rw[h,h2]
theorem Na8(nd:Bool)(T:List Nat)(k0 key:Nat)(ρ:Arg→PV)(st:St)(m:MOp)(h:NaU m=false):NdP nd T k0 key ρ st m=True:=by unfold NdP;simp[h]
theorem Na1(nd:Bool)(T:List Nat)(k0 key:Nat)(ρ:Arg→PV)(st:St)(m:MOp)(h:Nda m=true)(hq:NaU m=true):NdP nd T k0 key ρ st m=(key∉T):=by
 unfold NdP;apply propext;constructor
 ·intro h1;exact(h1 hq).1 (by simp[h])
 ·intro h1 _;refine⟨fun _=>h1,fun _=>?_⟩;unfold Nj7;split<;>first|exact h|(simp[Nda]at h)
theorem Nbj(nd:Bool)(T:List Nat)(k0 key:Nat)(ρ:Arg→PV)(st:St)(agg:Bool)(n:Nat)(a:Arg):NdP nd T k0 key ρ st (.load agg n a)=(key∉T∧(nd=true→∀ k o,ρ a=.ptr k o→k<k0∧k∉T)):=by
 unfold NdP;apply propext;constructor
 ·intro h1;have:=h1 rfl;exact⟨this.1 (by simp[NgR]),this.2⟩
 ·intro h1 _;exact⟨fun _=>h1.1,h1.2⟩
theorem Nbi(nd:Bool)(T:List Nat)(k0 key:Nat)(ρ:Arg→PV)(st:St)(z:List PV):NdP nd T k0 key ρ st (.alloc z)=True:=by
 unfold NdP;simp[Nfy,Nda,NgR,Nj7]
theorem Ne4{k0:Nat}{ρ:Arg→PV}{st:St}{m:MOp}(h:key∉T):NdP false T k0 key ρ st m:=fun _=>⟨fun _=>h,nofun⟩
end
end Go.Pe
