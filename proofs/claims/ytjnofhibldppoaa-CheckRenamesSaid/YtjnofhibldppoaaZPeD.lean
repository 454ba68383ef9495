/-
 Chains whose last operations write what the first ones read: a rule with two sets. No condition; nothing of the program.
-/
import Derived.Test.YtjnofhibldppoaaZPe8
set_option linter.unusedVariables false
set_option linter.unusedSimpArgs false
set_option maxHeartbeats 4000000
namespace Go.Pe
open Go Go.Am Go.RowKit
section
variable {T U:List Nat}{key k0 ks:Nat}{st:St}{ml:List MOper}{m:MOp}{cfg:Cfg}{callE:CallE}
def NkE(ml:List MOper)(q:Nat):Bool:=match ml[q]? with
 |some o=>NcW o.op
 |none=>false
theorem NkF{q:Nat}{o:MOper}(h:ml[q]? = some o):NkE ml q=NcW o.op:=by unfold NkE;rw[h]
def Nj4(ml:List MOper)(masks:List Nat)(s:Nat):Bool:=(List.range ml.length).all fun q=>!Ni6 ml masks q||(NkE ml q||(decide (q≤s)&&(List.range (ml.length+1)).all fun t=>decide (t≤s)||((decide (t<ml.length)&&Nai ml t)||NdM ml q t||!Nf5 ml masks q t)))
def Nf9(nd:Bool)(T U:List Nat)(k0 key:Nat)(ρ:Arg→PV)(st:St)(m:MOp):Prop :=
 NaB m=true→((nd||NcW m||Ni5 m)=true→key∉T∧key∉U)∧(nd=true→Nf2 T k0 ρ m)
def Nei(nd:Bool)(T U:List Nat)(ks key:Nat)(m:MOp)(st:St)(v:PV)(st':St):Prop:=if NaB m then Neb nd key v st' else ∀ k,k≠key→k∉T→(ks≤key→k∉U)→st'.get k=st.get k
def NiG(cfg:Cfg)(callE:CallE)(T U:List Nat)(ks k0:Nat):List Bool→List MOper→Nat→Loc→(Loc→Prop)→Prop
 |_,[],_,c,Q=>Q c
 |[],_::_,_,_,_=>False
 |nd::ns,o::r,key,c,Q=>match NaA c o.guard with
   |some true=>Nf9 nd T U k0 key c.rd c.st o.op∧WV (Nap cfg callE c.rd c.st key o.op) fun v st'=>Nei nd T U ks key o.op c.st v st'∧NiG cfg callE T U ks k0 ns r (key+8) (({ c with st:=st' }:Loc).wr o.dst v) Q
   |some false=>NiG cfg callE T U ks k0 ns r (key+8) (c.wr o.dst (.tup [])) Q
   |none=>False
def Nmz(cfg:Cfg)(callE:CallE)(T U:List Nat)(ks k0 key:Nat)(nd:Bool)(o:MOper)(c:Loc)(v:PV)(s1 s2:St):Prop :=
 c.st=s1∧((NaA c o.guard=some true∧Nf9 nd T U k0 key c.rd s1 o.op∧Nap cfg callE c.rd s1 key o.op=some (v,s2)∧Nei nd T U ks key o.op s1 v s2)∨(NaA c o.guard=some false∧s2=s1))
theorem Nhh{cfg:Cfg}{callE:CallE}{T U:List Nat}{ks k0:Nat}{Q:Loc→Prop}:∀ (ml:List MOper) (ns:List Bool) (key:Nat) (c:Loc),NiG cfg callE T U ks k0 ns ml key c Q →
 ∃ tr c',NcP cfg callE ml key c=some (tr,c')∧Q c'∧tr.length=ml.length∧stAt tr c' 0=c.st∧∀ i o,ml[i]? = some o→∃ ci vi nd,tr[i]? = some (ci,vi)∧ns[i]? = some nd∧Nmz cfg callE T U ks k0 (key+8 * i) nd o ci vi (stAt tr c' i) (stAt tr c' (i+1))
 |[],ns,key,c,h=>⟨[],c,rfl,by cases ns<;>exact h,rfl,rfl,fun i o h=>by simp at h⟩
 |o::r,[],key,c,h=>h.elim
 |o::r,nd::ns,key,c,h=>by
   unfold NiG at h;split at h
   ·rename_i hg;obtain⟨hok,v,st',hev,hself,hr⟩:=h;obtain⟨tr,c',h1,h2,h3,h4,h5⟩:=Nhh r ns _ _ hr;have e:stAt ((c,v)::tr) c' 0=c.st:=rfl;have e':∀ i,stAt ((c,v)::tr) c' (i+1)=stAt tr c' i:=fun _=>rfl;refine⟨(c,v)::tr,c',?_,h2,by rw[List.length_cons,List.length_cons,h3],rfl,?_⟩
    ·simp only[NcP,hg,hev,h1,Option.map_some]
    ·intro i o' hi;cases i with
     |zero =>
       simp only[List.getElem?_cons_zero,Sj]at hi;subst hi;refine⟨c,v,nd,rfl,rfl,rfl,.inl ⟨hg,hok,?_,?_⟩⟩
       ·rw[e',h4,Nbb];exact hev
       ·rw[e',h4,Nbb];exact hself
     |succ i =>
       obtain⟨ci,vi,nd',q1,q2,q3⟩:=h5 i o' (by simpa using hi);refine⟨ci,vi,nd',by simpa using q1,by simpa using q2,?_⟩;rw[e',e',show key+8 * (i+1)=key+8+8 * i by omega];exact q3
   ·rename_i hg;obtain⟨tr,c',h1,h2,h3,h4,h5⟩:=Nhh r ns _ _ h;have e':∀ i,stAt ((c,PV.tup [])::tr) c' (i+1)=stAt tr c' i:=fun _=>rfl;refine⟨(c,.tup [])::tr,c',?_,h2,by rw[List.length_cons,List.length_cons,h3],rfl,?_⟩
    ·simp only[NcP,hg,h1,Option.map_some]
    ·intro i o' hi;cases i with
     |zero =>
       simp only[List.getElem?_cons_zero,Sj]at hi;subst hi;refine⟨c,.tup [],nd,rfl,rfl,rfl,.inr ⟨hg,?_⟩⟩;rw[e',h4,Nbb];rfl
     |succ i =>
       obtain⟨ci,vi,nd',q1,q2,q3⟩:=h5 i o' (by simpa using hi);refine⟨ci,vi,nd',by simpa using q1,by simpa using q2,?_⟩;rw[e',e',show key+8 * (i+1)=key+8+8 * i by omega];exact q3
   ·exact h.elim
theorem Ni4{P:Program}{Gl:Gmap}(hC:NaV P Gl callE)(hE:Nb5 callE){masks:List Nat}{s:Nat}{c c':Loc}{tr:List (Loc×PV)}(hO:NdV ml masks=true)(hL:Nj4 ml masks s=true)
 (h:NcP cfg callE ml key c=some (tr,c')) (hb:key+8 * ml.length≤c.st.cnt) (hn:∀ k,key≤k→k<key+8 * ml.length→c.st.get k=none) (h0:stAt tr c' 0=c.st)
 (hst:∀ i o,ml[i]? = some o→∃ ci vi nd,tr[i]? = some (ci,vi)∧(NfC ml masks)[i]? = some nd∧Nmz cfg callE T U (key+8 * s) key (key+8 * i) nd o ci vi (stAt tr c' i) (stAt tr c' (i+1))):Nbv cfg callE ml masks tr c' key=true:=by
 have ha:=Nc7 hC hE ml key c c' tr h hb hn
 -- frames
 have g1:∀ i k,i<ml.length→k∉T→(s≤i→k∉U)→k≠key+8 * i→(stAt tr c' (i+1)).get k=(stAt tr c' i).get k:=by
  intro i k hi hk hkU hne;obtain⟨ci,vi,nd,_,_,_,hs⟩:=hst i _ (List.getElem?_eq_getElem hi);rcases hs with⟨_,hok,hev,hpo⟩|⟨_,e⟩
  ·unfold Nei at hpo;split at hpo
   ·rename_i hq;rcases NbG hq hev with e|⟨o,e⟩
    ·rw[e]
    ·rw[e];exact Yae (fun e=>hne e.symm)
   ·exact hpo k hne hk (fun h=>hkU Zaa)
  ·rw[e]
 have g2:∀ k,k∉T→k<key→∀ i,i≤s→i≤ml.length→(stAt tr c' i).get k=(stAt tr c' 0).get k:=by
  intro k hk hlt i
  induction i with
  |zero=>intro _ _;rfl
  |succ i ih=>intro his hi;rw[g1 i k Zaa hk (fun h=>by omega) Zaa];exact ih Zaa Zaa
 have g3:∀ q,key+8 * q∉T∧key+8 * q∉U→∀ t,q+1≤t→t≤ml.length→(stAt tr c' t).get (key+8 * q)=(stAt tr c' (q+1)).get (key+8 * q):=by
  intro q hq t
  induction t with
  |zero=>intro h;omega
  |succ t ih =>
    intro h1 h2;by_cases e:t=q
    ·rw[e]
    ·rw[g1 t _ Zaa hq.1 (fun _=>hq.2) Zaa];exact ih Zaa Zaa
 have hcn:∀ i,i≤ml.length→key+8 * ml.length≤(stAt tr c' i).cnt:=by
  intro i
  induction i with
  |zero=>intro _;rw[h0];exact hb
  |succ i ih =>
    intro hi;have ih':=ih Zaa;obtain⟨ci,vi,nd,_,_,_,hs⟩:=hst i _ (List.getElem?_eq_getElem (show i<ml.length by omega));rcases hs with⟨_,_,hev,_⟩|⟨_,e⟩
    ·have:=Nbf hC hev;omega
    ·rw[e];exact ih'
 have g4:∀ q,q<ml.length→(stAt tr c' (q+1)).get (key+8 * q)=none→∀ t,q+1≤t→t≤ml.length→(stAt tr c' t).get (key+8 * q)=none:=by
  intro q hq hnq t
  induction t with
  |zero=>intro h;omega
  |succ t ih =>
    intro h1 h2;by_cases et:t=q
    ·rw[et];exact hnq
    ·have ih':=ih Zaa Zaa;have hct:=hcn t Zaa;obtain⟨ci,vi,nd,_,_,_,hs⟩:=hst t _ (List.getElem?_eq_getElem (show t<ml.length by omega));rcases hs with⟨_,_,hev,_⟩|⟨_,e⟩
     ·exact NcO hE hev Zaa Zaa ih'
     ·rw[e];exact ih'
 unfold Nbv;rw[List.all_eq_true];intro j hj;have hjl:j<ml.length:=by simpa using hj
 obtain⟨o,ho⟩:∃ o,ml[j]? = some o:=⟨_,List.getElem?_eq_getElem hjl⟩;have hqa:=Ndf ho;split
 ·rename_i hq;rw[List.all_eq_true];intro t ht;have htl:t≤ml.length:=by have:=List.mem_range.1 ht;omega
  obtain⟨ci,vi,nd,htr,hnd,hcs,hs⟩:=hst j o ho;have hnd':Ni6 ml masks j=nd:=by
   unfold NfC at hnd;rw[List.getElem?_map]at hnd;simpa[hjl]using hnd
  cases nd with
  |false =>
    unfold Ni6 at hnd';rw[hq,Bool.true_and,List.any_eq_false]at hnd';have:=hnd' t ht;simp only[Bool.not_eq_true',Bool.not_eq_false]at this;rw[this,Bool.true_or]
  |true =>
    unfold Nj4 at hL;rw[List.all_eq_true]at hL;have hLj:=hL j hj;rw[hnd',Bool.not_true,Bool.false_or,Bool.or_eq_true]at hLj;have hx:((decide (t<ml.length)&&Nai ml t)||NdM ml j t||!Nf5 ml masks j t)=true∨(NcW o.op=true∨(j≤s∧t≤s)):=by
     rcases hLj with hLj|hLj
     ·exact .inr (.inl (by rw[←NkF ho];exact hLj))
     ·rw[Bool.and_eq_true,decide_eq_true_eq,List.all_eq_true]at hLj;obtain⟨hjs,hLt⟩:=hLj;by_cases hts:t≤s
      ·exact .inr (.inr ⟨hjs,hts⟩)
      ·have:=hLt t ht;rw[decide_eq_false hts,Bool.false_or]at this;exact .inl this
    rcases hx with hx|hx
    ·rw[hx,Bool.true_or]
    have hag:Ndy cfg callE ml tr c' key j t=true:=by
     unfold Ndy;rw[ho,htr];simp only[Bool.and_eq_true,Bool.or_eq_true,decide_eq_true_eq];rcases hs with⟨hg,hok,hev,hself⟩|⟨hg,e⟩
     ·obtain⟨hkT,hli⟩:=hok (by rw[←hqa];exact hq);unfold Nei at hself;rw[if_pos (by rw[←hqa];exact hq)]at hself;have hkT':=hkT Zaf;have hli':=hli rfl;obtain⟨hs1,hs2⟩:=hself rfl;have hfr:(stAt tr c' j).get (key+8 * j)=none:=ha j j (Nat.le_refl _) hjl;refine⟨?_,?_⟩
      ·by_cases htj:t≤j
       ·exact .inl htj
       ·right;rw[g3 j hkT' t Zaa htl];exact hs2
      ·rw[hg];simp only;have hsp:((sig ml tr c' key t).put (key+8 * j) none).get (key+8 * j)=none:=Yaf _ _ _;by_cases hp:NcW o.op=true
       ·obtain⟨e1,e2⟩:=Nde hp hev;rw[e2 _ _];simp only[hs1,Bool.true_and];rw[hsp,e1,hfr];rfl
       ·obtain⟨hjs,hts⟩:=hx.resolve_left hp;have hlow:∀ k,k<key→k∉T→((sig ml tr c' key t).put (key+8 * j) none).get k=(stAt tr c' j).get k:=by
         intro k hk hkT;rw[Yae Zaa];unfold sig;rw[Ncu _ _ _ (fun q _ _ _=>by omega),g2 k hkT hk t hts htl,g2 k hkT hk j hjs Zaa]
        cases hop:o.op with
        |load agg n a =>
          rw[hop]at hev hli';obtain⟨e1,e2⟩:=Ndc hev;rw[e2 _ _ (fun k o e=>hlow k (hli' k o e).1 (hli' k o e).2)];simp only[hs1,Bool.true_and];rw[hsp,e1,hfr];rfl
        |callq f args =>
          rw[hop]at hev hli';obtain⟨la,hla⟩:=hli';obtain⟨st2,e1,e2⟩:=NeD hla hev ((sig ml tr c' key t).put (key+8 * j) none);rw[e1];simp only[hs1,Bool.true_and];rcases e2 with⟨e3,e4⟩|e3
          ·rw[e3,hsp,e4,hfr];rfl
          ·rw[e3];exact hs2
        |_=>rw[hop]at hli' hp;exact absurd hli' hp
     ·refine⟨?_,by rw[hg]⟩;by_cases htj:t≤j
      ·exact .inl htj
      ·right;have hns:=g4 j hjl (by rw[e];exact ha j j (Nat.le_refl _) hjl);rw[hns t Zaa htl,hns (j+1) (Nat.le_refl _) Zaa];rfl
    rw[hag,Bool.or_true]
 ·rename_i hq;rw[List.all_eq_true];intro m hm;have hml:m<ml.length:=by simpa using hm
  by_cases hjm:j<m
  ·rw[if_pos hjm,ha (j+1) m Zaa hml];rfl
  ·rw[if_neg hjm];split
   ·rename_i hc;simp only[Bool.and_eq_true,decide_eq_true_eq]at hc;unfold NdV at hO;rw[List.all_eq_true]at hO;have h1:=hO j hj;rw[Bool.or_eq_true]at h1;rcases h1 with h1|h1
    ·exact absurd h1 hq
    rw[List.all_eq_true]at h1;have h2:=h1 m hm;simp only[hc,decide_true,Bool.and_self,Bool.not_true,Bool.false_or,Bool.or_eq_true]at h2;rcases h2 with h2|h2
    ·rw[h2,Bool.true_or]
    ·obtain⟨om,hom⟩:∃ o,ml[m]? = some o:=⟨_,List.getElem?_eq_getElem hml⟩;rw[hom]at h2;simp only[Bool.or_eq_true]at h2;obtain⟨ci,vi,nd,_,_,_,hs⟩:=hst m om hom;have hqm:NaB om.op=true:=(by rw[←Ndf hom];exact hc.2);have hfr:(stAt tr c' m).get (key+8 * m)=none:=ha m m (Nat.le_refl _) hml;have hend:(stAt tr c' j).get (key+8 * m)=none:=by
      rcases hs with⟨_,hok,hev,_⟩|⟨_,e⟩
      ·have hkT:=(hok hqm).1 (by rcases h2 with h2|h2<;>simp[h2]);rw[g3 m hkT j Zaa Zaa];rcases h2 with h2|h2
       ·rw[(Nde h2 hev).1];exact hfr
       ·cases hop:om.op<;>rw[hop]at h2 hev<;>first|(simp[Ni5]at h2;done)|skip
        rw[(Ndc hev).1];exact hfr
      ·exact g4 m hml (by rw[e];exact hfr) j Zaa Zaa
     rw[hend];simp
   ·rfl
theorem Ngq{P:Program}{Gl:Gmap}(hC:NaV P Gl callE)(hE:Nb5 callE){n:Nat}{masks:List Nat}{Q:MExit→Now→Prop}(T U:List Nat)(s:Nat){ns:List Bool}(hO:NdV ml masks=true)(hL:Nj4 ml masks s=true)(hN:NfC ml masks=ns){env:Env}(fr:∀ k,st.cnt≤k→st.get k=none)
 (h:NiG cfg callE T U (st.cnt+8 * s) st.cnt ns ml st.cnt ⟨env,.leaf,⟨st.sto,st.cnt+8 * ml.length⟩⟩ fun c=>Q .nrm ⟨c.env,c.st⟩):WC cfg callE n (.chain ml masks none) ⟨env,st⟩ Q:=by
 subst hN;obtain⟨tr,c',h1,h2,h3,h4,h5⟩:=Nhh ml _ _ _ h;have hd:=Ni4 hC hE hO hL h1 (Nat.le_refl _) (fun k hk _=>fr k hk) h4 h5;refine⟨.nrm,⟨c'.env,c'.st⟩,?_,h2⟩;simp only[Nao,Ncx,h1,hd,NcD,Bool.and_self,if_true,Option.map_some]
theorem NhQ(cfg:Cfg)(callE:CallE)(T U:List Nat)(ks k0:Nat)(ns:List Bool)(key:Nat)(c:Loc)(Q:Loc→Prop):NiG cfg callE T U ks k0 ns [] key c Q↔Q c:=by cases ns<;>exact Iff.rfl
theorem Naq(cfg:Cfg)(callE:CallE)(T U:List Nat)(ks k0:Nat)(nd:Bool)(ns:List Bool)(d:MDst)(op:MOp)(r:List MOper)(key:Nat)(env loc:Env)(st:St)(Q:Loc→Prop) :
 NiG cfg callE T U ks k0 (nd::ns) (⟨d,op,none⟩::r) key ⟨env,loc,st⟩ Q↔Nf9 nd T U k0 key (Loc.rd ⟨env,loc,st⟩) st op∧WV (Nap cfg callE (Loc.rd ⟨env,loc,st⟩) st key op) fun v st'=>Nei nd T U ks key op st v st'∧NiG cfg callE T U ks k0 ns r (key+8) (Loc.wr ⟨env,loc,st'⟩ d v) Q:=Iff.trans Iff.rfl Iff.rfl
theorem Nan(cfg:Cfg)(callE:CallE)(T U:List Nat)(ks k0:Nat)(nd:Bool)(ns:List Bool)(d:MDst)(op:MOp)(x:Arg)(w:Bool)(r:List MOper)(key:Nat)(env loc:Env)(st:St)(Q:Loc→Prop) :
 NiG cfg callE T U ks k0 (nd::ns) (⟨d,op,some (x,w)⟩::r) key ⟨env,loc,st⟩ Q↔WG (Loc.rd ⟨env,loc,st⟩ x) w (Nf9 nd T U k0 key (Loc.rd ⟨env,loc,st⟩) st op∧WV (Nap cfg callE (Loc.rd ⟨env,loc,st⟩) st key op) fun v st'=>Nei nd T U ks key op st v st'∧NiG cfg callE T U ks k0 ns r (key+8) (Loc.wr ⟨env,loc,st'⟩ d v) Q) (NiG cfg callE T U ks k0 ns r (key+8) (Loc.wr ⟨env,loc,st⟩ d (.tup [])) Q):=by
 show(match NaA _ _ with|some true=>_|some false=>_|none=>False)↔_;unfold NaA WG;simp only[];cases Loc.rd ⟨env,loc,st⟩ x with
 |b y=>cases y<;>cases w<;>simp
 |tup vs=>cases vs<;>simp
 |_=>simp
@[congr] theorem NoC{ns:List Bool}{key':Nat}{c c':Loc}(h:key=key')(h2:c=c')(Q:Loc→Prop):NiG cfg callE T U ks k0 ns ml key c Q=NiG cfg callE T U ks k0 ns ml key' c' Q:=by rw[h,h2]
theorem NkD(nd:Bool)(T U:List Nat)(ks key:Nat)(m:MOp)(st:St)(v:PV)(st':St)(h:NaB m=true):Nei nd T U ks key m st v st'=Neb nd key v st':=by unfold Nei;rw[if_pos h]
theorem Nci(nd:Bool)(T U:List Nat)(ks key:Nat)(m:MOp)(st:St)(v:PV)(st':St)(h:NaB m=false):Nei nd T U ks key m st v st'=∀ k,k≠key→k∉T→(ks≤key→k∉U)→st'.get k=st.get k:=by unfold Nei;rw[if_neg (by rw[h];simp)]
theorem Ncg(nd:Bool)(T U:List Nat)(k0 key:Nat)(ρ:Arg→PV)(st:St)(m:MOp)(h:NaB m=false):Nf9 nd T U k0 key ρ st m=True:=by unfold Nf9;simp[h]
theorem NbB{ρ:Arg→PV}(h:key∉T∧key∉U):Nf9 false T U k0 key ρ st m:=fun _=>⟨fun _=>h,nofun⟩
theorem NbO{nd:Bool}{ρ:Arg→PV}(hp:NcW m=true)(h:key∉T∧key∉U):Nf9 nd T U k0 key ρ st m:=fun _=>⟨fun _=>h,fun _=>by
 unfold Nf2;split<;>first|exact hp|(simp[NcW]at hp)⟩
theorem NhB{nd:Bool}{ρ:Arg→PV}{agg:Bool}{n:Nat}{a:Arg}(h:key∉T∧key∉U)(h2:∀ k o,ρ a=.ptr k o→k<k0∧k∉T):Nf9 nd T U k0 key ρ st (.load agg n a):=fun _=>⟨fun _=>h,fun _=>h2⟩
theorem Nbx{st':St}{v:PV}(hq:NaB m=true)(h1:PV.same NbK v v=true)(h2:st'.get key=none):Nei true T U ks key m st v st':=by
 rw[NkD _ _ _ _ _ _ _ _ _ hq,Na9,h2];exact⟨h1,rfl⟩
theorem NbC{st':St}{v:PV}(hq:NaB m=true):Nei false T U ks key m st v st':=by
 rw[NkD _ _ _ _ _ _ _ _ _ hq,Na8];trivial
end
end Go.Pe
