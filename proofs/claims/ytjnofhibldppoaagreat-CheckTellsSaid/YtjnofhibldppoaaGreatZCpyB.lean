/-
 The kit: copies of statements: walked. No condition.
-/
import Derived.Test.YtjnofhibldppoaaGreatZPe8
import Derived.Test.YtjnofhibldppoaaGreatZCpyA
set_option linter.unusedVariables false
set_option linter.unusedSimpArgs false
set_option maxHeartbeats 4000000
open Nat renaming reduceAdd → rB,reduceMul → rC,reduceLT → rD,reduceEqDiff → rE,reduceLeDiff → rF
namespace Go.Pe
open Go Go.Am Go.RowKit
section
variable {T U:List Nat}{key k0 ks:Nat}{st:St}{m:MOp}{cfg:Cfg}{callE:CallE}{ml:List MOper}
def Nkg(ml:List MOper)(masks:List Nat)(s:Nat):Bool:=(List.range ml.length).all fun q=>!Njg ml masks q||(decide (q≤s)&&(List.range (ml.length+1)).all fun t=>decide (t≤s)||((decide (t<ml.length)&&Nak ml t)||Nei ml q t||!NgX ml masks q t))
def Ngg(nd:Bool)(T U:List Nat)(k0 key:Nat)(ρ:Arg→PV)(st:St)(m:MOp):Prop :=
 NaJ m=true→((nd||Ncz m||Nem m)=true→key∉T∧key∉U)∧(nd=true→Ngc T k0 ρ m)
def Nep(nd:Bool)(T U:List Nat)(ks key:Nat)(m:MOp)(st:St)(v:PV)(st':St):Prop:=if NaJ m then Neh nd key v st' else ∀ k,k≠key→k∉T→(ks≤key→k∉U)→st'.get k=st.get k
def NiT(cfg:Cfg)(callE:CallE)(T U:List Nat)(ks k0:Nat):List Bool→List MOper→Nat→Loc→(Loc→Prop)→Prop
 |_,[],_,c,Q=>Q c
 |[],_::_,_,_,_=>False
 |nd::ns,o::r,key,c,Q=>match NaI c o.guard with
   |some true=>Ngg nd T U k0 key c.rd c.st o.op∧WV (Nax cfg callE c.rd c.st key o.op) fun v st'=>Nep nd T U ks key o.op c.st v st'∧NiT cfg callE T U ks k0 ns r (key+8) (({ c with st:=st' }:Loc).wr o.dst v) Q
   |some false=>NiT cfg callE T U ks k0 ns r (key+8) (c.wr o.dst (.tup [])) Q
   |none=>False
def Nm8(cfg:Cfg)(callE:CallE)(T U:List Nat)(ks k0 key:Nat)(nd:Bool)(o:MOper)(c:Loc)(v:PV)(s1 s2:St):Prop :=
 c.st=s1∧((NaI c o.guard=some true∧Ngg nd T U k0 key c.rd s1 o.op∧Nax cfg callE c.rd s1 key o.op=some (v,s2)∧Nep nd T U ks key o.op s1 v s2)∨(NaI c o.guard=some false∧s2=s1))
theorem Nhq{cfg:Cfg}{callE:CallE}{T U:List Nat}{ks k0:Nat}{Q:Loc→Prop}:∀ (ml:List MOper) (ns:List Bool) (key:Nat) (c:Loc),NiT cfg callE T U ks k0 ns ml key c Q →
 ∃ tr c',NcZ cfg callE ml key c=some (tr,c')∧Q c'∧tr.length=ml.length∧stAt tr c' 0=c.st∧∀ i o,ml[i]? = some o→∃ ci vi nd,tr[i]? = some (ci,vi)∧ns[i]? = some nd∧Nm8 cfg callE T U ks k0 (key+8 * i) nd o ci vi (stAt tr c' i) (stAt tr c' (i+1))
 |[],ns,key,c,h=>⟨[],c,rfl,by cases ns<;>exact h,rfl,rfl,fun i o h=>by simp at h⟩
 |o::r,[],key,c,h=>h.elim
 |o::r,nd::ns,key,c,h=>by
   unfold NiT at h;split at h
   ·rename_i hg;obtain⟨hok,v,st',hev,hself,hr⟩:=h;obtain⟨tr,c',h1,h2,h3,h4,h5⟩:=Nhq r ns _ _ hr;have e:stAt ((c,v)::tr) c' 0=c.st:=rfl;have e':∀ i,stAt ((c,v)::tr) c' (i+1)=stAt tr c' i:=fun _=>rfl;refine⟨(c,v)::tr,c',?_,h2,by rw[List.length_cons,List.length_cons,h3],rfl,?_⟩
    ·simp only[NcZ,hg,hev,h1,Option.map_some]
    ·intro i o' hi;cases i with
     |zero =>
       simp only[List.getElem?_cons_zero,Sj]at hi;subst hi;refine⟨c,v,nd,rfl,rfl,rfl,.inl ⟨hg,hok,?_,?_⟩⟩
       ·rw[e',h4,Nbl];exact hev
       ·rw[e',h4,Nbl];exact hself
     |succ i =>
       obtain⟨ci,vi,nd',q1,q2,q3⟩:=h5 i o' (by simpa using hi);refine⟨ci,vi,nd',by simpa using q1,by simpa using q2,?_⟩;rw[e',e',show key+8 * (i+1)=key+8+8 * i by omega];exact q3
   ·rename_i hg;obtain⟨tr,c',h1,h2,h3,h4,h5⟩:=Nhq r ns _ _ h;have e':∀ i,stAt ((c,PV.tup [])::tr) c' (i+1)=stAt tr c' i:=fun _=>rfl;refine⟨(c,.tup [])::tr,c',?_,h2,by rw[List.length_cons,List.length_cons,h3],rfl,?_⟩
    ·simp only[NcZ,hg,h1,Option.map_some]
    ·intro i o' hi;cases i with
     |zero =>
       simp only[List.getElem?_cons_zero,Sj]at hi;subst hi;refine⟨c,.tup [],nd,rfl,rfl,rfl,.inr ⟨hg,?_⟩⟩;rw[e',h4,Nbl];rfl
     |succ i =>
       obtain⟨ci,vi,nd',q1,q2,q3⟩:=h5 i o' (by simpa using hi);refine⟨ci,vi,nd',by simpa using q1,by simpa using q2,?_⟩;rw[e',e',show key+8 * (i+1)=key+8+8 * i by omega];exact q3
   ·exact h.elim
theorem Njf{P:Program}{Gl:Gmap}(hC:Na7 P Gl callE)(hE:Ncg callE){masks:List Nat}{s:Nat}{c c':Loc}{tr:List (Loc×PV)}(hO:Nd3 ml masks=true)(hL:Nkg ml masks s=true)
 (h:NcZ cfg callE ml key c=some (tr,c')) (hb:key+8 * ml.length≤c.st.cnt) (hn:∀ k,key≤k→k<key+8 * ml.length→c.st.get k=none) (h0:stAt tr c' 0=c.st)
 (hst:∀ i o,ml[i]? = some o→∃ ci vi nd,tr[i]? = some (ci,vi)∧(NfJ ml masks)[i]? = some nd∧Nm8 cfg callE T U (key+8 * s) key (key+8 * i) nd o ci vi (stAt tr c' i) (stAt tr c' (i+1))):NbH cfg callE ml masks tr c' key=true:=by
 have ha:=Ndd hC hE ml key c c' tr h hb hn
 -- frames
 have g1:∀ i k,i<ml.length→k∉T→(s≤i→k∉U)→k≠key+8 * i→(stAt tr c' (i+1)).get k=(stAt tr c' i).get k:=by
  intro i k hi hk hkU hne;obtain⟨ci,vi,nd,_,_,_,hs⟩:=hst i _ (List.getElem?_eq_getElem hi);rcases hs with⟨_,hok,hev,hpo⟩|⟨_,e⟩
  ·unfold Nep at hpo;split at hpo
   ·rename_i hq;rcases NbW hq hev with e|⟨o,e⟩
    ·rw[e]
    ·rw[e];exact Yae (fun e=>hne e.symm)
   ·exact hpo k hne hk (fun h=>hkU Zaa)
  ·rw[e]
 have g2:∀ k,k∉T→k<key→∀ i,i≤s→i≤ml.length→(stAt tr c' i).get k=(stAt tr c' 0).get k:=by
  intro k hk hlt i
  induction i with
  |zero=>intro _ _;rfl
  |succ i ih=>intro his hi;rw[g1 i k Zaa hk (fun h=>by omega) Zaa];exact ih Zaa Zaa
 have g3:∀ q,key+8 * q∉T∧key+8 * q∉U→∀ t,q+1≤t→t≤ml.length→(stAt tr c' t).get (key+8 * q)=(stAt tr c' (q+1)).get (key+8 * q):=by
  intro q hq t
  induction t with
  |zero=>intro h;omega
  |succ t ih =>
    intro h1 h2;by_cases e:t=q
    ·rw[e]
    ·rw[g1 t _ Zaa hq.1 (fun _=>hq.2) Zaa];exact ih Zaa Zaa
 have hcn:∀ i,i≤ml.length→key+8 * ml.length≤(stAt tr c' i).cnt:=by
  intro i
  induction i with
  |zero=>intro _;rw[h0];exact hb
  |succ i ih =>
    intro hi;have ih':=ih Zaa;obtain⟨ci,vi,nd,_,_,_,hs⟩:=hst i _ (List.getElem?_eq_getElem (show i<ml.length by omega));rcases hs with⟨_,_,hev,_⟩|⟨_,e⟩
    ·have:=Nbq hC hev;omega
    ·rw[e];exact ih'
 have g4:∀ q,q<ml.length→(stAt tr c' (q+1)).get (key+8 * q)=none→∀ t,q+1≤t→t≤ml.length→(stAt tr c' t).get (key+8 * q)=none:=by
  intro q hq hnq t
  induction t with
  |zero=>intro h;omega
  |succ t ih =>
    intro h1 h2;by_cases et:t=q
    ·rw[et];exact hnq
    ·have ih':=ih Zaa Zaa;have hct:=hcn t Zaa;obtain⟨ci,vi,nd,_,_,_,hs⟩:=hst t _ (List.getElem?_eq_getElem (show t<ml.length by omega));rcases hs with⟨_,_,hev,_⟩|⟨_,e⟩
     ·exact NcY hE hev Zaa Zaa ih'
     ·rw[e];exact ih'
 unfold NbH;rw[List.all_eq_true];intro j hj;have hjl:j<ml.length:=by simpa using hj
 obtain⟨o,ho⟩:∃ o,ml[j]? = some o:=⟨_,List.getElem?_eq_getElem hjl⟩;have hqa:=Ndk ho;split
 ·rename_i hq;rw[List.all_eq_true];intro t ht;have htl:t≤ml.length:=by have:=List.mem_range.1 ht;omega
  obtain⟨ci,vi,nd,htr,hnd,hcs,hs⟩:=hst j o ho;have hnd':Njg ml masks j=nd:=by
   unfold NfJ at hnd;rw[List.getElem?_map]at hnd;simpa[hjl]using hnd
  cases nd with
  |false =>
    unfold Njg at hnd';rw[hq,Bool.true_and,List.any_eq_false]at hnd';have:=hnd' t ht;simp only[Bool.not_eq_true',Bool.not_eq_false]at this;rw[this,Bool.true_or]
  |true =>
    unfold Nkg at hL;rw[List.all_eq_true]at hL;have hLj:=hL j hj;rw[hnd',Bool.not_true,Bool.false_or,Bool.and_eq_true,decide_eq_true_eq,List.all_eq_true]at hLj;obtain⟨hjs,hLt⟩:=hLj;by_cases hts:t≤s
    case neg =>
     have:=hLt t ht;rw[decide_eq_false hts,Bool.false_or]at this;rw[this,Bool.true_or]
    have hag:NdD cfg callE ml tr c' key j t=true:=by
     unfold NdD;rw[ho,htr];simp only[Bool.and_eq_true,Bool.or_eq_true,decide_eq_true_eq];rcases hs with⟨hg,hok,hev,hself⟩|⟨hg,e⟩
     ·obtain⟨hkT,hli⟩:=hok (by rw[←hqa];exact hq);unfold Nep at hself;rw[if_pos (by rw[←hqa];exact hq)]at hself;have hkT':=hkT Zaf;have hli':=hli rfl;obtain⟨hs1,hs2⟩:=hself rfl;have hfr:(stAt tr c' j).get (key+8 * j)=none:=ha j j (Nat.le_refl _) hjl;refine⟨?_,?_⟩
      ·by_cases htj:t≤j
       ·exact .inl htj
       ·right;rw[g3 j hkT' t Zaa htl];exact hs2
      ·rw[hg];simp only;have hsp:((sig ml tr c' key t).put (key+8 * j) none).get (key+8 * j)=none:=Yaf _ _ _;have hlow:∀ k,k<key→k∉T→((sig ml tr c' key t).put (key+8 * j) none).get k=(stAt tr c' j).get k:=by
        intro k hk hkT;rw[Yae Zaa];unfold sig;rw[NcB _ _ _ (fun q _ _ _=>by omega),g2 k hkT hk t hts htl,g2 k hkT hk j hjs Zaa]
       by_cases hp:Ncz o.op=true
       ·obtain⟨e1,e2⟩:=Ndj hp hev;rw[e2 _ _];simp only[hs1,Bool.true_and];rw[hsp,e1,hfr];rfl
       ·cases hop:o.op with
        |load agg n a =>
          rw[hop]at hev hli';obtain⟨e1,e2⟩:=Ndi hev;rw[e2 _ _ (fun k o e=>hlow k (hli' k o e).1 (hli' k o e).2)];simp only[hs1,Bool.true_and];rw[hsp,e1,hfr];rfl
        |callq f args =>
          rw[hop]at hev hli';obtain⟨la,hla⟩:=hli';obtain⟨st2,e1,e2⟩:=NeL hla hev ((sig ml tr c' key t).put (key+8 * j) none);rw[e1];simp only[hs1,Bool.true_and];rcases e2 with⟨e3,e4⟩|e3
          ·rw[e3,hsp,e4,hfr];rfl
          ·rw[e3];exact hs2
        |_=>rw[hop]at hli' hp;exact absurd hli' hp
     ·refine⟨?_,by rw[hg]⟩;by_cases htj:t≤j
      ·exact .inl htj
      ·right;have hns:=g4 j hjl (by rw[e];exact ha j j (Nat.le_refl _) hjl);rw[hns t Zaa htl,hns (j+1) (Nat.le_refl _) Zaa];rfl
    rw[hag,Bool.or_true]
 ·rename_i hq;rw[List.all_eq_true];intro m hm;have hml:m<ml.length:=by simpa using hm
  by_cases hjm:j<m
  ·rw[if_pos hjm,ha (j+1) m Zaa hml];rfl
  ·rw[if_neg hjm];split
   ·rename_i hc;simp only[Bool.and_eq_true,decide_eq_true_eq]at hc;unfold Nd3 at hO;rw[List.all_eq_true]at hO;have h1:=hO j hj;rw[Bool.or_eq_true]at h1;rcases h1 with h1|h1
    ·exact absurd h1 hq
    rw[List.all_eq_true]at h1;have h2:=h1 m hm;simp only[hc,decide_true,Bool.and_self,Bool.not_true,Bool.false_or,Bool.or_eq_true]at h2;rcases h2 with h2|h2
    ·rw[h2,Bool.true_or]
    ·obtain⟨om,hom⟩:∃ o,ml[m]? = some o:=⟨_,List.getElem?_eq_getElem hml⟩;rw[hom]at h2;simp only[Bool.or_eq_true]at h2;obtain⟨ci,vi,nd,_,_,_,hs⟩:=hst m om hom;have hqm:NaJ om.op=true:=(by rw[←Ndk hom];exact hc.2);have hfr:(stAt tr c' m).get (key+8 * m)=none:=ha m m (Nat.le_refl _) hml;have hend:(stAt tr c' j).get (key+8 * m)=none:=by
      rcases hs with⟨_,hok,hev,_⟩|⟨_,e⟩
      ·have hkT:=(hok hqm).1 (by rcases h2 with h2|h2<;>simp[h2]);rw[g3 m hkT j Zaa Zaa];rcases h2 with h2|h2
       ·rw[(Ndj h2 hev).1];exact hfr
       ·cases hop:om.op<;>rw[hop]at h2 hev<;>first|(simp[Nem]at h2;done)|skip
        rw[(Ndi hev).1];exact hfr
      ·exact g4 m hml (by rw[e];exact hfr) j Zaa Zaa
     rw[hend];simp
   ·rfl
theorem NjG{P:Program}{Gl:Gmap}(hC:Na7 P Gl callE)(hE:Ncg callE){n:Nat}{masks:List Nat}{Q:MExit→Now→Prop}(T U:List Nat)(s:Nat){ns:List Bool}(hO:Nd3 ml masks=true)(hL:Nkg ml masks s=true)(hN:NfJ ml masks=ns){env:Env}(fr:∀ k,st.cnt≤k→st.get k=none)
 (h:NiT cfg callE T U (st.cnt+8 * s) st.cnt ns ml st.cnt ⟨env,.leaf,⟨st.sto,st.cnt+8 * ml.length⟩⟩ fun c=>Q .nrm ⟨c.env,c.st⟩):WC cfg callE n (.chain ml masks none) ⟨env,st⟩ Q:=by
 subst hN;obtain⟨tr,c',h1,h2,h3,h4,h5⟩:=Nhq ml _ _ _ h;have hd:=Njf hC hE hO hL h1 (Nat.le_refl _) (fun k hk _=>fr k hk) h4 h5;refine⟨.nrm,⟨c'.env,c'.st⟩,?_,h2⟩;simp only[Naw,NcG,h1,hd,NcP,Bool.and_self,if_true,Option.map_some]
theorem Nlq(cfg:Cfg)(callE:CallE)(T U:List Nat)(ks k0:Nat)(ns:List Bool)(key:Nat)(c:Loc)(Q:Loc→Prop):NiT cfg callE T U ks k0 ns [] key c Q↔Q c:=by cases ns<;>exact Iff.rfl
theorem Na9(cfg:Cfg)(callE:CallE)(T U:List Nat)(ks k0:Nat)(nd:Bool)(ns:List Bool)(d:MDst)(op:MOp)(r:List MOper)(key:Nat)(env loc:Env)(st:St)(Q:Loc→Prop) :
 NiT cfg callE T U ks k0 (nd::ns) (⟨d,op,none⟩::r) key ⟨env,loc,st⟩ Q↔Ngg nd T U k0 key (Loc.rd ⟨env,loc,st⟩) st op∧WV (Nax cfg callE (Loc.rd ⟨env,loc,st⟩) st key op) fun v st'=>Nep nd T U ks key op st v st'∧NiT cfg callE T U ks k0 ns r (key+8) (Loc.wr ⟨env,loc,st'⟩ d v) Q:=Iff.trans Iff.rfl Iff.rfl
theorem Na2(cfg:Cfg)(callE:CallE)(T U:List Nat)(ks k0:Nat)(nd:Bool)(ns:List Bool)(d:MDst)(op:MOp)(x:Arg)(w:Bool)(r:List MOper)(key:Nat)(env loc:Env)(st:St)(Q:Loc→Prop) :
 NiT cfg callE T U ks k0 (nd::ns) (⟨d,op,some (x,w)⟩::r) key ⟨env,loc,st⟩ Q↔WG (Loc.rd ⟨env,loc,st⟩ x) w (Ngg nd T U k0 key (Loc.rd ⟨env,loc,st⟩) st op∧WV (Nax cfg callE (Loc.rd ⟨env,loc,st⟩) st key op) fun v st'=>Nep nd T U ks key op st v st'∧NiT cfg callE T U ks k0 ns r (key+8) (Loc.wr ⟨env,loc,st'⟩ d v) Q) (NiT cfg callE T U ks k0 ns r (key+8) (Loc.wr ⟨env,loc,st⟩ d (.tup [])) Q):=by
 show(match NaI _ _ with|some true=>_|some false=>_|none=>False)↔_;unfold NaI WG;simp only[];cases Loc.rd ⟨env,loc,st⟩ x with
 |b y=>cases y<;>cases w<;>simp
 |tup vs=>cases vs<;>simp
 |_=>simp
@[congr] theorem Npc{ns:List Bool}{key':Nat}{c c':Loc}(h:key=key')(h2:c=c')(Q:Loc→Prop):NiT cfg callE T U ks k0 ns ml key c Q=NiT cfg callE T U ks k0 ns ml key' c' Q:=by rw[h,h2]
theorem NkP(nd:Bool)(T U:List Nat)(ks key:Nat)(m:MOp)(st:St)(v:PV)(st':St)(h:NaJ m=true):Nep nd T U ks key m st v st'=Neh nd key v st':=by unfold Nep;rw[if_pos h]
theorem Nd4(nd:Bool)(T U:List Nat)(ks key:Nat)(m:MOp)(st:St)(v:PV)(st':St)(h:NaJ m=false):Nep nd T U ks key m st v st'=∀ k,k≠key→k∉T→(ks≤key→k∉U)→st'.get k=st.get k:=by unfold Nep;rw[if_neg (by rw[h];simp)]
theorem Nd2(nd:Bool)(T U:List Nat)(k0 key:Nat)(ρ:Arg→PV)(st:St)(m:MOp)(h:NaJ m=false):Ngg nd T U k0 key ρ st m=True:=by unfold Ngg;simp[h]
theorem Ngh{ρ:Arg→PV}(h:key∉T∧key∉U):Ngg false T U k0 key ρ st m:=fun _=>⟨fun _=>h,nofun⟩
theorem NhM{nd:Bool}{ρ:Arg→PV}(hp:Ncz m=true)(h:key∉T∧key∉U):Ngg nd T U k0 key ρ st m:=fun _=>⟨fun _=>h,fun _=>by
 unfold Ngc;split<;>first|exact hp|(simp[Ncz]at hp)⟩
theorem NkB{nd:Bool}{ρ:Arg→PV}{agg:Bool}{n:Nat}{a:Arg}(h:key∉T∧key∉U)(h2:∀ k o,ρ a=.ptr k o→k<k0∧k∉T):Ngg nd T U k0 key ρ st (.load agg n a):=fun _=>⟨fun _=>h,fun _=>h2⟩
theorem Nfe{st':St}{v:PV}(hq:NaJ m=true)(h1:PV.same Nb4 v v=true)(h2:st'.get key=none):Nep true T U ks key m st v st':=by
 rw[NkP _ _ _ _ _ _ _ _ _ hq,Nau,h2];exact⟨h1,rfl⟩
theorem Ngl{st':St}{v:PV}(hq:NaJ m=true):Nep false T U ks key m st v st':=by
 rw[NkP _ _ _ _ _ _ _ _ _ hq,Nas];trivial
end
end Go.Pe
set_option maxHeartbeats 8000000
namespace Go.Pe
open Go Go.Am Go.RowKit
mutual
def Sm.cp:Sm→Sm
 |.mk k o j i n za a zb b ze e r=>.mk k o j i n true (Exs.cp a) true (Sms.cp b) true (Sms.cp e) r
def Sms.cp:List Sm→List Sm
 |[]=>[]
 |s::r=>s.cp::Sms.cp r
end
theorem Sm.cp_cs(s:Sm):s.cp.cs=[.i .u8 (s.K.toNat:Int),.i .u8 (s.O.toNat:Int),.s s.J,.s s.I,.i .i64 s.N,slV true (Exs.cp s.A).length (Exs.cs (Exs.cp s.A)),slV true (Sms.cp s.B).length (Sms.cs (Sms.cp s.B)),slV true (Sms.cp s.E).length (Sms.cs (Sms.cp s.E)),.i .i64 s.R]:=by
 cases s;rw[Sm.cp,Sm.cs];rfl
theorem Sms.cp_len:∀ l:List Sm,(Sms.cp l).length=l.length
 |[]=>by rw[Sms.cp]
 |e::r=>by rw[Sms.cp,List.length_cons,List.length_cons,Sms.cp_len r]
mutual
theorem Sm.nrm_cs:∀ s:Sm,nrm.nrms s.cs=s.cp.cs
 |.mk k o j i n za a zb b ze e r=>by
   rw[Sm.cp,Sm.cs,Sm.cs];have h1:=Exs.nrm_sl za a;have h2:=Sms.nrm_sl zb b;have h3:=Sms.nrm_sl ze e;have q1:∀ k n,nrm (.i k n)=.i k n:=fun _ _=>by rw[nrm];intro _ _ h;cases h
   have q2:∀ s,nrm (.s s)=.s s:=fun _=>by rw[nrm];intro _ _ h;cases h
   simp only[nrm.nrms,h1,h2,h3,q1,q2]
theorem Sms.nrm_cs:∀ l:List Sm,nrm.nrms (Sms.cs l)=Sms.cs (Sms.cp l)
 |[]=>by rw[Sms.cs,nrm.nrms,Sms.cp,Sms.cs]
 |e::r=>by rw[Sms.cs,NdK,Sm.nrm_cs e,Sms.nrm_cs r,Sms.cp,Sms.cs]
theorem Sms.nrm_sl:∀ (z:Bool) (l:List Sm),nrm (slV z l.length (Sms.cs l))=slV true (Sms.cp l).length (Sms.cs (Sms.cp l))
 |z,[]=>by
   rw[Sms.cp];cases z
   ·rfl
   ·rfl
 |z,e::r=>by
   have h1:slV z (e::r).length (Sms.cs (e::r))=.fsl (e::r).length (Sms.cs (e::r)):=Nan (i:=0) Zaf;have h2:slV true (Sms.cp (e::r)).length (Sms.cs (Sms.cp (e::r)))=.fsl (Sms.cp (e::r)).length (Sms.cs (Sms.cp (e::r))):=Nan (i:=0) (by rw[Sms.cp];simp);have h3:nrm.nrms (Sms.cs (e::r))=Sms.cs (Sms.cp (e::r)):=(by rw[Sms.cs,NdK,Sm.nrm_cs e,Sms.nrm_cs r,Sms.cp,Sms.cs]);rw[h1,h2,nrm,if_neg Zaf,h3,Sms.cp_len]
end
section
variable {Gl:Gmap}{l:List Sm}{z:Bool}{d:Nat}
theorem Sms.cp_at:∀ (l:List Sm) (i:Nat) (h:i<l.length),Sms.cs ((Sms.cp l).take (i+1))=Sms.cs ((Sms.cp l).take i)++l[i].cp.cs
 |e::r,0,_=>by
   rw[Sms.cp,List.take_zero,List.take_succ_cons,List.take_zero,Sms.cs];simp[Sms.cs]
 |e::r,i+1,h=>by
   rw[Sms.cp,List.take_succ_cons,List.take_succ_cons,Sms.cs,Sms.cs,Sms.cp_at r i (by simpa using h),List.append_assoc];rfl
theorem Nk5(l:List Sm):(Sms.cs l).all PV.flat=true:=by
 rw[Sms.flat,List.all_eq_true];intro p hp;obtain⟨e,-,he⟩:=List.mem_flatMap.1 hp;rw[Sm.cs_eq]at he;simp only[List.mem_cons,List.not_mem_nil,or_false]at he;rcases he with rfl|rfl|rfl|rfl|rfl|rfl|rfl|rfl|rfl<;>first|rfl|exact Nbd _ _ _
theorem NlK{P:Program}{cfg:Cfg}(hok:CfgOK P Gl cfg)(hf:cfg.fn 12=some m12){fuel:Nat}(hfu:l.length+2≤fuel)(hl:l.length≤100000)
 (hA:∀ s∈l,Naj cfg (NaC cfg fuel) 25 [slV s.za s.A.length (Exs.cs s.A)]=some (slV true (Exs.cp s.A).length (Exs.cs (Exs.cp s.A))))
 (hB:∀ s∈l,Naj cfg (NaC cfg fuel) 12 [slV s.zb s.B.length (Sms.cs s.B)]=some (slV true (Sms.cp s.B).length (Sms.cs (Sms.cp s.B))))
 (hE:∀ s∈l,Naj cfg (NaC cfg fuel) 12 [slV s.ze s.E.length (Sms.cs s.E)]=some (slV true (Sms.cp s.E).length (Sms.cs (Sms.cp s.E)))) :
 ∃ r st',NaC cfg (fuel+1) 12 [slV z l.length (Sms.cs l)] { sto:=.leaf,cnt:=1 }=some (r,st')∧(Own st' 9 r l.length (Sms.cs (Sms.cp l))∧(l=[]→r=.nsl)):=by
 refine NaA hf ?_;delta m12 Qa Qr Qg Ql Qt Qn Qk Qm Qi Qo Qw;have hlv:=NaD z l.length (Sms.cs l);have hsz:=Sms.len l;obtain⟨X,hX⟩:∃ X:PV→St→Prop,X=fun r st'=>(Own st' 9 r l.length (Sms.cs (Sms.cp l))∧(l=[]→r=.nsl)):=⟨_,rfl⟩
 simp only[show ∀ r st',(Own st' 9 r l.length (Sms.cs (Sms.cp l))∧(l=[]→r=.nsl))=X r st' from fun _ _=>by rw[hX]];simp only[Nai]
 iterate 4
  (try rw[Z0]);(try simp(maxSteps:=9^7)(disch:=first|omega|rfl|assumption)only[↓Yaa,Yab,Nae,Naa,rB,rC,rD,rE,reduceIte,unP,rF])
 refine Z9 (k:=l.length - 0) (fun m x=>∃ (i:Nat) (v:PV),m=l.length - i∧x.env.get 0=slV z l.length (Sms.cs l)∧x.env.get 3=v∧x.env.get 4=.i .i64 (i:Int)∧(i≤l.length)∧(Own x.st 9 v i (Sms.cs ((Sms.cp l).take i)))∧(i=0→v=.nsl)∧(Top x.st)) ?_ ?_ Zaa
 ·skip
  rintro m ⟨env,⟨sto,c⟩⟩ ⟨i,v,rfl,g0,g3,g4,hi,ho,hz,ht⟩;try simp only at g0 g3 g4 ho ht
  by_cases hil:i<l.length
  ·rw[Nan hil]at g0 hlv;obtain⟨e,he⟩:∃ e,l[i]=e:=⟨_,rfl⟩;have hem:e∈l:=he▸List.getElem_mem hil;have hld:=fun st=>NcL (st:=st) hil;simp only[he]at hld;have rs:∀ (st:St) (key:Nat) z n cs,NaO st key (slV z n cs)=some (slV z n cs,st):=fun st key z n cs=>by unfold slV;split<;>rfl
   have gA:∀ (st:St) (key:Nat),Nam (Naj cfg (NaC cfg fuel) 25) false st key [slV e.za e.A.length (Exs.cs e.A)]=some (slV true (Exs.cp e.A).length (Exs.cs (Exs.cp e.A)),st):=fun st key=>Nal Zam (hA e hem) (rs _ _ _ _ _);have gB:∀ (st:St) (key:Nat),Nam (Naj cfg (NaC cfg fuel) 12) false st key [slV e.zb e.B.length (Sms.cs e.B)]=some (slV true (Sms.cp e.B).length (Sms.cs (Sms.cp e.B)),st):=fun st key=>Nal Zam (hB e hem) (rs _ _ _ _ _);have gE:∀ (st:St) (key:Nat),Nam (Naj cfg (NaC cfg fuel) 12) false st key [slV e.ze e.E.length (Sms.cs e.E)]=some (slV true (Sms.cp e.E).length (Sms.cs (Sms.cp e.E)),st):=fun st key=>Nal Zam (hE e hem) (rs _ _ _ _ _);refine Ngy hok ht ?_;have lv:∀ q,q∈keyOf v→q<c:=fun q hq=>ho.lt q hq;have hv1:v.one=true:=(Ncc ho).2;have hvc:v.cells=[v]:=(Ncc ho).1
   iterate 4
    (try rw[Z0]);(try simp(maxSteps:=9^7)(disch:=first|omega|rfl|assumption)only[↓Yaa,Yab,Nae,Naa,rB,rC,rD,rE,reduceIte,unP,rF,g0,g3,g4,hlv,hsz,hld,Nag,Naf])
   refine NaL (fun x=>∃ (B:Nat),B<x.st.cnt∧x.env.get 0=.fsl l.length (Sms.cs l)∧x.env.get 3=v∧x.env.get 4=.i .i64 (i:Int)∧x.env.get 5=.ptr B 0∧x.st.get B=some (.cells [.i .u8 (e.K.toNat:Int),.i .u8 (e.O.toNat:Int),.s e.J,.s e.I,.i .i64 e.N,slV e.za e.A.length (Exs.cs e.A),slV e.zb e.B.length (Sms.cs e.B),slV e.ze e.E.length (Sms.cs e.E),.i .i64 e.R] false)∧(Own x.st 9 v i (Sms.cs ((Sms.cp l).take i)))∧((∀ q,q∈keyOf v→q<B))∧(Top x.st)) ?_ ?_
   ·refine⟨c+64,Zab,?_,?_,?_,?_,(by rw[Yaf]),(ho.move Zai fun q hq _=>by have:=lv q hq;simp(disch:=omega)only[NaP,NaV];rfl),(fun q hq=>by have:=lv q hq;omega),(Top.put (Top.put (ht.le Zag) Zag) Zal)⟩<;>first|with_reducible rfl|with_reducible assumption|(simp[Yad,g0,g3,g4]<;>omega)
   clear g0 g3 g4 ho ht;rintro⟨env,⟨sto,c⟩⟩ ⟨B,bB,g0,g3,g4,g5,kB,ho,kv,ht⟩;try simp only at bB g0 g3 g4 g5 ho ht
   replace kB:∀ n',St.get ⟨sto,n'⟩ B=some (.cells [.i .u8 (e.K.toNat:Int),.i .u8 (e.O.toNat:Int),.s e.J,.s e.I,.i .i64 e.N,slV e.za e.A.length (Exs.cs e.A),slV e.zb e.B.length (Sms.cs e.B),slV e.ze e.E.length (Sms.cs e.E),.i .i64 e.R] false):=fun _=>kB;have kn:∀ d,c+d∉([]:List Nat)∧c+d∉[B]:=fun d=>⟨List.not_mem_nil,fun h=>by
    simp only[List.mem_cons,List.not_mem_nil,or_false]at h;omega⟩
   have hnn:∀ d n',St.get ⟨sto,n'⟩ (c+d)=none:=fun d _=>ht (c+d) Zae;refine Nbn fun K9 hK9=>?_;refine NjG (Nb8 hok _) (NcH hok _).2 [] [B] 10 Zao Zao (ns:=[false,false,false,true,true,false,true,true,false,true,false,false,false,false,false]) Zao ht ?_;(first|rw[Na9]|rw[Na2]);(try simp(maxSteps:=9^7)(disch:=first|omega|rfl|assumption)only[↓Yaa,Yac,Nae,Naa,rB,rC,rD,rE,reduceIte,unP,Xl,rF,g5,kB,Nb6,Nb7,gA,gB,gE,Nag,Naf]);(first|rw[Na9]|rw[Na2]);(try simp(maxSteps:=9^7)(disch:=first|omega|rfl|assumption)only[↓Yaa,Yac,Nae,Naa,rB,rC,rD,rE,reduceIte,unP,Xl,rF,g5,kB,Nb6,Nb7,gA,gB,gE,Nag,Naf]);(first|rw[Na9]|rw[Na2]);(try simp(maxSteps:=9^7)(disch:=first|omega|rfl|assumption)only[↓Yaa,Yac,Nae,Naa,rB,rC,rD,rE,reduceIte,unP,Xl,rF,g5,kB,Nb6,Nb7,gA,gB,gE,Nag,Naf]);(first|rw[Na9]|rw[Na2]);(try simp(maxSteps:=9^7)(disch:=first|omega|rfl|assumption)only[↓Yaa,Yac,Nae,Naa,rB,rC,rD,rE,reduceIte,unP,Xl,rF,g5,kB,Nb6,Nb7,gA,gB,gE,Nag,Naf]);(first|rw[Na9]|rw[Na2]);(try simp(maxSteps:=9^7)(disch:=first|omega|rfl|assumption)only[↓Yaa,Yac,Nae,Naa,rB,rC,rD,rE,reduceIte,unP,Xl,rF,g5,kB,Nb6,Nb7,gA,gB,gE,Nag,Naf]);(first|rw[Na9]|rw[Na2]);(try simp(maxSteps:=9^7)(disch:=first|omega|rfl|assumption)only[↓Yaa,Yac,Nae,Naa,rB,rC,rD,rE,reduceIte,unP,Xl,rF,g5,kB,Nb6,Nb7,gA,gB,gE,Nag,Naf]);(first|rw[Na9]|rw[Na2]);(try simp(maxSteps:=9^7)(disch:=first|omega|rfl|assumption)only[↓Yaa,Yac,Nae,Naa,rB,rC,rD,rE,reduceIte,unP,Xl,rF,g5,kB,Nb6,Nb7,gA,gB,gE,Nag,Naf]);(first|rw[Na9]|rw[Na2]);(try simp(maxSteps:=9^7)(disch:=first|omega|rfl|assumption)only[↓Yaa,Yac,Nae,Naa,rB,rC,rD,rE,reduceIte,unP,Xl,rF,g5,kB,Nb6,Nb7,gA,gB,gE,Nag,Naf]);(first|rw[Na9]|rw[Na2]);(try simp(maxSteps:=9^7)(disch:=first|omega|rfl|assumption)only[↓Yaa,Yac,Nae,Naa,rB,rC,rD,rE,reduceIte,unP,Xl,rF,g5,kB,Nb6,Nb7,gA,gB,gE,Nag,Naf]);(first|rw[Na9]|rw[Na2]);(try simp(maxSteps:=9^7)(disch:=first|omega|rfl|assumption)only[↓Yaa,Yac,Nae,Naa,rB,rC,rD,rE,reduceIte,unP,Xl,rF,g5,kB,Nb6,Nb7,gA,gB,gE,Nag,Naf]);(first|rw[Na9]|rw[Na2]);(try simp(maxSteps:=9^7)(disch:=first|omega|rfl|assumption)only[↓Yaa,Yac,Nae,Naa,rB,rC,rD,rE,reduceIte,unP,Xl,rF,g5,kB,Nb6,Nb7,gA,gB,gE,Nag,Naf]);(first|rw[Na9]|rw[Na2]);(try simp(maxSteps:=9^7)(disch:=first|omega|rfl|assumption)only[↓Yaa,Yac,Nae,Naa,rB,rC,rD,rE,reduceIte,unP,Xl,rF,g5,kB,Nb6,Nb7,gA,gB,gE,Nag,Naf]);(first|rw[Na9]|rw[Na2]);(try simp(maxSteps:=9^7)(disch:=first|omega|rfl|assumption)only[↓Yaa,Yac,Nae,Naa,rB,rC,rD,rE,reduceIte,unP,Xl,rF,g5,kB,Nb6,Nb7,gA,gB,gE,Nag,Naf]);(first|rw[Na9]|rw[Na2]);(try simp(maxSteps:=9^7)(disch:=first|omega|rfl|assumption)only[↓Yaa,Yac,Nae,Naa,rB,rC,rD,rE,reduceIte,unP,Xl,rF,g5,kB,Nb6,Nb7,gA,gB,gE,Nag,Naf]);(first|rw[Na9]|rw[Na2]);(try simp(maxSteps:=9^7)(disch:=first|omega|rfl|assumption)only[↓Yaa,Yac,Nae,Naa,rB,rC,rD,rE,reduceIte,unP,Xl,rF,g5,kB,Nb6,Nb7,gA,gB,gE,Nag,Naf]);refine⟨Ngh ⟨List.not_mem_nil,by simp;omega⟩,Ngl rfl,Ngh (kn 8),Ngl rfl,by rw[Nd2 _ _ _ _ _ _ _ _ rfl];trivial,by rw[Nd4 _ _ _ _ _ _ _ _ _ rfl];exact fun _ _ _ _=>rfl,NhM rfl (kn 24),Nfe rfl (Ndm _ _) (hnn 24 _),NkB (kn 32) (fun k o h=>by cases h;exact⟨by omega,List.not_mem_nil⟩),Nfe rfl (Nhf _ _ _) (hnn 32 _),by rw[Nd2 _ _ _ _ _ _ _ _ rfl];trivial,by rw[Nd4 _ _ _ _ _ _ _ _ _ rfl];exact fun _ _ _ _=>rfl,NhM rfl (kn 48),Nfe rfl (Ndm _ _) (hnn 48 _),NkB (kn 56) (fun k o h=>by cases h;exact⟨by omega,List.not_mem_nil⟩),Nfe rfl (Nhf _ _ _) (hnn 56 _),by rw[Nd2 _ _ _ _ _ _ _ _ rfl];trivial,by rw[Nd4 _ _ _ _ _ _ _ _ _ rfl];exact fun _ _ _ _=>rfl,NhM rfl (kn 72),Nfe rfl (Ndm _ _) (hnn 72 _),by rw[Nd2 _ _ _ _ _ _ _ _ rfl];trivial,by rw[Nd4 _ _ _ _ _ _ _ _ _ rfl];exact fun q _ _ h=>Yae (fun e=>h Zaa (by rw[e];simp)),Ngh (kn 88),Ngl rfl,by rw[Nd2 _ _ _ _ _ _ _ _ rfl];trivial,by rw[Nd4 _ _ _ _ _ _ _ _ _ rfl];exact fun q _ _ h=>Yae (fun e=>h Zaa (by rw[e];simp)),Ngh (kn 104),Ngl rfl,by rw[Nd2 _ _ _ _ _ _ _ _ rfl];trivial,by rw[Nd4 _ _ _ _ _ _ _ _ _ rfl];exact fun q _ _ h=>Yae (fun e=>h Zaa (by rw[e];simp)),?_⟩;rw[Nlq];refine hK9 _ ?_;refine NaL (fun x=>x.env.get 0=.fsl l.length (Sms.cs l)∧x.env.get 3=v∧x.env.get 4=.i .i64 (i:Int)∧x.env.get 5=.ptr B 0∧B<x.st.cnt∧x.st.get B=some (.cells [.i .u8 (e.K.toNat:Int),.i .u8 (e.O.toNat:Int),.s e.J,.s e.I,.i .i64 e.N,slV true (Exs.cp e.A).length (Exs.cs (Exs.cp e.A)),slV true (Sms.cp e.B).length (Sms.cs (Sms.cp e.B)),slV true (Sms.cp e.E).length (Sms.cs (Sms.cp e.E)),.i .i64 e.R] false)∧(Own x.st 9 v i (Sms.cs ((Sms.cp l).take i)))) ?_ ?_
   ·refine⟨?_,?_,?_,?_,Zab,(by rw[Yaf]),(ho.move Zai fun q hq _=>by have:=kv q hq;simp(disch:=omega)only[NaP,NaV];rfl)⟩<;>first|with_reducible rfl|with_reducible assumption|(simp[Yad,g0,g3,g4,g5]<;>omega)
   clear bB g0 g3 g4 g5 kB ho ht;rintro⟨env,⟨sto,c⟩⟩ ⟨g0,g3,g4,g5,bB,kB,ho⟩;try simp only at g0 g3 g4 g5 bB ho
   replace kB:∀ n',St.get ⟨sto,n'⟩ B=some (.cells [.i .u8 (e.K.toNat:Int),.i .u8 (e.O.toNat:Int),.s e.J,.s e.I,.i .i64 e.N,slV true (Exs.cp e.A).length (Exs.cs (Exs.cp e.A)),slV true (Sms.cp e.B).length (Sms.cs (Sms.cp e.B)),slV true (Sms.cp e.E).length (Sms.cs (Sms.cp e.E)),.i .i64 e.R] false):=fun _=>kB;(try rw[Z0]);(try simp(maxSteps:=9^7)(disch:=first|omega|rfl|assumption)only[↓Yaa,Yab,Nae,Naa,rB,rC,rD,rE,reduceIte,unP,rF,g0,g3,g4,g5,kB,Nag,Naf,hv1,hvc,Nct,List.length_cons,List.length_nil]);rw[←Sm.cp_cs];have kvB:∀ q,q∈keyOf v→q<B:=kv;refine NeI (n:=i) (cs:=Sms.cs ((Sms.cp l).take i)) (news:=e.cp.cs) (m:=1) (ho.move Zai fun q hq _=>by have:=kvB q hq;simp(disch:=omega)only[NaP,NaV];rfl) Zai (fun h=>by have:=kvB _ h;omega) (by rw[Sm.cp_cs];rfl) Zaa (by unfold maxBytes;omega) ?_;rintro v' ⟨sto',c'⟩ hown hcnt hkey hj;simp only[Naz]at hcnt;subst hcnt;rw[←he,←Sms.cp_at l i hil]at hown
   iterate 2
    (try rw[Z0]);(try simp(maxSteps:=9^7)(disch:=first|omega|rfl|assumption)only[↓Yaa,Yab,Nae,Naa,rB,rC,rD,rE,reduceIte,unP,rF,g0,g3,g4,g5,kB])
   intro ht2;exact⟨l.length - (i+1),by omega,i+1,v',rfl,(Nan hil).symm,rfl,rfl,by omega,hown.cnt Zaa,(fun h=>by omega),ht2⟩
  ·obtain rfl:i=l.length:=by omega
   rw[List.take_of_length_le (by rw[Sms.cp_len];omega)]at ho
   iterate 6
    (try rw[Z0]);(try simp(maxSteps:=9^7)(disch:=first|omega|rfl|assumption)only[↓Yaa,Yab,Nae,Naa,rB,rC,rD,rE,reduceIte,unP,rF,g0,g3,g4,hlv])
   subst hX;exact⟨nofun,_,rfl,by simp only[Nay,Yad,if_true];exact ho.cnt Zaa,fun h=>by simp only[Nay,Yad,if_true];exact hz (by rw[h];rfl)⟩
 ·skip
  exact⟨0,.nsl,rfl,Zac,Zac,Zac,Zad,(by rw[List.take_zero,Sms.cs];exact Own.nil _ _),(fun _=>rfl),(fun k _=>rfl)⟩
open Classical in
noncomputable def Nll(d:Nat):List PV→Option PV
 |[v]=>if ∃ (z:Bool) (l:List Sm),v=slV z l.length (Sms.cs l)∧Sms.dp l≤d∧Sms.size l≤100000 then some (nrm v)else none
 |_=>none
theorem NhC(h1:Sms.dp l≤d)(h2:Sms.size l≤100000):Nll d [slV z l.length (Sms.cs l)]=some (slV true (Sms.cp l).length (Sms.cs (Sms.cp l))):=by
 unfold Nll
 dsimp only
 rw[if_pos ⟨z,l,rfl,h1,h2⟩,Sms.nrm_sl]
theorem Nk0:∀ {l:List Sm}{s:Sm},s∈l→s.dp+1≤Sms.dp l
 |[],_,h=>by simp at h
 |a::r,e,h=>by
   rw[Sms.dp];rcases List.mem_cons.1 h with rfl|h
   ·omega
   ·have:=Nk0 h;omega
noncomputable def NeM(d:Nat):Cfg:={ fn:=fun f=>NcT f tblL,ext:=fun f=>if f=25 then some (Nl7 d)else if f=12 then(match d with|0=>none|d+1=>some (Nll d))else none }
theorem NjQ(hok:CfgOK Go.Proofs.Tryz.prog Gl (NeM d))(hs:Sms.size l≤100000)(hd:Sms.dp l≤d) :
 (NeK (NaC (NeM d) (l.length+2+1)) 12 [slV z l.length (Sms.cs l)]).map frzV=some (slV true (Sms.cp l).length (Sms.cs (Sms.cp l))):=by
 have hlle:=Sms.len_le l;have hxe:(NeM d).ext 25=some (Nl7 d):=by unfold NeM;simp
 have hxs:∀ d',d=d'+1→(NeM d).ext 12=some (Nll d'):=fun d' h=>by subst h;unfold NeM;rfl
 have hin:∀ s∈l,s.dp+1≤d∧s.size≤100000:=fun s hm=>⟨by have:=Nk0 hm;omega,by have:=Sms.size_mem hm;omega⟩;obtain⟨r,st',h1,h2,h3⟩:=NlK hok (by kernel_rfl) (fuel:=l.length+2) (l:=l) (z:=z) (Nat.le_refl _) Zaa
  (fun s hm=>by
   obtain⟨q1,q2⟩:=hin s hm;have hz:=Sm.size_eq s;have hp:=Sm.dp_eq s;rw[NaM hxe];exact Nj9 Zaa Zaa)
  (fun s hm=>by
   obtain⟨q1,q2⟩:=hin s hm;have hz:=Sm.size_eq s;have hp:=Sm.dp_eq s;rw[NaM (hxs (d - 1) Zaa)];exact NhC Zaa Zaa)
  (fun s hm=>by
   obtain⟨q1,q2⟩:=hin s hm;have hz:=Sm.size_eq s;have hp:=Sm.dp_eq s;rw[NaM (hxs (d - 1) Zaa)];exact NhC Zaa Zaa)
 unfold NeK;rw[NbQ];simp only[h1];rw[Sms.cp_len];exact NgF h2 (Nk5 _) Zaj (fun h=>h3 (List.eq_nil_of_length_eq_zero h))
theorem Nia(ih:∀ d',d=d'+1→NbC Go.Proofs.Tryz.prog Gl 12 (Nll d')):NbC Go.Proofs.Tryz.prog Gl 12 (Nll d):=by
 intro args r hr;unfold Nll at hr;split at hr
 ·rename_i v;split at hr
  ·rename_i hx;obtain⟨z,l,rfl,h1,h2⟩:=hx;rw[Sms.nrm_sl]at hr;have hok:CfgOK Go.Proofs.Tryz.prog Gl (NeM d):=Ncn Ncq (fun f g h=>by
    by_cases hf:f=25
    ·subst hf;simp[NeM]at h;subst h;exact Nh8 d
    ·by_cases hf2:f=12
     ·subst hf2;cases d with
      |zero=>simp[NeM]at h
      |succ d =>
        simp[NeM]at h;subst h;exact ih d rfl
     ·simp[NeM,hf,hf2]at h)
   exact Ngm (Ner (Nb8 hok _) _) _ _ ((NjQ hok h2 h1).trans hr)
  ·cases hr
 ·cases hr
theorem Nh9{Gl:Gmap}:∀ d,NbC Go.Proofs.Tryz.prog Gl 12 (Nll d)
 |0=>Nia (fun d' h=>by omega)
 |d+1=>Nia (fun d' h=>by
   have e:d'=d:=(by omega);rw[e];exact Nh9 d)
end
end Go.Pe
