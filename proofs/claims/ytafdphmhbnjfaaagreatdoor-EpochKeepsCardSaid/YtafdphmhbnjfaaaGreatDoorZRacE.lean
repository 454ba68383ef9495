/-
 Races: all events' clocks, walked. No condition.
-/
import Derived.Test.YtafdphmhbnjfaaaGreatDoorZRacD
set_option linter.unusedVariables false
set_option linter.unusedSimpArgs false
set_option maxHeartbeats 8000000
open Nat renaming reduceAdd → rA,reduceMul → rB,reduceLT → rC,reduceEqDiff → rD,reduceLeDiff → rE
namespace Go.Pe
open Go Go.Am Go.RowKit
section
variable {st:St}{cd:Cd}{vs:List PV}
def dcZ:Dc:=⟨0,[],0,[],0⟩
def etZ:Et:=⟨0,0,0,0,0⟩
def kdE(cd:Cd)(e:Et):Dc:=cd.O.getD e.J.toNat dcZ
def tkE(cd:Cd)(e:Et):List Ch:=Nbe (kdE cd e).K.toNat e.O.toNat e.J (kdE cd e).N e.A
def gvE(cd:Cd)(e:Et):List Ch:=Na6 (kdE cd e).K.toNat e.O.toNat e.J (kdE cd e).N e.A
def thL(l:List Et)(i:Nat):Int:=(l.getD i etZ).T
def tkL(cd:Cd)(l:List Et)(i:Nat):List Ch:=tkE cd (l.getD i etZ)
def gvL(cd:Cd)(l:List Et)(i:Nat):List Ch:=gvE cd (l.getD i etZ)
def Nhh(cd:Cd)(l:List Et)(i:Nat):List Int:=NfY (thL l) (gvL cd l) (tkL cd l) i
def NbS(cd:Cd)(l:List Et)(n:Nat):List (List Int):=(List.range n).map (Nhh cd l)
def clP(a:List Int):PV:=.fsl a.length (NaI a)
structure EtOK(cd:Cd)(e:Et):Prop where
 j0:0≤e.J
 j1:e.J.toNat<cd.O.length
 t0:0≤e.T
 t1:e.T≤63
def LV(st:St)(vs:List PV)(bs:List (List Int)):Prop:=vs.length=bs.length∧∀ (j:Nat) (v:PV) (a:List Int),vs[j]? = some v→bs[j]? = some a→CV st st.cnt v a∧a≠[]
theorem LV.nil(st:St):LV st [] []:=⟨rfl,fun j v a h=>by simp at h⟩
theorem LV.push{bs:List (List Int)}{v:PV}{a:List Int}(h:LV st vs bs)(hv:CV st st.cnt v a)(ha:a≠[]):LV st (vs++[v]) (bs++[a]):=by
 refine⟨by simp[h.1],fun j u b hu hb=>?_⟩;by_cases hj:j<vs.length
 ·rw[List.getElem?_append_left hj]at hu;rw[List.getElem?_append_left (by rw[←h.1];exact hj)]at hb;exact h.2 j u b hu hb
 ·have h0:j=vs.length:=by
   have:=(List.getElem?_eq_some_iff.1 hu).1;simp at this;omega
  subst h0;rw[List.getElem?_append_right (Nat.le_refl _),Nat.sub_self]at hu;rw[h.1,List.getElem?_append_right (Nat.le_refl _),Nat.sub_self]at hb;simp at hu hb;subst hu;subst hb;exact⟨hv,ha⟩
theorem LV.move{st':St}{bs:List (List Int)}(h:LV st vs bs)(hc:st.cnt≤st'.cnt)(hg:∀ (v:PV) (a:List Int) (j:Nat),CV st st.cnt v a→j∈keyOf v→j<st.cnt→st'.get j=st.get j):LV st' vs bs :=
 ⟨h.1,fun j v a hv ha=>⟨(h.2 j v a hv ha).1.move hc fun q hq hk=>hg v a q (h.2 j v a hv ha).1 hk hq,(h.2 j v a hv ha).2⟩⟩
theorem LV.deep:∀ {vs:List PV}{bs:List (List Int)},LV st vs bs→Nbg st vs=some (bs.map clP)
 |[],[],_=>rfl
 |[],_::_,h=>by have:=h.1;simp at this
 |_::_,[],h=>by have:=h.1;simp at this
 |v::vs,a::bs,h=>by
   obtain⟨h1,h2⟩:=h.2 0 v a rfl rfl;have ht:LV st vs bs:=⟨by have:=h.1;simpa using this,fun j u b hu hb=>h.2 (j+1) u b (by simpa using hu) (by simpa using hb)⟩;have ih:=ht.deep;obtain⟨w,d,i⟩:=h1.deep;have hw:w=clP a:=by
    rcases h1 with⟨_,h0⟩|⟨_,k,rfl,_,hk⟩
    ·exact absurd h0 h2
    ·have:Go.Pe.deep st 12 (.rsl k 1 0 a.length)=some (clP a):=by
      show Go.Pe.deep st (11+1) _=_;unfold Go.Pe.deep;simp only[hk,cut?,Nat.zero_add,List.drop_zero];rw[if_pos (by rw[NaH];omega),Nat.mul_one,←NaH a,List.take_length];have hm:∀ l:List Int,mapO (Go.Pe.deep st 11) (NaI l)=some (NaI l):=by
       intro l
       induction l with
       |nil=>rfl
       |cons c r ih =>
         have e:Go.Pe.deep st 11 (.i .i64 c)=some (.i .i64 c):=rfl;show mapO _ (.i .i64 c::NaI r)=_;simp only[mapO,e,ih];rfl
      simp only[hm];unfold clP;rw[NaH];rfl
     rw[this]at d;simpa using d.symm
   unfold Nbg at ih ⊢;have d':Go.Pe.deep st NbU v=some w:=d;simp only[mapO,d',ih,hw,List.map_cons]
theorem LV.keys{k:Nat}:∀ {vs:List PV}{bs:List (List Int)},LV st vs bs→(∀ (v:PV) (a:List Int),CV st st.cnt v a→k∉keyOf v)→(keysL st vs).contains k=false
 |[],[],_,_=>rfl
 |[],_::_,h,_=>by have:=h.1;simp at this
 |_::_,[],h,_=>by have:=h.1;simp at this
 |v::vs,a::bs,h,hk=>by
   obtain⟨h1,h2⟩:=h.2 0 v a rfl rfl;have ht:LV st vs bs:=⟨by have:=h.1;simpa using this,fun j u b hu hb=>h.2 (j+1) u b (by simpa using hu) (by simpa using hb)⟩;have ih:=ht.keys hk;have hq:=hk v a h1;rcases h1 with⟨_,h0⟩|⟨_,q,rfl,_,hg⟩
   ·exact absurd h0 h2
   ·have e:keysP st NbU (.rsl q 1 0 a.length)=[q]:=by
     show keysP st (11+1) _=_;unfold keysP;simp only[hg];have:∀ l:List Int,(NaI l).flatMap (keysP st 11)=[]:=by
      intro l
      induction l with
      |nil=>rfl
      |cons c r ih=>show keysP st 11 (.i .i64 c)++(NaI r).flatMap _=_;rw[ih];rfl
     rw[this]
    unfold keysL at ih ⊢;rw[List.flatMap_cons,e];simp only[keyOf,List.mem_singleton]at hq;simp only[List.contains_eq_mem,List.singleton_append,List.mem_cons,decide_eq_false_iff_not,not_or]at ih ⊢;exact⟨hq,ih⟩
def Nno(bs:List (List Int)):PV:=if bs=[]then .nsl else .osl 1 bs.length (bs.map clP)
theorem NiQ{v:PV}{bs:List (List Int)}(ho:Own st 1 v bs.length vs)(hl:LV st vs bs)(hz:bs=[]→v=.nsl):NaY st v=some (Nno bs):=by
 unfold Nno;rcases ho with⟨rfl,h0,rfl⟩|⟨k,rfl,h1,h2,h3⟩
 ·have:bs=[]:=List.eq_nil_of_length_eq_zero h0;subst this;rfl
 ·by_cases h0:bs=[]
  ·cases hz h0
  have hw:NdU? st (.rsl k 1 0 bs.length)=some (k,1,bs.length,vs):=by
   unfold NdU?;simp only[h1];rw[if_pos ⟨trivial,h2,by omega⟩]
  have hk:(keysL st vs).contains k=false:=hl.keys fun u a hu hm=>by
   rcases hu with⟨rfl,_⟩|⟨hne,q,rfl,_,hg⟩
   ·simp[keyOf]at hm
   ·simp only[keyOf,List.mem_singleton]at hm;subst hm;rw[h1]at hg;simp only[Sj,PObj.cells.injEq,and_true]at hg;have hv0:∃ v0,vs[0]? = some v0:=⟨vs[0]'(by rw[h2];have:=List.length_pos_iff.2 h0;omega),by simp⟩;obtain⟨v0,hv0⟩:=hv0;have ha0:∃ a0,bs[0]? = some a0:=⟨bs[0]'(List.length_pos_iff.2 h0),by simp⟩;obtain⟨a0,ha0⟩:=ha0;obtain⟨c1,c2⟩:=hl.2 0 v0 a0 hv0 ha0;rcases c1 with⟨_,c1⟩|⟨_,q2,rfl,_,_⟩
    ·exact c2 c1
    ·rw[hg]at hv0;simp[NaI]at hv0
  unfold NaY;simp only[hw,hk,Bool.false_eq_true,if_false,hl.deep,Option.map_some,h0]
theorem NmR{e:Et}(h:EtOK cd e):cd.O[e.J.toNat]'h.j1=kdE cd e:=by
 unfold kdE;rw[List.getD_eq_getElem?_getD,List.getElem?_eq_getElem h.j1];rfl
theorem WR.zero{G:Nat→Prop}{W Tm Cm:Nat}(l:W<st.cnt∧Tm<st.cnt∧Cm<st.cnt)(n:W≠Tm∧W≠Cm∧Tm≠Cm)(gW:st.get W=some (.cells [slV cd.zo cd.O.length (cd.O.flatMap Dc.cs),slV cd.zt cd.T.length (cd.T.flatMap Tx.cs),.mp Tm,.mp Cm] false))(gT:st.get Tm=some (.map []))(gC:st.get Cm=some (.map [])):WR G st W Tm Cm cd ⟨fun _=>[],fun _=>[]⟩ :=
 ⟨l,n,gW,⟨[],_,gT,MK.nil NcC,fun _=>⟨.inl ⟨rfl,rfl⟩,fun k h=>by simp[keyOf]at h⟩⟩,⟨[],_,gC,MK.nil NmS,fun _=>⟨.inl ⟨rfl,rfl⟩,fun k h=>by simp[keyOf]at h⟩⟩,fun _=>rfl,fun _=>rfl⟩
theorem WR.keep{G G':Nat→Prop}{st':St}{W Tm Cm:Nat}{wt:Wt}(h:WR G st W Tm Cm cd wt)(hc:st.cnt≤st'.cnt)(hW:st'.get W=st.get W)(hT:st'.get Tm=st.get Tm)(hC:st'.get Cm=st.get Cm)(hg:∀ j,j<st.cnt→G j→(∃ a,st.get j=some (.cells (NaI a) false))→st'.get j=st.get j∧G' j):WR G' st' W Tm Cm cd wt:=by
 obtain⟨l1,l2,l3⟩:=h.lt;obtain⟨es,f,a1,a2,a3⟩:=h.gT;obtain⟨es2,f2,b1,b2,b3⟩:=h.gC;have key:∀ {v:PV}{a:List Int},CV st st.cnt v a→(∀ k,k∈keyOf v→G k)→∀ k,k∈keyOf v→st'.get k=st.get k∧G' k:=by
  intro v a hv hG k hk;rcases hv with⟨rfl,_⟩|⟨_,q,rfl,hq,hgq⟩
  ·simp[keyOf]at hk
  ·simp only[keyOf,List.mem_singleton]at hk;subst hk;exact hg k hq (hG k (by simp[keyOf])) ⟨_,hgq⟩
 exact⟨⟨by omega,by omega,by omega⟩,h.ne,hW.trans h.gW,⟨es,f,hT.trans a1,a2,fun u=>⟨(a3 u).1.move hc fun j _ hk=>(key (a3 u).1 (a3 u).2 j hk).1,fun k hk=>(key (a3 u).1 (a3 u).2 k hk).2⟩⟩,⟨es2,f2,hC.trans b1,b2,fun u=>⟨(b3 u).1.move hc fun j _ hk=>(key (b3 u).1 (b3 u).2 j hk).1,fun k hk=>(key (b3 u).1 (b3 u).2 k hk).2⟩⟩,h.sT,h.sC⟩
def gT0:Nat→Prop:=fun _=>True
theorem Nnn{l:List Et}{i:Nat}(h0:0≤thL l i)(h1:thL l i≤63):Nhh cd l i≠[]:=by
 unfold Nhh NfY NhT;exact Nj2 (Ndy h0 h1)
theorem NjB{cfg:Cfg}(hc:CfgR cfg){fuel:Nat}{z:Bool}{l:List Et}(hv:∀ e,e∈l→EtOK cd e)(hl:l.length<1000)(hfu:l.length+6≤fuel) :
 ∃ r st',NaK cfg (fuel+5) 29 [.agg (Cd.cs cd),slV z l.length (l.flatMap Et.cs)] st=some (r,st')∧NaY st' r=some (Nno (NbS cd l l.length)):=by
 refine NaB (hc.fn _ _ (by kernel_rfl):cfg.fn 29=some m29) ?_;delta m29 Qa Ql Qt Qn Qk Qm Qi Qo Qw Cd.cs;obtain⟨X,hX⟩:∃ X:PV→St→Prop,X=fun r st'=>NaY st' r=some (Nno (NbS cd l l.length)):=⟨_,rfl⟩
 simp only[show ∀ r st',(NaY st' r=some (Nno (NbS cd l l.length)))=X r st' from fun _ _=>by rw[hX]];have hlv:=NaC z l.length (l.flatMap Et.cs);have hE:=NaM Et.cs_len l;obtain⟨sto0,c0⟩:=st;simp only[Nao]
 iterate 2
  (try rw[Z0]);(try simp(disch:=first|omega|rfl|assumption)only[↓Yaa,Yab,Nae,Naa,rA,rB,rC,rD,reduceIte,unP,rE,Nag,Naf])
 refine NaJ (fun x=>∃ (Tm:Nat) (Cm:Nat) (W:Nat),Tm<x.st.cnt∧(Tm<Cm)∧Cm<x.st.cnt∧(Cm<W)∧W<x.st.cnt∧x.env.get 1=slV z l.length (l.flatMap Et.cs)∧x.env.get 5=.ptr W 0∧(WR gT0 x.st W Tm Cm cd ⟨fun _=>[],fun _=>[]⟩)) ?_ ?_
 ·refine⟨c0+24,c0+32,c0+48,?_,?_,?_,?_,?_,Zab,Zab,(WR.zero ⟨by simp only[Z0L_];omega,by simp only[Z0L_];omega,by simp only[Z0L_];omega⟩ ⟨by omega,by omega,by omega⟩ (by rw[Yaf]) (by simp(disch:=omega)only[Nar,Nas];rw[Yaf]) (by simp(disch:=omega)only[Nar,Nas];rw[Yaf]))⟩<;>first|omega|(simp only[Z0L_,Nax];omega)|(simp only;omega)|assumption|rfl|(simp;omega)|(simp;done)
 rintro⟨env,⟨sto,c⟩⟩ ⟨Tm,Cm,W,bTm,oCm,bCm,oW,bW,g1,g5,hw⟩;try simp only at bTm bCm bW g1 g5 hw
 iterate 3
  (try rw[Z0]);(try simp(disch:=first|omega|rfl|assumption)only[↓Yaa,Yab,Nae,Naa,rA,rB,rC,rD,reduceIte,unP,rE,g1,g5,hlv])
 have hcl:=fun i=>Nnn (cd:=cd) (l:=l) (i:=i);refine Z9 (k:=l.length - 0) (fun m x=>∃ (i:Nat) (ov:PV) (vs:List PV),m=l.length - i∧x.env.get 5=.ptr W 0∧x.env.get 6=ov∧x.env.get 14=slV z l.length (l.flatMap Et.cs)∧x.env.get 15=.i .i64 (l.length:Int)∧x.env.get 16=.i .i64 (i:Int)∧(i≤l.length)∧(WR gT0 x.st W Tm Cm cd (NfO (thL l) (gvL cd l) (tkL cd l) i))∧(Own x.st 1 ov i vs)∧(LV x.st vs (NbS cd l i))∧(i=0→ov=.nsl)) ?_ ?_ Zaa
 ·clear bTm bCm bW g1 g5 hw;rintro m ⟨env,⟨sto,c⟩⟩ ⟨i,ov,vs,rfl,g5,g6,g14,g15,g16,hi,hwr,ho,hvs,hz⟩;try simp only at g5 g6 g14 g15 g16 hwr ho hvs
  try simp only at hwr ho hvs
  by_cases hil:i<l.length
  ·rw[NaD hil]at g14;obtain⟨e,he⟩:∃ e,l[i]=e:=⟨_,rfl⟩;have hld:=fun st=>NdL (st:=st) hil;simp only[he]at hld;have hok:=hv e (he▸List.getElem_mem hil);have hgd:l.getD i etZ=e:=by rw[List.getD_eq_getElem?_getD,List.getElem?_eq_getElem hil,he];rfl
   iterate 6
    (try rw[Z0]);(try simp(disch:=first|omega|rfl|assumption)only[↓Yaa,Yab,Nae,Naa,rA,rB,rC,rD,reduceIte,unP,rE,g5,g6,g14,g15,g16,hld,hE,hc.r2])
   obtain⟨s1,hs1⟩:∃ s1:St,(⟨(St.put (St.put ⟨sto,c+40⟩ (c+24) (some (.cells [.i .i64 ((0:Nat):Int),.i .u8 ((0:Nat):Int),.i .i64 ((0:Nat):Int),.i .i64 ((0:Nat):Int),.i .i64 ((0:Nat):Int)] false))) (c+24) (some (.cells [.i .i64 e.T,.i .u8 (e.O.toNat:Int),.i .i64 e.J,.i .i64 e.A,.i .i64 e.B] false))).sto,c+96⟩:St)=s1:=⟨_,rfl⟩;have u1:∀ j,j<c+24→s1.get j=St.get ⟨sto,c⟩ j:=fun j hj=>by
    rw[←hs1];show St.get (St.put (St.put ⟨sto,c+40⟩ (c+24) _) (c+24) _) j=_;rw[Yae Zaa,Yae Zaa];rfl
   have un:s1.cnt=c+96:=(by rw[←hs1]);rw[hs1];obtain⟨l1,l2,l3⟩:=hwr.lt;simp only at l1 l2 l3;have hw1:WR (fun k=>k<c∨c+96≤k) s1 W Tm Cm cd _:=hwr.keep (by rw[un];show c≤_;omega) (u1 W Zaa) (u1 Tm Zaa) (u1 Cm Zaa) fun j hj _ _=>⟨u1 j (by have:j<c:=hj;omega),.inl hj⟩;refine Nbk (NpG (fuel:=fuel) hc (d:=kdE cd e) (fun k hk=>.inr Zaa) hw1 hok.j0 hok.j1 (NmR hok) hok.t0 hok.t1) ?_;have e1:thL l i=e.T:=(by unfold thL;rw[hgd]);have e2:tkL cd l i=Nbe (kdE cd e).K.toNat e.O.toNat e.J (kdE cd e).N e.A:=(by unfold tkL;rw[hgd];rfl);have e3:gvL cd l i=Na6 (kdE cd e).K.toNat e.O.toNat e.J (kdE cd e).N e.A:=(by unfold gvL;rw[hgd];rfl);have q1:(NhT e.T (Nbe (kdE cd e).K.toNat e.O.toNat e.J (kdE cd e).N e.A) (Na6 (kdE cd e).K.toNat e.O.toNat e.J (kdE cd e).N e.A) (NfO (thL l) (gvL cd l) (tkL cd l) i)).2=NfO (thL l) (gvL cd l) (tkL cd l) (i+1):=by
    show _=(NhT (thL l i) (tkL cd l i) (gvL cd l i) _).2;rw[e1,e2,e3]
   have q2:(NhT e.T (Nbe (kdE cd e).K.toNat e.O.toNat e.J (kdE cd e).N e.A) (Na6 (kdE cd e).K.toNat e.O.toNat e.J (kdE cd e).N e.A) (NfO (thL l) (gvL cd l) (tkL cd l) i)).1=Nhh cd l i:=by
    show _=(NhT (thL l i) (tkL cd l i) (gvL cd l i) _).1;rw[e1,e2,e3]
   have hne:=hcl i (by rw[e1];exact hok.t0) (by rw[e1];exact hok.t1);rw[q1,q2];rintro r ⟨sto2,c2⟩ ⟨hw2,hcv,hrk,hfr,hcc⟩;rw[un]at hfr hcc hrk;simp only at hcc hcv;have f2:∀ j,j<c→j≠Tm→j≠Cm→St.get ⟨sto2,c2⟩ j=St.get ⟨sto,c⟩ j:=fun j a b d=>(hfr j Zaa b d).trans (u1 j Zaa);obtain⟨es,f,gTm,-,-⟩:=hwr.gT;obtain⟨es',f',gCm,-,-⟩:=hwr.gC;have ho2:Own ⟨sto2,c2⟩ 1 ov i vs:=ho.move (by show c≤c2;omega) fun j hj hlt=>f2 j hlt (fun h=>by
    rcases ho with⟨rfl,_⟩|⟨k,rfl,hk,_⟩
    ·simp[keyOf]at hj
    ·simp only[keyOf,List.mem_singleton]at hj;subst hj;rw[h,gTm]at hk;cases hk) (fun h=>by
    rcases ho with⟨rfl,_⟩|⟨k,rfl,hk,_⟩
    ·simp[keyOf]at hj
    ·simp only[keyOf,List.mem_singleton]at hj;subst hj;rw[h,gCm]at hk;cases hk)
   have hv2:LV ⟨sto2,c2⟩ vs (NbS cd l i):=hvs.move (by show c≤c2;omega) fun v a j hcv hk hlt=>f2 j hlt (hcv.neM gTm hk) (hcv.neM gCm hk);rcases hcv with⟨-,h0⟩|⟨-,kr,rfl,hkr,gkr⟩
   ·exact absurd h0 hne
   (try rw[Z0]);(try simp(disch:=first|omega|rfl|assumption)only[↓Yaa,Yab,Nae,Naa,rA,rB,rC,rD,reduceIte,unP,rE,g5,g6,g14,g15,g16,Nay]);have hkr2:c+96≤kr:=hrk kr (by simp[keyOf]);have pk:∀ n' j,j≠c+72→St.get (St.put ⟨sto2,n'⟩ (c+72) (some (.cells [.rsl kr 1 0 (Nhh cd l i).length] false))) j=St.get ⟨sto2,c2⟩ j:=fun n' j hj=>by rw[Yae (Ne.symm hj)];rfl
   have hok3:=ho.lt;refine Ncw (ho2.move (by simp only[Z0L_];omega) fun j hj _=>pk _ j (by have:=hok3 j hj;simp only at this;omega)) (by simp only[Z0L_];omega) (fun h=>by have:=hok3 _ h;simp only at this;omega) rfl Zaa (by unfold Na0;omega) ?_;intro v' st' hown hcnt hkey hj;simp only[Z0L_]at hcnt;have pz:∀ j,j≠c+72→j≠c+80→j∉keyOf ov→st'.get j=St.get ⟨sto2,c2⟩ j:=fun j a b d=>(hj j b d).trans (pk _ j a);have nov:∀ j,(∃ a,St.get ⟨sto2,c2⟩ j=some (.cells (NaI a) false))→j∉keyOf ov:=fun j ⟨a,ha⟩ hm=>by
    rcases ho2 with⟨rfl,_⟩|⟨k,rfl,hk,hkl,_⟩
    ·simp[keyOf]at hm
    ·simp only[keyOf,List.mem_singleton]at hm;subst hm;rw[hk]at ha;simp only[Sj,PObj.cells.injEq,and_true]at ha;by_cases hi0:i=0
     ·have:=hz hi0;cases this
     obtain⟨v0,hv0⟩:∃ v0,vs[0]? = some v0:=⟨vs[0]'(by rw[hkl];omega),by simp⟩;obtain⟨a0,ha0⟩:∃ a0,(NbS cd l i)[0]? = some a0:=⟨(NbS cd l i)[0]'(by simp[NbS];omega),by simp⟩;obtain⟨c1,c2⟩:=hv2.2 0 v0 a0 hv0 ha0;rcases c1 with⟨_,c1⟩|⟨_,q2,rfl,_,_⟩
     ·exact c2 c1
     ·rw[ha]at hv0;simp[NaI]at hv0
   have nTm:Tm∉keyOf ov:=fun h=>by
    rcases ho with⟨rfl,_⟩|⟨k,rfl,hk,_⟩
    ·simp[keyOf]at h
    ·simp only[keyOf,List.mem_singleton]at h;subst h;rw[gTm]at hk;cases hk
   have nCm:Cm∉keyOf ov:=fun h=>by
    rcases ho with⟨rfl,_⟩|⟨k,rfl,hk,_⟩
    ·simp[keyOf]at h
    ·simp only[keyOf,List.mem_singleton]at h;subst h;rw[gCm]at hk;cases hk
   have nW:W∉keyOf ov:=fun h=>by
    rcases ho with⟨rfl,_⟩|⟨k,rfl,hk,hkl,_⟩
    ·simp[keyOf]at h
    ·simp only[keyOf,List.mem_singleton]at h;subst h;rw[hwr.gW]at hk;simp only[Sj,PObj.cells.injEq,and_true]at hk;subst hk;have hm:PV.mp Tm∈[slV cd.zo cd.O.length (cd.O.flatMap Dc.cs),slV cd.zt cd.T.length (cd.T.flatMap Tx.cs),PV.mp Tm,PV.mp Cm]:=(by simp);obtain⟨q,hq,hqe⟩:=List.getElem_of_mem hm;obtain⟨a0,ha0⟩:∃ a0,(NbS cd l i)[q]? = some a0:=⟨(NbS cd l i)[q]'(by rw[←hv2.1];exact hq),by simp⟩;obtain⟨c1,c2⟩:=hv2.2 q (PV.mp Tm) a0 (by rw[List.getElem?_eq_getElem hq,hqe]) ha0;rcases c1 with⟨c1,_⟩|⟨_,q2,c1,_,_⟩<;>cases c1
   refine⟨l.length - (i+1),by omega,i+1,v',vs++[.rsl kr 1 0 (Nhh cd l i).length],rfl,rfl,(NaD hil).symm,rfl,by omega,?_,?_,?_,by omega⟩
   ·refine hw2.keep (by show c2≤st'.cnt+16;omega) (pz W Zaa Zaa nW) (pz Tm Zaa Zaa nTm) (pz Cm Zaa Zaa nCm) fun j hj hG ha=>⟨pz j ?_ ?_ (nov j ha),trivial⟩
    ·rcases hG with h|h<;>omega
    ·rcases hG with h|h<;>omega
   ·exact hown.move (by show st'.cnt≤st'.cnt+16;omega) fun _ _ _=>rfl
   ·have hps:NbS cd l (i+1)=NbS cd l i++[Nhh cd l i]:=(by unfold NbS;rw[List.range_succ,List.map_append];rfl);rw[hps];refine LV.push (hvs.move (by show c≤st'.cnt+16;omega) fun v a j hcv hk hlt=>?_) ?_ hne
    ·have hlt':j<c:=hlt;have hf2:=f2 j hlt' (hcv.neM gTm hk) (hcv.neM gCm hk);have hcont:∃ a,St.get ⟨sto2,c2⟩ j=some (.cells (NaI a) false):=by
      rw[hf2];rcases hcv with⟨rfl,_⟩|⟨_,q,rfl,_,hq⟩
      ·simp[keyOf]at hk
      ·simp only[keyOf,List.mem_singleton]at hk;subst hk;exact⟨_,hq⟩
     exact(pz j Zaa Zaa (nov j hcont)).trans hf2
    ·exact .inr ⟨hne,kr,rfl,by show kr<st'.cnt+16;omega,(pz kr Zaa Zaa (nov kr ⟨_,gkr⟩)).trans gkr⟩
  ·skip
   iterate 4
    (try rw[Z0]);(try simp(disch:=first|omega|rfl|assumption)only[↓Yaa,Yab,Nae,Naa,rA,rB,rC,rD,reduceIte,unP,rE,g5,g6,g14,g15,g16])
   have hil2:i=l.length:=(by omega);subst hil2;subst hX;refine⟨nofun,_,rfl,?_⟩;simp only[NaF,Yad,if_true];have hlen:(NbS cd l l.length).length=l.length:=(by simp[NbS]);refine NiQ (vs:=vs) (by rw[hlen];exact ho.move (by show c≤c+24;omega) fun _ _ _=>rfl) (hvs.move (by show c≤c+24;omega) fun _ _ _ _ _ _=>rfl) fun h0=>hz ?_;rw[←hlen,h0];rfl
 ·skip
  refine⟨0,.nsl,[],rfl,?_,?_,(by simp[Yad,g1]),Zaf,Zaf,?_,(hw.keep (by show c≤c+32;omega) rfl rfl rfl fun _ _ _ _=>⟨rfl,trivial⟩),(Own.nil _ _),(LV.nil _),(fun _=>rfl)⟩<;>first|with_reducible rfl|with_reducible assumption|(simp[Yad,g1,g5]<;>omega)|assumption|rfl|omega|(simp only[Z0L_,Nax];omega)|(simp;omega)|(simp;done)
end
end Go.Pe
