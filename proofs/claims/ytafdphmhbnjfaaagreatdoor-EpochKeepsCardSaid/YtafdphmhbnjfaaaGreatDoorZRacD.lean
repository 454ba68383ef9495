/-
 Races: an event is seen, walked. No condition.
-/
import Derived.Test.YtafdphmhbnjfaaaGreatDoorZRacC
set_option linter.unusedVariables false
set_option linter.unusedSimpArgs false
set_option maxHeartbeats 8000000
open Nat renaming reduceAdd → rA,reduceMul → rB,reduceLT → rC,reduceEqDiff → rD,reduceLeDiff → rE
namespace Go.Pe
open Go Go.Am Go.RowKit
section
variable {xs a:List Int}{st:St}{k:Nat}{t:Int}
structure WR(G:Nat→Prop)(st:St)(W Tm Cm:Nat)(cd:Cd)(wt:Wt):Prop where
 lt:W<st.cnt∧Tm<st.cnt∧Cm<st.cnt
 ne:W≠Tm∧W≠Cm∧Tm≠Cm
 gW:st.get W=some (.cells [slV cd.zo cd.O.length (cd.O.flatMap Dc.cs),slV cd.zt cd.T.length (cd.T.flatMap Tx.cs),.mp Tm,.mp Cm] false)
 gT:∃ es f,st.get Tm=some (.map es)∧MK NnT 0 es f∧∀ u,CV st st.cnt ((f u).getD .nsl) (wt.T u)∧∀ k,k∈keyOf ((f u).getD .nsl)→G k
 gC:∃ es f,st.get Cm=some (.map es)∧MK chP 3 es f∧∀ q,CV st st.cnt ((f q).getD .nsl) (wt.C q)∧∀ k,k∈keyOf ((f q).getD .nsl)→G k
 sT:∀ u,NaW (wt.T u)=true
 sC:∀ q,NaW (wt.C q)=true
theorem CV.neM{b T:Nat}{v:PV}{es:List (PV×PV)}(h:CV st b v a)(hT:st.get T=some (.map es))(hk:k∈keyOf v):k≠T:=by
 rintro rfl;rcases h with⟨rfl,_⟩|⟨_,j,rfl,_,hj⟩
 ·simp[keyOf]at hk
 ·simp only[keyOf,List.mem_singleton]at hk;subst hk;rw[hT]at hj;simp at hj
theorem NlV{l:List PV}(h:l=NaI a)(hm:PV.mp k∈l):False:=by
 rw[h]at hm;simp[NaI]at hm
theorem CV.bound{b:Nat}{v:PV}(h:CV st b v a)(hk:k∈keyOf v):k<b:=by
 rcases h with⟨rfl,_⟩|⟨_,q,rfl,hq,_⟩
 ·simp[keyOf]at hk
 ·simp only[keyOf,List.mem_singleton]at hk;omega
theorem NiE{cfg:Cfg}(hc:CfgR cfg){callE:CallE}{p:PV}(hp:inNs p=some xs)(h1:NaW xs=true)(hn:Nb8 xs t≠[]) :
 Nai cfg callE 56 [p,.i .i64 t]=some (.osl 1 (Nb8 xs t).length (NaI (Nb8 xs t))):=by
 rw[Nbp hc.tk];unfold gTick;simp only[hp];rw[if_pos ⟨h1,hn⟩]
theorem Ndy(h0:0≤t)(h1:t≤63):Nb8 xs t≠[]:=by
 intro e;have:=NcF xs t.toNat;rw[Nc9 h0 h1]at e;rw[e]at this;simp at this;omega
theorem Nc8(h:NaW xs=true)(h0:0≤t)(h1:t≤63):NaW (Nb8 xs t)=true:=by
 have h2:=h;unfold NaW at h2;simp only[Bool.and_eq_true,List.all_eq_true,decide_eq_true_eq]at h2;have hl:xs.length<1000:=by have:=h2.1;simp[Nat.blt]at this;omega
 have hg:∀ i,0≤gi xs i∧gi xs i≤9223372036854775807:=fun i=>by
  by_cases hi:i<xs.length
  ·rw[Nea hi];exact h2.2 _ (List.getElem_mem hi)
  ·rw[NdF Zaa];omega
 unfold NaW;simp only[Bool.and_eq_true,List.all_eq_true,decide_eq_true_eq];refine⟨by rw[Nc9 h0 h1,NcF];simp[Nat.blt];omega,fun x hx=>?_⟩;obtain⟨i,hi,rfl⟩:=List.getElem_of_mem hx;rw[←Nea hi,Nc9 h0 h1,NgK];have a1:=hg i;have a2:=hg t.toNat;split
 ·omega
 ·omega
theorem NhA(k o:Nat)(J n a:Int):(Na6 k o J n a).length≤2:=by
 unfold Na6
 repeat' split
 all_goals simp
theorem NgO{ys:List Int}(h:ys≠[]):NbD xs ys≠[]:=by
 intro e;have:=NbC xs ys;rw[e]at this;simp only[List.length_nil]at this;exact h (List.eq_nil_of_length_eq_zero Zaa)
theorem Nj2{C:Ch→List Int}:∀ {l:List Ch}{n:List Int},n≠[]→Na7 C l n≠[]
 |[],n,h=>h
 |k::r,n,h=>by rw[Na7];exact Nj2 (Neh h)
theorem Nik{C:Ch→List Int}:∀ {l:List Ch}{n:List Int},NaW n=true→(∀ q,NaW (C q)=true)→NaW (Na7 C l n)=true
 |[],n,h,_=>h
 |k::r,n,h,g=>by rw[Na7];exact Nik (Nc7 h (g k)) g
theorem NpG{cfg:Cfg}(hc:CfgR cfg){fuel W Tm Cm:Nat}{cd:Cd}{wt:Wt}{e:Et}{d:Dc}{G:Nat→Prop}(hG:∀ k,st.cnt≤k→G k)(hw:WR G st W Tm Cm cd wt)(h0:0≤e.J)(hJ:e.J.toNat<cd.O.length)(hd:cd.O[e.J.toNat]=d)(t0:0≤e.T)(t1:e.T≤63) :
 ∃ r st',NaK cfg (fuel+4) 48 [.ptr W 0,.agg (Et.cs e)] st=some (r,st')∧(WR G st' W Tm Cm cd (NhT e.T (Nbe d.K.toNat e.O.toNat e.J d.N e.A) (Na6 d.K.toNat e.O.toNat e.J d.N e.A) wt).2∧CV st' st'.cnt r (NhT e.T (Nbe d.K.toNat e.O.toNat e.J d.N e.A) (Na6 d.K.toNat e.O.toNat e.J d.N e.A) wt).1∧(∀ k,k∈keyOf r→st.cnt≤k)∧(∀ j,j<st.cnt→j≠Tm→j≠Cm→st'.get j=st.get j)∧st.cnt≤st'.cnt):=by
 refine NaB (hc.fn _ _ (by kernel_rfl):cfg.fn 48=some m48) ?_;delta m48 Qr Qf Qg Qc Ql Qt Qn Qk Qm Qi Qo Qw;obtain⟨tk,htk⟩:∃ tk,Nbe d.K.toNat e.O.toNat e.J d.N e.A=tk:=⟨_,rfl⟩;obtain⟨gv,hgv⟩:∃ gv,Na6 d.K.toNat e.O.toNat e.J d.N e.A=gv:=⟨_,rfl⟩;rw[htk,hgv];obtain⟨X,hX⟩:∃ X:PV→St→Prop,X=fun r st'=>(WR G st' W Tm Cm cd (NhT e.T tk gv wt).2∧CV st' st'.cnt r (NhT e.T tk gv wt).1∧(∀ k,k∈keyOf r→st.cnt≤k)∧(∀ j,j<st.cnt→j≠Tm→j≠Cm→st'.get j=st.get j)∧st.cnt≤st'.cnt):=⟨_,rfl⟩
 simp only[show ∀ r st',(WR G st' W Tm Cm cd (NhT e.T tk gv wt).2∧CV st' st'.cnt r (NhT e.T tk gv wt).1∧(∀ k,k∈keyOf r→st.cnt≤k)∧(∀ j,j<st.cnt→j≠Tm→j≠Cm→st'.get j=st.get j)∧st.cnt≤st'.cnt)=X r st' from fun _ _=>by rw[hX]];obtain⟨sto0,c0⟩:=st;obtain⟨l1,l2,l3⟩:=hw.lt;obtain⟨d1,d2,d3⟩:=hw.ne;obtain⟨es,f,gT,mT,vT⟩:=hw.gT;simp only at l1 l2 l3 vT hG;have kW:∀ n',St.get ⟨sto0,n'⟩ W=_:=fun _=>hw.gW;have kT:∀ n',St.get ⟨sto0,n'⟩ Tm=_:=fun _=>gT;have hmt:Na3 0 (.i .i64 e.T) es=some (f e.T):=mT.get e.T;unfold Et.cs;simp only[Nao]
 iterate 2
  (try rw[Z0]);(try simp(disch:=first|omega|rfl|assumption)only[↓Yaa,Yab,Nae,Naa,rA,rB,rC,rD,reduceIte,unP,rE,kW,kT,hmt,Option.map_some])
 have hput:∀ (o o2:Option PObj) (n' n2 j:Nat),j<c0→St.get ⟨(St.put (St.put ⟨sto0,n2⟩ c0 o) (c0+8) o2).sto,n'⟩ j=St.get ⟨sto0,c0⟩ j:=fun o o2 n' n2 j hj=>by
  show St.get (St.put (St.put ⟨sto0,n2⟩ c0 o) (c0+8) o2) j=_;rw[Yae Zaa,Yae Zaa];rfl
 obtain⟨s1,hs1⟩:∃ s1,(⟨(St.put (St.put ⟨sto0,c0+24⟩ c0 (some (.cells [.ptr W 0] false))) (c0+8) (some (.cells [.i .i64 e.T,.i .u8 (e.O.toNat:Int),.i .i64 e.J,.i .i64 e.A,.i .i64 e.B] false))).sto,c0+120⟩:St)=s1:=⟨_,rfl⟩;have f1:∀ j,j<c0→s1.get j=St.get ⟨sto0,c0⟩ j:=fun j hj=>by rw[←hs1];exact hput _ _ _ _ j hj
 have n1:s1.cnt=c0+120:=by rw[←hs1]
 have b1:s1.get c0=some (.cells [.ptr W 0] false):=by
  rw[←hs1];show St.get (St.put (St.put ⟨sto0,c0+24⟩ c0 _) (c0+8) _) c0=_;rw[Yae Zaa,Yaf]
 have b2:s1.get (c0+8)=some (.cells [.i .i64 e.T,.i .u8 (e.O.toNat:Int),.i .i64 e.J,.i .i64 e.A,.i .i64 e.B] false):=by
  rw[←hs1];show St.get (St.put (St.put ⟨sto0,c0+24⟩ c0 _) (c0+8) _) (c0+8)=_;rw[Yaf]
 rw[hs1];clear hs1 hput;obtain⟨pv,dv,iv⟩:=((vT e.T).1.move (st':=s1) (Nat.le_refl _) fun j hj _=>f1 j hj).deep;refine Ner (Na4 dv rfl) (NiE hc iv (hw.sT _) (Ndy t0 t1)) (NbB _) (by rw[NaH,Nat.mul_one]) Zaa ?_;obtain⟨n0,hn0⟩:∃ n0,Nb8 (wt.T e.T) e.T=n0:=⟨_,rfl⟩;have nn0:n0≠[]:=hn0▸Ndy t0 t1;have sn0:NaW n0=true:=hn0▸Nc8 (hw.sT _) t0 t1;rw[hn0];intro st1 hown hget hcnt hj;rw[n1]at hcnt;have f2:∀ j,j<c0→st1.get j=St.get ⟨sto0,c0⟩ j:=fun j h=>(hj j Zaa).trans (f1 j h);have b3:=(hj c0 Zaa).trans b1;have b4:=(hj (c0+8) Zaa).trans b2;simp(disch:=first|omega|rfl|assumption)only[↓Yaa,Yac,Nae,Naa,rA,rB,rC,rD,reduceIte,unP,Xm,rE];refine NaJ (fun x=>∃ (N:Nat),N<x.st.cnt∧x.env.get 2=.ptr c0 0∧x.env.get 3=.ptr (c0+8) 0∧x.env.get 5=.ptr N 0∧x.st.get N=some (.cells [.rsl (c0+96) 1 0 n0.length] false)∧(N=c0+104)∧(∀ j,j<c0→x.st.get j=St.get ⟨sto0,c0⟩ j)∧(x.st.get c0=some (.cells [.ptr W 0] false))∧(x.st.get (c0+8)=some (.cells [.i .i64 e.T,.i .u8 (e.O.toNat:Int),.i .i64 e.J,.i .i64 e.A,.i .i64 e.B] false))∧(x.st.get (c0+96)=some (.cells (NaI n0) false))) ?_ ?_
 ·refine⟨c0+104,?_,Zab,Zab,Zab,?_,?_,(fun j hj=>by simp(disch:=omega)only[Nar,Nas];exact f2 j hj),(by simp(disch:=omega)only[Nar,Nas];exact b3),(by simp(disch:=omega)only[Nar,Nas];exact b4),(by simp(disch:=omega)only[Nar,Nas];exact hget)⟩<;>first|with_reducible rfl|with_reducible assumption|exact kN _|omega|(simp only[Z0L_,Nax];omega)|(simp only;omega)|(simp(disch:=omega)only[Nar,Nas,Yaf];first|done|with_reducible rfl|with_reducible assumption)|assumption|rfl|(simp;omega)|(simp;done)
 rintro⟨env,⟨sto,c⟩⟩ ⟨N,bN,g2,g3,g5,kN,lN,kof,kB,kE,kV⟩;try simp only at bN g2 g3 g5 kB kE kV
 replace kN:∀ n',St.get ⟨sto,n'⟩ N=some (.cells [.rsl (c0+96) 1 0 n0.length] false):=fun _=>kN;(try rw[Z0]);(try simp(disch:=first|omega|rfl|assumption)only[↓Yaa,Yab,Nae,Naa,rA,rB,rC,rD,reduceIte,unP,rE,g2,g3,g5,kN]);refine NaJ (fun x=>∃ (O:Nat),N<x.st.cnt∧x.env.get 2=.ptr c0 0∧x.env.get 3=.ptr (c0+8) 0∧x.env.get 5=.ptr N 0∧x.st.get N=some (.cells [.rsl (c0+96) 1 0 n0.length] false)∧(∀ j,j<c0→x.st.get j=St.get ⟨sto0,c0⟩ j)∧(x.st.get c0=some (.cells [.ptr W 0] false))∧(x.st.get (c0+8)=some (.cells [.i .i64 e.T,.i .u8 (e.O.toNat:Int),.i .i64 e.J,.i .i64 e.A,.i .i64 e.B] false))∧(x.st.get (c0+96)=some (.cells (NaI n0) false))∧(N<O)∧O<x.st.cnt∧x.env.get 6=.ptr O 0∧x.st.get O=some (.cells [.nsl] false)) ?_ ?_
 ·refine⟨c,?_,?_,?_,?_,?_,(fun j hj=>by simp(disch:=omega)only[Nar,Nas];exact kof j hj),(by simp(disch:=omega)only[Nar,Nas];exact kB),(by simp(disch:=omega)only[Nar,Nas];exact kE),(by simp(disch:=omega)only[Nar,Nas];exact kV),?_,?_,?_,?_⟩<;>first|with_reducible rfl|with_reducible assumption|exact kN _|exact kO _|omega|(simp only[Z0L_,Nax];omega)|(simp only;omega)|(simp[Yad,g2,g3,g5]<;>omega)|(simp(disch:=omega)only[Nar,Nas,Yaf,kN];first|done|with_reducible rfl|with_reducible assumption)|assumption|rfl|(simp;omega)|(simp;done)
 clear bN g2 g3 g5 kN kof kB kE kV;rintro⟨env,⟨sto,c⟩⟩ ⟨O,bN,g2,g3,g5,kN,kof,kB,kE,kV,oO,bO,g6,kO⟩;try simp only at bN g2 g3 g5 kB kE kV bO g6
 replace kN:∀ n',St.get ⟨sto,n'⟩ N=some (.cells [.rsl (c0+96) 1 0 n0.length] false):=fun _=>kN;replace kO:∀ n',St.get ⟨sto,n'⟩ O=some (.cells [.nsl] false):=fun _=>kO;replace kB:∀ n',St.get ⟨sto,n'⟩ c0=_:=fun _=>kB;replace kE:∀ n',St.get ⟨sto,n'⟩ (c0+8)=_:=fun _=>kE;have kW2:∀ n',St.get ⟨sto,n'⟩ W=some (.cells [slV cd.zo cd.O.length (cd.O.flatMap Dc.cs),slV cd.zt cd.T.length (cd.T.flatMap Tx.cs),.mp Tm,.mp Cm] false):=fun _=>(kof W l1).trans hw.gW;obtain⟨es2,f2c,gC,mC,vC⟩:=hw.gC;simp only at vC;have kC2:∀ n',St.get ⟨sto,n'⟩ Cm=some (.map es2):=fun _=>(kof Cm l3).trans gC;have kT2:∀ n',St.get ⟨sto,n'⟩ Tm=some (.map es):=fun _=>(kof Tm l2).trans gT;have hbW:∀ c',c≤c'→WBs ⟨sto,c'⟩ N O c0 W Cm wt.C:=fun c' hc'=>by
  refine⟨⟨by simp only;omega,by simp only;omega,by simp only;omega,by simp only;omega,by simp only;omega⟩,⟨by omega,by omega,by omega,by omega,by omega,by omega,by omega⟩,kB _,⟨_,_,_,kW2 _⟩,⟨es2,f2c,kC2 _,mC,fun q=>⟨(vC q).1.move Zad fun j hj _=>kof j hj,fun k hk=>?_⟩⟩,hw.sC⟩;have:=(vC q).1.bound hk;exact⟨by omega,by omega⟩
 have hvN:∀ c',c≤c'→CV ⟨sto,c'⟩ c' (.rsl (c0+96) 1 0 n0.length) n0:=fun c' hc'=>.inr ⟨nn0,c0+96,rfl,by omega,kV⟩;(try rw[Z0]);(try simp(disch:=first|omega|rfl|assumption)only[↓Yaa,Yab,Nae,Naa,rA,rB,rC,rD,reduceIte,unP,rE,g2,g3,g5,kN,g6,kO,kW2,kB,kE,hc.r1,Nag,Naf]);refine Nbk (NoF (cd:=cd) hc (hbW _ Zaa) (kN _) (hvN _ Zaa) (fun q hq=>by simp[keyOf]at hq;omega) (kO _) nn0 sn0 h0 hJ hd) ?_;rw[htk,hgv];obtain⟨nw,hnw⟩:∃ nw,Na7 wt.C tk n0=nw:=⟨_,rfl⟩;have nnw:nw≠[]:=hnw▸Nj2 nn0;have snw:NaW nw=true:=hnw▸Nik sn0 hw.sC;rw[hnw];clear kN kO;rintro rr ⟨sto',c2⟩ hws;obtain⟨v,tv,qN,hv,qO,hown,ht1,ht2⟩:=hws.vt;have hcn:=hws.cnt;simp only at hcn ht1 hv;have fA:∀ j,j<c→j≠N→j≠O→St.get ⟨sto',c2⟩ j=St.get ⟨sto,c⟩ j:=fun j a b d=>hws.fr j Zad b d;have fB:∀ j,j<c0→St.get ⟨sto',c2⟩ j=St.get ⟨sto0,c0⟩ j:=fun j hj=>(fA j Zaa Zaa Zaa).trans (kof j hj);rcases hv with⟨-,hv⟩|⟨-,kv,rfl,lkv,qV⟩
 ·exact absurd hv nnw
 have nkv:kv≠N∧kv≠O∧N≤kv+8:=(ht2 kv (by simp[keyOf])).2;have oN:∀ n',St.get ⟨sto',n'⟩ N=_:=fun _=>qN;have oO:∀ n',St.get ⟨sto',n'⟩ O=_:=fun _=>qO;have oB:∀ n',St.get ⟨sto',n'⟩ c0=_:=fun _=>(fA c0 Zaa Zaa Zaa).trans (kB c);have oE:∀ n',St.get ⟨sto',n'⟩ (c0+8)=_:=fun _=>(fA (c0+8) Zaa Zaa Zaa).trans (kE c);have oW:∀ n',St.get ⟨sto',n'⟩ W=_:=fun _=>(fB W l1).trans hw.gW;have oT:∀ n',St.get ⟨sto',n'⟩ Tm=_:=fun _=>(fB Tm l2).trans gT;obtain⟨es',hp,mT'⟩:=MK.put NcC e.T (.rsl kv 1 0 nw.length) mT;have hp':Nbm 0 (.i .i64 e.T) (.rsl kv 1 0 nw.length) es=some es':=hp;have lo:=hown.len;(try rw[Z0]);(try simp(disch:=first|omega|rfl|assumption)only[↓Yaa,Yab,Nae,Naa,rA,rB,rC,rD,reduceIte,unP,rE,g2,g3,g5,g6,oN,oO,oB,oE,oW,oT,hp',Option.map_some,lo]);have fT:∀ n' j,j≠Tm→St.get (St.put ⟨sto',n'⟩ Tm (some (.map es'))) j=St.get ⟨sto',c2⟩ j:=fun n' j hj=>by rw[Yae (Ne.symm hj)];rfl
 have hkvT:kv≠Tm:=by
  rintro rfl;have:=oT c2;rw[qV]at this;cases this
 have hvT:∀ n',c2≤n'→∀ u,CV (St.put ⟨sto',n'⟩ Tm (some (.map es'))) n' ((if u=e.T then some (.rsl kv 1 0 nw.length)else f u).getD .nsl) (NhP wt.T e.T nw u):=fun n' hn' u=>by
  unfold NhP;split
  ·exact .inr ⟨nnw,kv,rfl,by omega,by rw[fT _ _ hkvT];exact qV⟩
  ·exact(vT u).1.move Zaa fun j hj hk=>(fT _ _ ((vT u).1.neM gT hk)).trans (fB j hj)
 refine NaJ (fun x=>x.env.get 2=.ptr c0 0∧x.env.get 5=.ptr N 0∧x.env.get 6=.ptr O 0∧(x.st.get N=some (.cells [.rsl kv 1 0 nw.length] false))∧(x.st.get O=some (.cells [tv] false))∧(x.st.get c0=some (.cells [.ptr W 0] false))∧(x.st.get W=some (.cells [slV cd.zo cd.O.length (cd.O.flatMap Dc.cs),slV cd.zt cd.T.length (cd.T.flatMap Tx.cs),.mp Tm,.mp Cm] false))∧(x.st.get Tm=some (.map es'))∧(x.st.get Cm=some (.map es2))∧(x.st.get kv=some (.cells (NaI nw) false))∧(Own x.st 2 tv gv.length (Nqv gv))∧(∀ j,j<c0→j≠Tm→j≠Cm→x.st.get j=St.get ⟨sto0,c0⟩ j)∧(c2≤x.st.cnt)∧(∀ u,CV x.st x.st.cnt ((if u=e.T then some (.rsl kv 1 0 nw.length)else f u).getD .nsl) (NhP wt.T e.T nw u))∧(∀ q,CV x.st x.st.cnt ((f2c q).getD .nsl) (wt.C q))) ?_ ?_
 ·refine⟨?_,?_,?_,(by rw[fT _ _ (by omega)];exact qN),(by rw[fT _ _ (by omega)];exact qO),(by rw[fT _ _ (by omega)];exact oB c2),(by rw[fT _ _ d1];exact oW c2),(by rw[Yaf]),(by rw[fT _ _ (Ne.symm d3)];exact(fB Cm l3).trans gC),(by rw[fT _ _ hkvT];exact qV),(hown.move (by simp only[Z0L_];omega) fun j hj _=>fT _ _ (by have:=ht1 j hj;omega)),(fun j a b _=>(fT _ _ b).trans (fB j a)),(by simp only[Z0L_];omega),(hvT _ Zaa),(fun q=>(vC q).1.move (by simp only[Z0L_];omega) fun j hj hk=>(fT _ _ ((vC q).1.neM gT hk)).trans (fB j hj))⟩<;>first|with_reducible rfl|with_reducible assumption|(simp[Yad,g2,g3,g5,g6]<;>omega)
 clear g2 g3 g5 g6;rintro⟨env,⟨sto,c⟩⟩ ⟨g2,g5,g6,pN,pO,pB,pW,pT,pC,pV,pR,pf,pc,vT',vC'⟩;try simp only at g2 g5 g6 pN pO pB pW pT pC pV pR pf pc
 try simp only at vT'
 try simp only at vC'
 obtain⟨S0,hS0⟩:∃ S0,(⟨sto,c⟩:St)=S0:=⟨_,rfl⟩;have cS:S0.cnt=c:=by rw[←hS0]
 have pO':∀ n',St.get ⟨sto,n'⟩ O=_:=fun _=>pO
 iterate 2
  (try rw[Z0]);(try simp(disch:=first|omega|rfl|assumption)only[↓Yaa,Yab,Nae,Naa,rA,rB,rC,rD,reduceIte,unP,rE,g2,g5,g6,pO',lo])
 have hgl:gv.length≤2:=hgv▸NhA _ _ _ _ _;obtain⟨R,hR⟩:∃ R,Ncd gv nw wt.C=R:=⟨_,rfl⟩;refine Z9 (k:=gv.length - 0) (fun m x=>∃ (i:Nat) (C':Ch→List Int),m=gv.length - i∧x.env.get 2=.ptr c0 0∧x.env.get 5=.ptr N 0∧x.env.get 34=tv∧x.env.get 35=.i .i64 (gv.length:Int)∧x.env.get 36=.i .i64 (i:Int)∧(i≤gv.length)∧(Ncd (gv.drop i) nw C'=R)∧(S0.cnt≤x.st.cnt)∧(∀ j,j<S0.cnt→j≠Cm→x.st.get j=S0.get j)∧(∃ es f,x.st.get Cm=some (.map es)∧MK chP 3 es f∧∀ q,CV x.st x.st.cnt ((f q).getD .nsl) (C' q)∧∀ k,k∈keyOf ((f q).getD .nsl)→G k)∧(∀ q,NaW (C' q)=true)) ?_ ?_ Zaa
 ·clear g2 g5 g6;rintro m ⟨env,⟨sto,c⟩⟩ ⟨i,C',rfl,g2,g5,g34,g35,g36,hi,hob,lc,fr,gC',sC'⟩;try simp only at g2 g5 g34 g35 g36 lc fr
  try simp only at gC'
  have fz:∀ j,j<S0.cnt→j≠Cm→∀ n',St.get ⟨sto,n'⟩ j=S0.get j:=fun j a b _=>fr j a b;have xB:=fun n'=>(fz c0 Zaa Zaa n').trans (hS0▸pB:S0.get c0=_);have xW:=fun n'=>(fz W Zaa d2 n').trans (hS0▸pW:S0.get W=_);have xN:=fun n'=>(fz N Zaa Zaa n').trans (hS0▸pN:S0.get N=_);have xV:=fun n'=>(fz kv Zaa (fun h=>by subst h;rw[pC]at pV;cases pV) n').trans (hS0▸pV:S0.get kv=_);obtain⟨es3,f3,hC3,mC3,vC3⟩:=gC';have xC:∀ n',St.get ⟨sto,n'⟩ Cm=some (.map es3):=fun _=>hC3;by_cases hil:i<gv.length
  ·obtain⟨ch,hch⟩:∃ ch,gv[i]=ch:=⟨_,rfl⟩;rcases pR with⟨-,h0',-⟩|⟨kt,rfl,qR1,qR2,qR3⟩
   ·omega
   have xR:=fun n'=>(fz kt (by rw[cS];exact qR3) (fun h=>by subst h;rw[pC]at qR1;cases qR1) n').trans (hS0▸qR1:S0.get kt=_);have hmc:Na3 3 (.agg [.i .i64 ch.1,.i .i64 ch.2]) es3=some (f3 ch):=mC3.get ch;have htd:List.take 2 (List.drop (i * 2) (Nqv gv))=[.i .i64 ch.1,.i .i64 ch.2]:=by
    have:=Nhy (f:=fun q:Ch=>[PV.i .i64 q.1,.i .i64 q.2]) (w:=2) (fun _=>rfl) hil;rw[hch]at this;exact this
   have hcl:=Nli gv;rw[List.drop_eq_getElem_cons hil,hch,Ncd]at hob
   iterate 4
    (try rw[Z0]);(try simp(disch:=first|omega|rfl|assumption)only[↓Yaa,Yab,Nae,Naa,rA,rB,rC,rD,reduceIte,unP,rE,g2,g5,g34,g35,g36,xB,xW,xN,xV,xC,xR,hmc,htd,hcl,Option.map_some])
   obtain⟨s2,hs2⟩:∃ s2,(⟨(St.put (St.put ⟨sto,c+40⟩ (c+24) (some (.cells [.i .i64 ((0:Nat):Int),.i .i64 ((0:Nat):Int)] false))) (c+24) (some (.cells [.i .i64 ch.1,.i .i64 ch.2] false))).sto,c+152⟩:St)=s2:=⟨_,rfl⟩;have u1:∀ j,j<c+24→s2.get j=St.get ⟨sto,c⟩ j:=fun j hj=>by
    rw[←hs2];show St.get (St.put (St.put ⟨sto,c+40⟩ (c+24) _) (c+24) _) j=_;rw[Yae Zaa,Yae Zaa];rfl
   have un:s2.cnt=c+152:=(by rw[←hs2]);have ub:s2.get (c+24)=some (.cells [.i .i64 ch.1,.i .i64 ch.2] false):=by
    rw[←hs2];show St.get (St.put (St.put ⟨sto,c+40⟩ (c+24) _) (c+24) _) (c+24)=_;rw[Yaf]
   rw[hs2];try simp only at lc
   obtain⟨pa,da,ia⟩:=((vC3 ch).1.move (st':=s2) (b':=s2.cnt) Zaa fun j hj _=>u1 j Zaa).deep;obtain⟨pb,db,ib⟩:=(CV.new (st:=s2) nnw Zaa ((u1 kv Zaa).trans (xV c))).deep;refine Ner (Na4 da db) (Nij hc ia ib (sC' ch) snw (NgO nnw)) (NbB _) (by rw[NaH,Nat.mul_one]) Zaa ?_;obtain⟨nj,hnj⟩:∃ nj,NbD (C' ch) nw=nj:=⟨_,rfl⟩;have nnj:nj≠[]:=hnj▸NgO nnw;have snj:NaW nj=true:=hnj▸Nc7 (sC' ch) snw;rw[hnj]at hob ⊢;rintro⟨sto3,c3⟩ - hget3 hcn3 hj3;simp only at hcn3;rw[un]at hcn3;have u3:∀ n' j,j<c+24→St.get ⟨sto3,n'⟩ j=St.get ⟨sto,c⟩ j:=fun n' j hj=>(hj3 j Zaa).trans (u1 j hj);have yC:∀ n',St.get ⟨sto3,n'⟩ Cm=some (.map es3):=fun n'=>(u3 n' Cm Zaa).trans (xC c);obtain⟨es4,hp4,m4⟩:=MK.put NmS ch (.rsl (c+136) 1 0 nj.length) mC3;have hp5:Nbm 3 (.agg [.i .i64 ch.1,.i .i64 ch.2]) (.rsl (c+136) 1 0 nj.length) es3=some es4:=hp4
   iterate 4
    (try rw[Z0]);(try simp(disch:=first|omega|rfl|assumption)only[↓Yaa,Yab,Nae,Naa,rA,rB,rC,rD,reduceIte,unP,rE,g2,g5,g34,g35,g36,yC,hp5,Option.map_some])
   have u4:∀ n' j,j<c+24→j≠Cm→St.get (St.put ⟨sto3,n'⟩ Cm (some (.map es4))) j=St.get ⟨sto,c⟩ j:=fun n' j hj hn=>by rw[Yae (Ne.symm hn)];exact u3 n' j hj
   have g4:∀ n':Nat,c+152≤n'→∃ es f,St.get (St.put ⟨sto3,n'⟩ Cm (some (.map es4))) Cm=some (.map es)∧MK chP 3 es f∧∀ q,CV (St.put ⟨sto3,n'⟩ Cm (some (.map es4))) n' ((f q).getD .nsl) (NkD C' ch nj q)∧∀ k,k∈keyOf ((f q).getD .nsl)→G k:=fun n' hn'=>by
    refine⟨es4,_,by rw[Yaf],m4,fun q=>?_⟩;unfold NkD;split
    ·exact⟨.inr ⟨nnj,c+136,rfl,by omega,by rw[Yae Zaa];exact hget3⟩,fun k hk=>hG k (by simp[keyOf]at hk;omega)⟩
    ·exact⟨(vC3 q).1.move Zaa fun j hj hk=>u4 n' j Zaa ((vC3 q).1.neM hC3 hk),(vC3 q).2⟩
   obtain⟨es5,f5,e1,e2,e3⟩:=g4 (c3+16) Zaa;rw[Yaf]at e1;refine⟨gv.length - (i+1),by omega,i+1,NkD C' ch nj,rfl,rfl,by omega,hob,fun j a b=>(u4 _ j Zaa b).trans (fr j a b),⟨es5,f5,e1,e2,e3⟩,fun q=>?_⟩;unfold NkD;split
   ·exact snj
   ·exact sC' q
  ·skip
   iterate 4
    (try rw[Z0]);(try simp(disch:=first|omega|rfl|assumption)only[↓Yaa,Yab,Nae,Naa,rA,rB,rC,rD,reduceIte,unP,rE,g2,g5,g34,g35,g36,xN])
   have hz:gv.drop i=[]:=List.drop_of_length_le Zaa;rw[hz,Ncd]at hob;subst hob;have hsee:NhT e.T tk gv wt=(nw,⟨NhP wt.T e.T nw,C'⟩):=by
    unfold NhT;simp only[hn0,hnw,hR]
   subst hX;refine⟨nofun,_,rfl,?_⟩;simp only[hsee,NaF,Yad,if_true];have pT2:S0.get Tm=some (.map es'):=hS0▸pT;have vT2:∀ u,CV S0 S0.cnt ((if u=e.T then some (.rsl kv 1 0 nw.length)else f u).getD .nsl) (NhP wt.T e.T nw u):=hS0▸vT';have pC2:S0.get Cm=some (.map es2):=hS0▸pC;refine⟨⟨⟨by simp only;omega,by simp only;omega,by simp only;omega⟩,⟨d1,d2,d3⟩,xW _,⟨es',_,(fz Tm Zaa d3 _).trans pT2,mT',fun u=>⟨(vT2 u).move Zad fun j hj hk=>fz j hj ((vT2 u).neM pC2 hk) _,fun k hk=>?_⟩⟩,⟨es3,f3,xC _,mC3,fun q=>⟨(vC3 q).1.move Zad fun _ _ _=>rfl,(vC3 q).2⟩⟩,fun u=>?_,sC'⟩,.inr ⟨nnw,kv,rfl,by omega,xV _⟩,fun k hk=>by simp[keyOf]at hk;show c0≤k;omega,fun j a b d=>?_,by omega⟩
   ·try dsimp only at hk
    split at hk
    ·simp[keyOf]at hk;exact hG k Zaa
    ·exact(vT u).2 k hk
   ·show NaW (NhP wt.T e.T nw u)=true;unfold NhP;split
    ·exact snw
    ·exact hw.sT u
   ·exact(fz j Zaa d _).trans (by rw[←hS0];exact pf j a b d)
 ·skip
  refine⟨0,wt.C,rfl,?_,?_,Zaf,Zaf,Zaf,?_,(by rw[List.drop_zero];exact hR),(by show S0.cnt≤c+24;omega),(fun j _ _=>by rw[←hS0];rfl),⟨es2,f2c,pC,mC,fun q=>⟨(vC' q).move (by show c≤c+24;omega) fun _ _ _=>rfl,(vC q).2⟩⟩,hw.sC⟩<;>first|with_reducible rfl|with_reducible assumption|(simp[Yad,g2,g5,g6]<;>omega)|assumption|rfl|omega|(simp only[Z0L_,Nax];omega)|(simp;omega)|(simp;done)
end
end Go.Pe
