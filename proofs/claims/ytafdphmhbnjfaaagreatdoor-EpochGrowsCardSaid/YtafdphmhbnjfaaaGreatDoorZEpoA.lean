/-
 Epochs: lists of numbers copied and put into, what is kept at first, is it a trace: walked. No condition.
-/
import Derived.Test.YtafdphmhbnjfaaaGreatDoorZEpoM
import Derived.Test.YtafdphmhbnjfaaaGreatDoorZRacN
set_option linter.unusedVariables false
set_option linter.unusedSimpArgs false
open Nat renaming reduceAdd → rA,reduceMul → rB,reduceLT → rC,reduceEqDiff → rD,reduceLeDiff → rE
namespace Go.Pe
open Go Go.Am Go.RowKit
section
variable {th th':Nat→Int}{ac ac':Nat→Bool}{ob ob':Nat→Int}{wr wr':Nat→Bool}{sees sees':Nat→Int→Int→Bool}{n:Nat}
theorem Ngk{o:Int}{a:Nat}:∀ {j:Nat},(Nda th ac ob wr sees j).2 o=some a→a<j
 |0,h=>by cases h
 |j+1,h=>by
   rw[Nda]at h;split at h
   ·split at h
    ·have:=Ngk h;omega
    ·simp only at h;split at h
     ·simp at h;omega
     ·have:=Ngk h;omega
   ·have:=Ngk h;omega
theorem NkO{o:Int}{a j:Nat}(h:(Nda th ac ob wr sees j).2 o=some a):(Nda th ac ob wr sees (j+1)).2 o=some a∧(Nda th ac ob wr sees (j+1)).1 o=(Nda th ac ob wr sees j).1 o:=by
 rw[Nda];split
 ·split
  ·exact⟨h,rfl⟩
  ·rename_i hn;have ho:¬ o=ob j:=fun e=>by rw[←e,h]at hn;simp at hn
   simp only[ho,false_and,if_false];exact⟨h,trivial⟩
 ·exact⟨h,rfl⟩
theorem Ng9{o:Int}{a j:Nat}(h:(Nda th ac ob wr sees j).2 o=some a):∀ d,(Nda th ac ob wr sees (j+d)).2 o=some a∧(Nda th ac ob wr sees (j+d)).1 o=(Nda th ac ob wr sees j).1 o
 |0=>⟨h,rfl⟩
 |d+1=>by
   obtain⟨h1,h2⟩:=Ng9 h d;obtain⟨h3,h4⟩:=NkO h1;exact⟨h3,h4.trans h2⟩
theorem Nh7{t:Int}(ht:∀ i,i<n→th' i=th i):∀ {j:Nat},j≤n→cn th' t j=cn th t j
 |0,_=>rfl
 |j+1,h=>by rw[cn,cn,Nh7 ht Zaa,ht j Zaa]
theorem Njd(ht:∀ i,i<n→th' i=th i){j:Nat}(hj:j<n):NcB th' j=NcB th j:=by
 unfold NcB;rw[ht j hj];exact Nh7 ht Zaa
theorem NfO(ht:∀ i,i<n→th' i=th i)(ha:∀ i,i<n→ac' i=ac i)(hb:∀ i,i<n→ob' i=ob i)(hw:∀ i,i<n→wr' i=wr i)(hs:∀ i,i<n→sees' i=sees i):∀ {j:Nat},j≤n→Nda th' ac' ob' wr' sees' j=Nda th ac ob wr sees j
 |0,_=>rfl
 |j+1,h=>by
   have e:∀ s,Nlg th' wr' sees' j s=Nlg th wr sees j s:=fun s=>by
    unfold Nlg;rw[hw j Zaa,hs j Zaa,ht j Zaa,Njd ht Zaa]
   rw[Nda,Nda,NfO ht ha hb hw hs Zaa,ha j Zaa,hb j Zaa];simp only[e]
structure Kept(nT:Nat)(s:Sn):Prop where
 one:¬ (0≤s.R∧s.Rs≠[])
 r:s.R<0↔s.rn=0
 w:s.W<0↔s.wn=0
 len:s.Rs.length≤nT
 rT:s.R<nT
theorem NgM(nT:Nat):Kept nT sn0:=⟨fun h=>by have:=h.1;simp[sn0]at this,by simp[sn0],by simp[sn0],by simp[sn0],by show(-1:Int)<nT;omega⟩
theorem Nka{nT:Nat}{sees:Int→Int→Bool}{t k:Int}{s:Sn}(h:Kept nT s)(h0:0≤t)(h1:t<nT)(hk:1≤k):Kept nT (Neb sees t k s).1:=by
 obtain⟨a,b,c,d,e⟩:=h;unfold Neb;split
 ·exact⟨a,b,c,d,e⟩
 split
 ·rename_i hne;have hR:s.R<0:=by
   by_cases h:s.R<0
   ·exact h
   ·exact absurd ⟨by omega,hne⟩ a
  refine⟨fun h=>by have:=h.1;simp only at this;omega,b,c,?_,e⟩;show(NcK _ _ _).length≤_;rw[Nce];omega
 split
 ·rename_i hRs _;have hRs:s.Rs=[]:=by simpa using hRs
  refine⟨fun h=>absurd hRs h.2,?_,c,d,h1⟩;show t<0↔k=0;omega
 ·rename_i hRs hc;have hR:0≤s.R:=by
   by_cases h:s.R<0
   ·exact absurd (.inl h) hc
   ·omega
  refine⟨fun h=>by have:=h.1;simp at this,?_,c,?_,?_⟩
  ·show(-1:Int)<0↔(0:Int)=0;omega
  ·show(NcK _ _ _).length≤_;rw[Nce,Nce];simp only[List.length_nil];omega
  ·show(-1:Int)<nT;omega
theorem Ni7{nT:Nat}{sees:Int→Int→Bool}{t k:Int}{s:Sn}(h:Kept nT s)(h0:0≤t)(hk:1≤k):Kept nT (NcJ sees t k s).1:=by
 unfold NcJ;split
 ·exact h
 split
 ·exact h
 ·refine⟨fun h=>by have:=h.1;simp[sn0]at this,by simp[sn0],?_,by simp[sn0],by show(-1:Int)<nT;omega⟩;show t<0↔k=0;omega
theorem Ngc{nT:Nat}(h0:∀ i,i<n→0≤th i∧th i<nT):∀ {j:Nat},j≤n→∀ o,Kept nT ((Nda th ac ob wr sees j).1 o)
 |0,_,_=>NgM nT
 |j+1,hj,o=>by
   have ih:=Ngc h0 (j:=j) Zaa;rw[Nda];split
   ·split
    ·exact ih o
    ·simp only;split
     ·unfold Nlg;have ht:=h0 j Zaa;split
      ·exact Ni7 (ih o) ht.1 (Ngf j)
      ·exact Nka (ih o) ht.1 ht.2 (Ngf j)
     ·exact ih o
   ·exact ih o
end
section
variable {l:List Int}{p:PV}{st:St}{cfg:Cfg}{fuel k:Nat}
def plN(th:Nat→Int)(u:Int):Nat→List Nat
 |0=>[]
 |j+1=>if th j=u then plN th u j++[j]else plN th u j
theorem NhR{th:Nat→Int}{u:Int}:∀ j,((plN th u j).length:Int)=cn th u j
 |0=>rfl
 |j+1=>by
   rw[plN,cn,←NhR j];split
   ·rw[List.length_append,List.length_singleton];omega
   ·omega
def Ngn(cd:Cd)(l:List Et)(j:Nat)(u k:Int):Bool :=
 decide (u<0)||decide (u=thL l j)||decide (k<1)||(decide (k≤(plN (thL l) u j).length)&&NoX 0 cd (l.take (j+1)) ((plN (thL l) u j).getD (k - 1).toNat 0:Nat) (j:Int))
abbrev Nb7(cd:Cd)(l:List Et):=Nda (thL l) (Nk9 cd l) (jL l) (wrB l) (Ngn cd l)
def Nop(cd:Cd)(l:List Et)(o:Nat):Option (Nat×Nat):=((Nb7 cd l l.length).2 (o:Int)).map fun a=>(o,a)
def Noo(cd:Cd)(l:List Et)(n:Nat):List (Nat×Nat):=(List.range n).filterMap (Nop cd l)
theorem Ng6{th th':Nat→Int}{u:Int}{n:Nat}(h:∀ i,i<n→th' i=th i):∀ {j:Nat},j≤n→plN th' u j=plN th u j
 |0,_=>rfl
 |j+1,hj=>by rw[plN,plN,h j Zaa,Ng6 h Zaa]
theorem Nk0{l:List Et}{i:Nat}(h:i<k):(l.take k).getD i etZ=l.getD i etZ:=by
 rw[List.getD_eq_getElem?_getD,List.getD_eq_getElem?_getD,List.getElem?_take_of_lt h]
theorem Nha{cd:Cd}{l:List Et}{j:Nat}(hj:j≤k):Nb7 cd (l.take k) j=Nb7 cd l j:=by
 have hT:∀ i,i<k→thL (l.take k) i=thL l i:=fun i hi=>by unfold thL;rw[Nk0 hi]
 refine NfO (n:=k) hT (fun i hi=>by unfold Nk9;rw[Nk0 hi]) (fun i hi=>by unfold jL;rw[Nk0 hi]) (fun i hi=>by unfold wrB;rw[Nk0 hi]) (fun i hi=>?_) hj;funext u q;unfold Ngn;rw[hT i hi,Ng6 hT (Nat.le_of_lt hi),List.take_take,Nat.min_eq_left Zaa]
theorem NkK{cd:Cd}{l:List Et}{n:Nat}(hk:k≤l.length){r:Nat×Nat}(h:r∈Noo cd (l.take k) n):r∈Noo cd l n∧r.2<k∧(Nb7 cd (l.take k) (l.take k).length).1 (r.1:Int)=(Nb7 cd l l.length).1 (r.1:Int):=by
 have hlk:(l.take k).length=k:=by rw[List.length_take,Nat.min_eq_left hk]
 unfold Noo at h ⊢;obtain⟨o,ho,hr⟩:=List.mem_filterMap.1 h;unfold Nop at hr;rw[hlk,Nha (Nat.le_refl k)]at hr;cases e:(Nb7 cd l k).2 (o:Int)with
 |none=>rw[e]at hr;cases hr
 |some a =>
   rw[e]at hr;simp only[Option.map_some,Sj]at hr;subst hr;obtain⟨h1,h2⟩:=Ng9 e (l.length - k);rw[show k+(l.length - k)=l.length by omega]at h1 h2;refine⟨List.mem_filterMap.2 ⟨o,ho,by unfold Nop;rw[show(Nb7 cd l l.length).2 (o:Int)=some a from h1];rfl⟩,Ngk e,?_⟩;rw[hlk,Nha (Nat.le_refl k)];exact h2.symm
structure CfgE(cfg:Cfg):Prop extends CfgA cfg where
 e1:cfg.ext 92=none
 e2:cfg.ext 24=none
 e3:cfg.ext 23=none
 e4:cfg.ext 33=none
 e5:cfg.ext 54=none
 e6:cfg.ext 55=none
 e7:cfg.ext 91=none
 e8:cfg.ext 59=none
 e9:cfg.ext 93=none
 f1:cfg.ext 57=none
 f2:cfg.ext 58=none
 f3:cfg.ext 34=none
 f4:cfg.ext 22=none
 f5:cfg.ext 13=none
 f6:cfg.ext 10=none
theorem Nlu(l:List Int):clO (NaK l)=true:=by simp[clO,NaK,PV.leafB]
theorem Nmd(l:List Int):(NaK l).all PV.one=true:=by simp[NaK,PV.one]
theorem NdG(h:inNs p=some l):(p=.nsl∧l=[])∨(p=.fsl l.length (NaK l)∧l≠[]):=by
 unfold inNs at h;split at h
 ·simp only[Sj]at h;exact .inl ⟨rfl,h.symm⟩
 ·rename_i n cs;split at h
  ·rename_i l' hl;split at h
   ·rename_i hn;simp only[Sj]at h;subst h;rw[NeX hl,hn.1];exact .inr ⟨rfl,hn.2⟩
   ·cases h
  ·cases h
 ·cases h
def Nga(l:List Int):PV:=if l=[]then .nsl else .osl 1 l.length (NaK l)
theorem Nj5(l:List Int):OutV (Nga l) 1 l.length (NaK l):=by
 unfold Nga;split
 ·rename_i h;rw[h];exact .inl ⟨rfl,rfl,rfl⟩
 ·exact .inr rfl
theorem NfA{v:PV}(h:Own st 1 v l.length (NaK l))(h0:l≠[]):NaY st v=some (Nga l):=by
 unfold Nga;rw[if_neg h0];rcases h with⟨_,h1,_⟩|⟨k,rfl,h1,h2,h3⟩
 ·exact absurd (List.eq_nil_of_length_eq_zero h1) h0
 have hw:NdT? st (.rsl k 1 0 l.length)=some (k,1,l.length,NaK l):=by
  unfold NdT?;simp only[h1];rw[if_pos ⟨trivial,h2,by omega⟩]
 unfold NaY;simp only[hw,NdK (NfG l),Nb4 (NfG l),List.contains_nil,Bool.false_eq_true,if_false,Option.map_some]
theorem NiU(st:St)(l:List Int):cellsOf st 1 (.fsl l.length (NaK l))=some (l.length,NaK l):=by
 unfold cellsOf;simp only[NaJ,Nat.mul_one,if_true]
theorem Nlv(hc:CfgE cfg)(hp:inNs p=some l)(hl:l.length<1000) :
 ∃ r st',NaM cfg (fuel+1) 24 [p] st=some (r,st')∧NaY st' r=some (Nga l):=by
 refine NaE (hc.fn _ _ (by kernel_rfl):cfg.fn 24=some m24) ?_;delta m24 Qa Ql Qt Qm Qi;obtain⟨sto0,c0⟩:=st;simp only[Nao];rcases NdG hp with⟨rfl,rfl⟩|⟨rfl,h0⟩
 ·have hq:Nla 0 false .nsl .nsl=some (.b true):=rfl
  iterate 4
   (try rw[Z0]);(try simp(maxSteps:=9^7)(disch:=first|omega|rfl|assumption)only[↓Yaa,Yab,Nae,Naa,rA,rB,rC,rD,reduceIte,unP,rE,hq])
  exact⟨nofun,_,rfl,by simp only[NaI,Yad,if_true];rfl⟩
 ·have hq:Nla 0 false (.fsl l.length (NaK l)) .nsl=some (.b false):=by
   have hn:¬ l.length=0:=fun h=>h0 (List.eq_nil_of_length_eq_zero h);unfold Nla NdI?;simp[hn]
  have hce:=fun st=>NiU st l;have hon:=Nmd l
  iterate 4
   (try rw[Z0]);(try simp(maxSteps:=9^7)(disch:=first|omega|rfl|assumption)only[↓Yaa,Yab,Nae,Naa,rA,rB,rC,rD,reduceIte,unP,rE,hq,hce,hon])
  refine Ndf (cs:=[]) (.inr ⟨_,rfl,by exact Yaf _ _ _,rfl,by simp only[Z0L_];omega⟩:Own _ 1 (.rsl _ 1 0 0) 0 []) (by simp only[Z0L_];omega) (by simp[keyOf]) (by rw[NaJ,Nat.mul_one]) Zaa (by unfold Na4;omega) ?_;intro v' st' hown hcnt hkey hj;rw[Nat.zero_add,Zal]at hown
  iterate 3
   (try rw[Z0]);(try simp(maxSteps:=9^7)(disch:=first|omega|rfl|assumption)only[↓Yaa,Yab,Nae,Naa,rA,rB,rC,rD,reduceIte,unP,rE])
  exact⟨nofun,_,rfl,by simp only[NaI,Yad,if_true];exact NfA hown h0⟩
theorem NkA(hp:inNs p=some l)(r:List PV):NaS (p::r)=(p::r,{ sto:=.leaf,cnt:=1 }):=by
 rcases NdG hp with⟨rfl,rfl⟩|⟨rfl,h0⟩<;>rfl
theorem NeC(hc:CfgE cfg)(hp:inNs p=some l)(hl:l.length<1000):Nan cfg (NaM cfg (fuel+1)) 24 [p]=some (Nga l):=by
 obtain⟨r,st',h1,h2⟩:=Nlv (fuel:=fuel) (st:={ sto:=.leaf,cnt:=1 }) hc hp hl;exact NeH hc.e2 (NkA hp []) ⟨r,st',h1,h2⟩
theorem Nnw(hp:inNs p=some l):Go.Pe.deep st 12 p=some p:=by
 rcases NdG hp with⟨rfl,rfl⟩|⟨rfl,h0⟩<;>rfl
theorem NpF(hc:CfgE cfg){t k:Int}(hp:inNs p=some l)(hl:l.length<500)(h0:0≤t)(h1:t<100)(hfu:100≤fuel) :
 ∃ r st',NaM cfg (fuel+2) 92 [p,.i .i64 t,.i .i64 k] st=some (r,st')∧NaY st' r=some (Nga (NcK l t.toNat k)):=by
 refine NaE (hc.fn _ _ (by kernel_rfl):cfg.fn 92=some m92) ?_;delta m92 Qa Ql Qt Qn Qm Qi;obtain⟨sto0,c0⟩:=st;simp only[Nao]
 iterate 2
  (try rw[Z0]);(try simp(maxSteps:=9^7)(disch:=first|omega|rfl|assumption)only[↓Yaa,Yab,Nae,Naa,rA,rB,rC,rD,reduceIte,unP,rE])
 refine Nh0 (Nbk (Nnw hp)) (NeC hc hp Zaa) (Nj5 l) (Nlu l) (by rw[NaJ,Nat.mul_one]) Zad ?_;intro v1 st1 ho1 hk1 hc1 hj1;obtain⟨sto1,c1⟩:=st1;simp only at hc1;subst hc1;(try rw[Z0]);(try simp(maxSteps:=9^7)(disch:=first|omega|rfl|assumption)only[↓Yaa,Yab,Nae,Naa,rA,rB,rC,rD,reduceIte,unP,rE]);refine NaN (fun x=>x.env.get 0=v1∧x.env.get 1=.i .i64 t∧x.env.get 2=.i .i64 k∧(Own x.st 1 v1 l.length (NaK l))) ?_ ?_
 ·exact⟨Zab,Zab,Zab,(ho1.move Zad fun _ _ _=>rfl)⟩
 rintro⟨env,⟨sto,c⟩⟩ ⟨g0,g1,g2,ho⟩;try simp only at g0 g1 g2 ho
 refine Z9 (k:=t.toNat+1 - l.length) (fun m x=>∃ (i:Nat) (v:PV),m=t.toNat+1 - l.length - i∧x.env.get 0=v∧x.env.get 1=.i .i64 t∧x.env.get 2=.i .i64 k∧(i≤t.toNat+1 - l.length)∧(Own x.st 1 v (l.length+i) (NaK (l++List.replicate i 0)))) ?_ ?_ Zaa
 ·clear g0 g1 g2 ho;rintro m ⟨env,⟨sto,c⟩⟩ ⟨i,v,rfl,g0,g1,g2,hi,ho⟩;try simp only at g0 g1 g2 ho
  have hov:=ho.len;by_cases hil:i<t.toNat+1 - l.length
  ·skip
   iterate 5
    (try rw[Z0]);(try simp(maxSteps:=9^7)(disch:=first|omega|rfl|assumption)only[↓Yaa,Yab,Nae,Naa,rA,rB,rC,rD,reduceIte,unP,rE,g0,g1,g2,hov,Naw])
   refine Ndf (ho.move (by simp only[Z0L_];omega) fun j hj hlt=>by simp only at hlt;simp(disch:=omega)only[Nas,Nau];rfl) (by simp only[Z0L_];omega) (fun h=>by have:=ho.lt _ h;simp only at this;omega) rfl Zaa (by unfold Na4;omega) ?_;intro v' st' hown hcnt hkey hj;simp only[Z0L_]at hcnt
   iterate 3
    (try rw[Z0]);(try simp(maxSteps:=9^7)(disch:=first|omega|rfl|assumption)only[↓Yaa,Yab,Nae,Naa,rA,rB,rC,rD,reduceIte,unP,rE,g0,g1,g2])
   refine⟨t.toNat+1 - l.length - (i+1),by omega,i+1,v',rfl,rfl,by omega,?_⟩;rw[List.replicate_succ',←List.append_assoc,show NaK (l++List.replicate i 0++[0])=NaK (l++List.replicate i 0)++[.i .i64 0] by simp[NaK]];exact hown
  ·have hie:i=t.toNat+1 - l.length:=(by omega);subst hie;obtain⟨L,hL⟩:∃ L,l++List.replicate (t.toNat+1 - l.length) 0=L:=⟨_,rfl⟩;have hn:L.length=l.length+(t.toNat+1 - l.length):=(by rw[←hL,List.length_append,List.length_replicate]);rw[hL,←hn]at ho;rw[←hn]at hov;obtain⟨q,rfl,gq,lq,bq⟩:=ho.obj Zaa;simp only at bq;replace gq:∀ n',St.get ⟨sto,n'⟩ q=_:=fun _=>gq;have hil2:=NaJ L;have hsp:(NaK L).take t.toNat++[.i .i64 k]++(NaK L).drop (t.toNat+1)=NaK (L.set t.toNat k):=by
    simp only[NaK,←List.map_take,←List.map_drop];rw[List.set_eq_take_append_cons_drop,if_pos Zaa];simp
   have hput:NcK l t.toNat k=L.set t.toNat k:=(by unfold NcK;rw[hL]);rw[hput]
   iterate 8
    (try rw[Z0]);(try simp(maxSteps:=9^7)(disch:=first|omega|rfl|assumption)only[↓Yaa,Yab,Nae,Naa,rA,rB,rC,rD,reduceIte,unP,rE,g0,g1,g2,gq,hil2,hsp,hov])
   refine⟨nofun,_,rfl,?_⟩;simp only[NaI,Yad,if_true];have hl3:(L.set t.toNat k).length=L.length:=List.length_set;rw[←hl3];exact NfA (.inr ⟨q,rfl,by exact Yaf _ _ _,by rw[NaJ,Nat.mul_one],by simp only;omega⟩) (fun h=>by rw[h]at hl3;simp at hl3;omega)
 ·skip
  refine⟨0,v1,rfl,?_,?_,?_,?_,(by simpa using ho)⟩<;>first|with_reducible rfl|with_reducible assumption|(simp[Yad,g0,g1,g2]<;>omega)|assumption|rfl|omega|(simp only[Z0L_,Naz];omega)|(simp;omega)|(simp;done)
theorem NhT(hc:CfgE cfg){t k:Int}(hp:inNs p=some l)(hl:l.length<500)(h0:0≤t)(h1:t<100)(hfu:100≤fuel):Nan cfg (NaM cfg (fuel+2)) 92 [p,.i .i64 t,.i .i64 k]=some (Nga (NcK l t.toNat k)):=by
 obtain⟨r,st',h1,h2⟩:=NpF (fuel:=fuel) (k:=k) (st:={ sto:=.leaf,cnt:=1 }) hc hp hl h0 h1 hfu;exact NeH hc.e1 (NkA hp _) ⟨r,st',h1,h2⟩
end
end Go.Pe
