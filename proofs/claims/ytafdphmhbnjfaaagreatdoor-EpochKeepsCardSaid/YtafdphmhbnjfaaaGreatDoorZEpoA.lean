/-
 Epochs: lists of numbers copied and put into, what is kept at first, is it a trace: walked. No condition.
-/
import Derived.Test.YtafdphmhbnjfaaaGreatDoorZEpoM
import Derived.Test.YtafdphmhbnjfaaaGreatDoorZRacN
set_option linter.unusedVariables false
set_option linter.unusedSimpArgs false
open Nat renaming reduceAdd → rA,reduceMul → rB,reduceLT → rC,reduceEqDiff → rD,reduceLeDiff → rE
namespace Go.Pe
open Go Go.Am Go.RowKit
section
variable {th th':Nat→Int}{ac ac':Nat→Bool}{ob ob':Nat→Int}{wr wr':Nat→Bool}{sees sees':Nat→Int→Int→Bool}{n:Nat}
structure Kept(nT:Nat)(s:Sn):Prop where
 one:¬ (0≤s.R∧s.Rs≠[])
 r:s.R<0↔s.rn=0
 w:s.W<0↔s.wn=0
 len:s.Rs.length≤nT
 rT:s.R<nT
theorem NgP(nT:Nat):Kept nT sn0:=⟨fun h=>by have:=h.1;simp[sn0]at this,by simp[sn0],by simp[sn0],by simp[sn0],by show(-1:Int)<nT;omega⟩
theorem Nj4{nT:Nat}{sees:Int→Int→Bool}{t k:Int}{s:Sn}(h:Kept nT s)(h0:0≤t)(h1:t<nT)(hk:1≤k):Kept nT (NdT sees t k s).1:=by
 obtain⟨a,b,c,d,e⟩:=h;unfold NdT;split
 ·exact⟨a,b,c,d,e⟩
 split
 ·rename_i hne;have hR:s.R<0:=by
   by_cases h:s.R<0
   ·exact h
   ·exact absurd ⟨by omega,hne⟩ a
  refine⟨fun h=>by have:=h.1;simp only at this;omega,b,c,?_,e⟩;show(NcK _ _ _).length≤_;rw[Nce];omega
 split
 ·rename_i hRs _;have hRs:s.Rs=[]:=by simpa using hRs
  refine⟨fun h=>absurd hRs h.2,?_,c,d,h1⟩;show t<0↔k=0;omega
 ·rename_i hRs hc;have hR:0≤s.R:=by
   by_cases h:s.R<0
   ·exact absurd (.inl h) hc
   ·omega
  refine⟨fun h=>by have:=h.1;simp at this,?_,c,?_,?_⟩
  ·show(-1:Int)<0↔(0:Int)=0;omega
  ·show(NcK _ _ _).length≤_;rw[Nce,Nce];simp only[List.length_nil];omega
  ·show(-1:Int)<nT;omega
theorem Ni1{nT:Nat}{sees:Int→Int→Bool}{t k:Int}{s:Sn}(h:Kept nT s)(h0:0≤t)(hk:1≤k):Kept nT (Nct sees t k s).1:=by
 unfold Nct;split
 ·exact h
 split
 ·exact h
 ·refine⟨fun h=>by have:=h.1;simp[sn0]at this,by simp[sn0],?_,by simp[sn0],by show(-1:Int)<nT;omega⟩;show t<0↔k=0;omega
theorem Ngc{nT:Nat}(h0:∀ i,i<n→0≤th i∧th i<nT):∀ {j:Nat},j≤n→∀ o,Kept nT ((Nfv th ac ob wr sees j).1 o)
 |0,_,_=>NgP nT
 |j+1,hj,o=>by
   have ih:=Ngc h0 (j:=j) Zaa;rw[Nfv];split
   ·split
    ·exact ih o
    ·simp only;split
     ·unfold NmG;have ht:=h0 j Zaa;split
      ·exact Ni1 (ih o) ht.1 (Ngg j)
      ·exact Nj4 (ih o) ht.1 ht.2 (Ngg j)
     ·exact ih o
   ·exact ih o
def Nbv(wr:Nat→Bool):Nat→Sn
 |0=>sn0
 |i+1=>if wr i=true then⟨0,(i:Int)+1,-1,0,[]⟩else { Nbv wr i with R:=0,rn:=(i:Int)+1 }
theorem Ngq:∀ i,(Nbv wr i).Rs=[]∧((Nbv wr i).W<0∨(Nbv wr i).W=0)∧((Nbv wr i).R<0∨(Nbv wr i).R=0)
 |0=>⟨rfl,.inl (by simp[Nbv,sn0]),.inl (by simp[Nbv,sn0])⟩
 |i+1=>by
   obtain⟨h1,h2,h3⟩:=Ngq i;rw[Nbv];split
   ·exact⟨rfl,.inr rfl,.inl Zag⟩
   ·exact⟨h1,h2,.inr rfl⟩
theorem NmK(h0:∀ i,i<n→th i=0):∀ {j:Nat},j≤n→cn th 0 j=j
 |0,_=>rfl
 |j+1,h=>by rw[cn,NmK h0 Zaa,if_pos (h0 j Zaa)];omega
theorem Nko(h0:∀ i,i<n→th i=0)(ha:∀ i,i<n→ac i=true)(hb:∀ i,i<n→ob i=0)(hs:∀ j,j<n→∀ u k,u<0∨u=0→sees j u k=true):∀ {j:Nat},j≤n→(Nfv th ac ob wr sees j).1 0=Nbv wr j∧(∀ o,(Nfv th ac ob wr sees j).2 o=none)
 |0,_=>⟨rfl,fun _=>rfl⟩
 |j+1,hj=>by
   obtain⟨i1,i2⟩:=Nko h0 ha hb hs (j:=j) Zaa;obtain⟨w1,w2,w3⟩:=Ngq (wr:=wr) j;have hnum:NcH th j=(j:Int)+1:=by
    unfold NcH;rw[h0 j Zaa,NmK h0 Zaa];omega
   have hact:NmG th wr sees j (Nbv wr j)=(Nbv wr (j+1),true):=by
    unfold NmG;rw[h0 j Zaa,hnum,Nbv];have s1:=hs j Zaa (Nbv wr j).W (Nbv wr j).wn w2;have s2:=hs j Zaa (Nbv wr j).R (Nbv wr j).rn w3;cases hw:wr j with
    |true =>
      rw[if_pos rfl,if_pos rfl];unfold Nct;rw[s1,s2,if_neg Zag,w1,if_neg Zag];rfl
    |false =>
      rw[if_neg Zag,if_neg Zag];unfold NdT;rw[s1,s2,if_neg Zag,if_neg (by simp[w1]),if_pos (.inr rfl)]
   rw[Nfv,if_pos (ha j Zaa),hb j Zaa,if_neg (by rw[i2];simp)];simp only[if_true,i1,hact];refine⟨trivial,fun o=>?_⟩;by_cases ho:o=0
   ·subst ho;rw[i1,hact];simp[i2]
   ·simp[ho,i2]
end
section
variable {l:List Int}{p:PV}{st:St}{cfg:Cfg}{fuel:Nat}
def plN(th:Nat→Int)(u:Int):Nat→List Nat
 |0=>[]
 |j+1=>if th j=u then plN th u j++[j]else plN th u j
theorem NhO{th:Nat→Int}{u:Int}:∀ j,((plN th u j).length:Int)=cn th u j
 |0=>rfl
 |j+1=>by
   rw[plN,cn,←NhO j];split
   ·rw[List.length_append,List.length_singleton];omega
   ·omega
def Ngn(cd:Cd)(l:List Et)(j:Nat)(u k:Int):Bool :=
 decide (u<0)||decide (u=thL l j)||decide (k<1)||(decide (k≤(plN (thL l) u j).length)&&NoT 0 cd (l.take (j+1)) ((plN (thL l) u j).getD (k - 1).toNat 0:Nat) (j:Int))
abbrev Ncv(cd:Cd)(l:List Et):=Nfv (thL l) (Nk0 cd l) (jL l) (wrB l) (Ngn cd l)
theorem Nrp{l:List Et}{k i:Nat}(h:i<k):(l.take k).getD i etZ=l.getD i etZ:=by
 rw[List.getD_eq_getElem?_getD,List.getD_eq_getElem?_getD,List.getElem?_take_of_lt h]
structure CfgE(cfg:Cfg):Prop extends CfgA cfg where
 e1:cfg.ext 92=none
 e2:cfg.ext 24=none
 e3:cfg.ext 23=none
 e4:cfg.ext 33=none
 e5:cfg.ext 54=none
 e6:cfg.ext 55=none
 e7:cfg.ext 91=none
 e8:cfg.ext 59=none
 e9:cfg.ext 93=none
 f1:cfg.ext 57=none
 f2:cfg.ext 58=none
 f3:cfg.ext 34=none
 f4:cfg.ext 22=none
 f5:cfg.ext 13=none
 f6:cfg.ext 10=none
theorem Nll(l:List Int):clO (NaI l)=true:=by simp[clO,NaI,PV.leafB]
theorem Nl8(l:List Int):(NaI l).all PV.one=true:=by simp[NaI,PV.one]
theorem NdG(h:inNs p=some l):(p=.nsl∧l=[])∨(p=.fsl l.length (NaI l)∧l≠[]):=by
 unfold inNs at h;split at h
 ·simp only[Sj]at h;exact .inl ⟨rfl,h.symm⟩
 ·rename_i n cs;split at h
  ·rename_i l' hl;split at h
   ·rename_i hn;simp only[Sj]at h;subst h;rw[NeV hl,hn.1];exact .inr ⟨rfl,hn.2⟩
   ·cases h
  ·cases h
 ·cases h
def Nga(l:List Int):PV:=if l=[]then .nsl else .osl 1 l.length (NaI l)
theorem NjY(l:List Int):OutV (Nga l) 1 l.length (NaI l):=by
 unfold Nga;split
 ·rename_i h;rw[h];exact .inl ⟨rfl,rfl,rfl⟩
 ·exact .inr rfl
theorem NfA{v:PV}(h:Own st 1 v l.length (NaI l))(h0:l≠[]):NaY st v=some (Nga l):=by
 unfold Nga;rw[if_neg h0];rcases h with⟨_,h1,_⟩|⟨k,rfl,h1,h2,h3⟩
 ·exact absurd (List.eq_nil_of_length_eq_zero h1) h0
 have hw:NdU? st (.rsl k 1 0 l.length)=some (k,1,l.length,NaI l):=by
  unfold NdU?;simp only[h1];rw[if_pos ⟨trivial,h2,by omega⟩]
 unfold NaY;simp only[hw,NdK (NfF l),Nb5 (NfF l),List.contains_nil,Bool.false_eq_true,if_false,Option.map_some]
theorem NiN(st:St)(l:List Int):cellsOf st 1 (.fsl l.length (NaI l))=some (l.length,NaI l):=by
 unfold cellsOf;simp only[NaH,Nat.mul_one,if_true]
theorem Nlm(hc:CfgE cfg)(hp:inNs p=some l)(hl:l.length<1000) :
 ∃ r st',NaK cfg (fuel+1) 24 [p] st=some (r,st')∧NaY st' r=some (Nga l):=by
 refine NaB (hc.fn _ _ (by kernel_rfl):cfg.fn 24=some m24) ?_;delta m24 Qa Ql Qt Qm Qi;obtain⟨sto0,c0⟩:=st;simp only[Nao];rcases NdG hp with⟨rfl,rfl⟩|⟨rfl,h0⟩
 ·have hq:Nk1 0 false .nsl .nsl=some (.b true):=rfl
  iterate 4
   (try rw[Z0]);(try simp(maxSteps:=9^7)(disch:=first|omega|rfl|assumption)only[↓Yaa,Yab,Nae,Naa,rA,rB,rC,rD,reduceIte,unP,rE,hq])
  exact⟨nofun,_,rfl,by simp only[NaF,Yad,if_true];rfl⟩
 ·have hq:Nk1 0 false (.fsl l.length (NaI l)) .nsl=some (.b false):=by
   have hn:¬ l.length=0:=fun h=>h0 (List.eq_nil_of_length_eq_zero h);unfold Nk1 NdI?;simp[hn]
  have hce:=fun st=>NiN st l;have hon:=Nl8 l
  iterate 4
   (try rw[Z0]);(try simp(maxSteps:=9^7)(disch:=first|omega|rfl|assumption)only[↓Yaa,Yab,Nae,Naa,rA,rB,rC,rD,reduceIte,unP,rE,hq,hce,hon])
  refine Ncw (cs:=[]) (.inr ⟨_,rfl,by exact Yaf _ _ _,rfl,by simp only[Z0L_];omega⟩:Own _ 1 (.rsl _ 1 0 0) 0 []) (by simp only[Z0L_];omega) (by simp[keyOf]) (by rw[NaH,Nat.mul_one]) Zaa (by unfold Na0;omega) ?_;intro v' st' hown hcnt hkey hj;rw[Nat.zero_add,Zal]at hown
  iterate 3
   (try rw[Z0]);(try simp(maxSteps:=9^7)(disch:=first|omega|rfl|assumption)only[↓Yaa,Yab,Nae,Naa,rA,rB,rC,rD,reduceIte,unP,rE])
  exact⟨nofun,_,rfl,by simp only[NaF,Yad,if_true];exact NfA hown h0⟩
theorem Nkw(hp:inNs p=some l)(r:List PV):NaS (p::r)=(p::r,{ sto:=.leaf,cnt:=1 }):=by
 rcases NdG hp with⟨rfl,rfl⟩|⟨rfl,h0⟩<;>rfl
theorem NeB(hc:CfgE cfg)(hp:inNs p=some l)(hl:l.length<1000):Nai cfg (NaK cfg (fuel+1)) 24 [p]=some (Nga l):=by
 obtain⟨r,st',h1,h2⟩:=Nlm (fuel:=fuel) (st:={ sto:=.leaf,cnt:=1 }) hc hp hl;exact NeF hc.e2 (Nkw hp []) ⟨r,st',h1,h2⟩
theorem Nnt(hp:inNs p=some l):Go.Pe.deep st 12 p=some p:=by
 rcases NdG hp with⟨rfl,rfl⟩|⟨rfl,h0⟩<;>rfl
theorem NpC(hc:CfgE cfg){t k:Int}(hp:inNs p=some l)(hl:l.length<500)(h0:0≤t)(h1:t<100)(hfu:100≤fuel) :
 ∃ r st',NaK cfg (fuel+2) 92 [p,.i .i64 t,.i .i64 k] st=some (r,st')∧NaY st' r=some (Nga (NcK l t.toNat k)):=by
 refine NaB (hc.fn _ _ (by kernel_rfl):cfg.fn 92=some m92) ?_;delta m92 Qa Ql Qt Qn Qm Qi;obtain⟨sto0,c0⟩:=st;simp only[Nao]
 iterate 2
  (try rw[Z0]);(try simp(maxSteps:=9^7)(disch:=first|omega|rfl|assumption)only[↓Yaa,Yab,Nae,Naa,rA,rB,rC,rD,reduceIte,unP,rE])
 refine Nk7 (Nbf (Nnt hp)) (NeB hc hp Zaa) (NjY l) (Nll l) (by rw[NaH,Nat.mul_one]) Zad ?_;intro v1 st1 ho1 hk1 hc1 hj1;obtain⟨sto1,c1⟩:=st1;simp only at hc1;subst hc1;(try rw[Z0]);(try simp(maxSteps:=9^7)(disch:=first|omega|rfl|assumption)only[↓Yaa,Yab,Nae,Naa,rA,rB,rC,rD,reduceIte,unP,rE]);refine NaJ (fun x=>x.env.get 0=v1∧x.env.get 1=.i .i64 t∧x.env.get 2=.i .i64 k∧(Own x.st 1 v1 l.length (NaI l))) ?_ ?_
 ·exact⟨Zab,Zab,Zab,(ho1.move Zad fun _ _ _=>rfl)⟩
 rintro⟨env,⟨sto,c⟩⟩ ⟨g0,g1,g2,ho⟩;try simp only at g0 g1 g2 ho
 refine Z9 (k:=t.toNat+1 - l.length) (fun m x=>∃ (i:Nat) (v:PV),m=t.toNat+1 - l.length - i∧x.env.get 0=v∧x.env.get 1=.i .i64 t∧x.env.get 2=.i .i64 k∧(i≤t.toNat+1 - l.length)∧(Own x.st 1 v (l.length+i) (NaI (l++List.replicate i 0)))) ?_ ?_ Zaa
 ·clear g0 g1 g2 ho;rintro m ⟨env,⟨sto,c⟩⟩ ⟨i,v,rfl,g0,g1,g2,hi,ho⟩;try simp only at g0 g1 g2 ho
  have hov:=ho.len;by_cases hil:i<t.toNat+1 - l.length
  ·skip
   iterate 5
    (try rw[Z0]);(try simp(maxSteps:=9^7)(disch:=first|omega|rfl|assumption)only[↓Yaa,Yab,Nae,Naa,rA,rB,rC,rD,reduceIte,unP,rE,g0,g1,g2,hov,Nay])
   refine Ncw (ho.move (by simp only[Z0L_];omega) fun j hj hlt=>by simp only at hlt;simp(disch:=omega)only[Nar,Nas];rfl) (by simp only[Z0L_];omega) (fun h=>by have:=ho.lt _ h;simp only at this;omega) rfl Zaa (by unfold Na0;omega) ?_;intro v' st' hown hcnt hkey hj;simp only[Z0L_]at hcnt
   iterate 3
    (try rw[Z0]);(try simp(maxSteps:=9^7)(disch:=first|omega|rfl|assumption)only[↓Yaa,Yab,Nae,Naa,rA,rB,rC,rD,reduceIte,unP,rE,g0,g1,g2])
   refine⟨t.toNat+1 - l.length - (i+1),by omega,i+1,v',rfl,rfl,by omega,?_⟩;rw[List.replicate_succ',←List.append_assoc,show NaI (l++List.replicate i 0++[0])=NaI (l++List.replicate i 0)++[.i .i64 0] by simp[NaI]];exact hown
  ·have hie:i=t.toNat+1 - l.length:=(by omega);subst hie;obtain⟨L,hL⟩:∃ L,l++List.replicate (t.toNat+1 - l.length) 0=L:=⟨_,rfl⟩;have hn:L.length=l.length+(t.toNat+1 - l.length):=(by rw[←hL,List.length_append,List.length_replicate]);rw[hL,←hn]at ho;rw[←hn]at hov;obtain⟨q,rfl,gq,lq,bq⟩:=ho.obj Zaa;simp only at bq;replace gq:∀ n',St.get ⟨sto,n'⟩ q=_:=fun _=>gq;have hil2:=NaH L;have hsp:(NaI L).take t.toNat++[.i .i64 k]++(NaI L).drop (t.toNat+1)=NaI (L.set t.toNat k):=by
    simp only[NaI,←List.map_take,←List.map_drop];rw[List.set_eq_take_append_cons_drop,if_pos Zaa];simp
   have hput:NcK l t.toNat k=L.set t.toNat k:=(by unfold NcK;rw[hL]);rw[hput]
   iterate 8
    (try rw[Z0]);(try simp(maxSteps:=9^7)(disch:=first|omega|rfl|assumption)only[↓Yaa,Yab,Nae,Naa,rA,rB,rC,rD,reduceIte,unP,rE,g0,g1,g2,gq,hil2,hsp,hov])
   refine⟨nofun,_,rfl,?_⟩;simp only[NaF,Yad,if_true];have hl3:(L.set t.toNat k).length=L.length:=List.length_set;rw[←hl3];exact NfA (.inr ⟨q,rfl,by exact Yaf _ _ _,by rw[NaH,Nat.mul_one],by simp only;omega⟩) (fun h=>by rw[h]at hl3;simp at hl3;omega)
 ·skip
  refine⟨0,v1,rfl,?_,?_,?_,?_,(by simpa using ho)⟩<;>first|with_reducible rfl|with_reducible assumption|(simp[Yad,g0,g1,g2]<;>omega)|assumption|rfl|omega|(simp only[Z0L_,Nax];omega)|(simp;omega)|(simp;done)
theorem NhQ(hc:CfgE cfg){t k:Int}(hp:inNs p=some l)(hl:l.length<500)(h0:0≤t)(h1:t<100)(hfu:100≤fuel):Nai cfg (NaK cfg (fuel+2)) 92 [p,.i .i64 t,.i .i64 k]=some (Nga (NcK l t.toNat k)):=by
 obtain⟨r,st',h1,h2⟩:=NpC (fuel:=fuel) (k:=k) (st:={ sto:=.leaf,cnt:=1 }) hc hp hl h0 h1 hfu;exact NeF hc.e1 (Nkw hp _) ⟨r,st',h1,h2⟩
end
end Go.Pe
