/-
 Epochs: lists of numbers copied and put into, what is kept at first, is it a trace: walked. No condition.
-/
import Derived.Test.YtafdphmhbnjfaaaGreatDoorZEpoM
import Derived.Test.YtafdphmhbnjfaaaGreatDoorZRacN
set_option linter.unusedVariables false
set_option linter.unusedSimpArgs false
open Nat renaming reduceAdd → rA,reduceMul → rB,reduceLT → rC,reduceEqDiff → rD,reduceLeDiff → rE
namespace Go.Pe
open Go Go.Am Go.RowKit
section
variable {th th':Nat→Int}{ac ac':Nat→Bool}{ob ob':Nat→Int}{wr wr':Nat→Bool}{sees sees':Nat→Int→Int→Bool}{n:Nat}
structure Kept(nT:Nat)(s:Sn):Prop where
 one:¬ (0≤s.R∧s.Rs≠[])
 r:s.R<0↔s.rn=0
 w:s.W<0↔s.wn=0
 len:s.Rs.length≤nT
 rT:s.R<nT
theorem Nki(nT:Nat):Kept nT sn0:=⟨fun h=>by have:=h.1;simp[sn0]at this,by simp[sn0],by simp[sn0],by simp[sn0],by show(-1:Int)<nT;omega⟩
theorem Nkh{nT:Nat}{sees:Int→Int→Bool}{t k:Int}{s:Sn}(h:Kept nT s)(h0:0≤t)(h1:t<nT)(hk:1≤k):Kept nT (Neh sees t k s).1:=by
 obtain⟨a,b,c,d,e⟩:=h;unfold Neh;split
 ·exact⟨a,b,c,d,e⟩
 split
 ·rename_i hne;have hR:s.R<0:=by
   by_cases h:s.R<0
   ·exact h
   ·exact absurd ⟨by omega,hne⟩ a
  refine⟨fun h=>by have:=h.1;simp only at this;omega,b,c,?_,e⟩;show(NcI _ _ _).length≤_;rw[Ncf];omega
 split
 ·rename_i hRs _;have hRs:s.Rs=[]:=by simpa using hRs
  refine⟨fun h=>absurd hRs h.2,?_,c,d,h1⟩;show t<0↔k=0;omega
 ·rename_i hRs hc;have hR:0≤s.R:=by
   by_cases h:s.R<0
   ·exact absurd (.inl h) hc
   ·omega
  refine⟨fun h=>by have:=h.1;simp at this,?_,c,?_,?_⟩
  ·show(-1:Int)<0↔(0:Int)=0;omega
  ·show(NcI _ _ _).length≤_;rw[Ncf,Ncf];simp only[List.length_nil];omega
  ·show(-1:Int)<nT;omega
theorem Njd{nT:Nat}{sees:Int→Int→Bool}{t k:Int}{s:Sn}(h:Kept nT s)(h0:0≤t)(hk:1≤k):Kept nT (NcH sees t k s).1:=by
 unfold NcH;split
 ·exact h
 split
 ·exact h
 ·refine⟨fun h=>by have:=h.1;simp[sn0]at this,by simp[sn0],?_,by simp[sn0],by show(-1:Int)<nT;omega⟩;show t<0↔k=0;omega
theorem Niq{nT:Nat}(h0:∀ i,i<n→0≤th i∧th i<nT):∀ {j:Nat},j≤n→∀ o,Kept nT ((NcJ th ac ob wr sees j).1 o)
 |0,_,_=>Nki nT
 |j+1,hj,o=>by
   have ih:=Niq h0 (j:=j) Zaa;rw[NcJ];split
   ·split
    ·exact ih o
    ·simp only;split
     ·unfold Nh3;have ht:=h0 j Zaa;split
      ·exact Njd (ih o) ht.1 (Nes j)
      ·exact Nkh (ih o) ht.1 ht.2 (Nes j)
     ·exact ih o
   ·exact ih o
end
section
variable {l:List Int}{p:PV}{i fuel j:Nat}{cd:Cd}{st:St}{cfg:Cfg}
def plN(th:Nat→Int)(u:Int):Nat→List Nat
 |0=>[]
 |j+1=>if th j=u then plN th u j++[j]else plN th u j
theorem Nfc{th:Nat→Int}{u:Int}:∀ j,((plN th u j).length:Int)=cn th u j
 |0=>rfl
 |j+1=>by
   rw[plN,cn,←Nfc j];split
   ·rw[List.length_append,List.length_singleton];omega
   ·omega
theorem NiF{th:Nat→Int}{u:Int}:∀ {j m i:Nat},(plN th u j)[m]? = some i→i<j∧th i=u∧Nce th i=(m:Int)+1
 |0,m,i,h=>by simp[plN]at h
 |j+1,m,i,h=>by
   rw[plN]at h;split at h
   ·rename_i hu;by_cases hm:m<(plN th u j).length
    ·rw[List.getElem?_append_left hm]at h;have:=NiF h;exact⟨by omega,this.2⟩
    ·rw[List.getElem?_append_right Zaa]at h;have h0:m - (plN th u j).length=0:=by
      by_cases e:m - (plN th u j).length=0
      ·exact e
      ·rw[List.getElem?_eq_none Zah]at h;cases h
     rw[h0]at h;simp at h;subst h;refine⟨by omega,hu,?_⟩;unfold Nce;rw[hu,cn,if_pos hu,←Nfc j];omega
   ·have:=NiF h;exact⟨by omega,this.2⟩
theorem NpQ{th:Nat→Int}(hij:i<j):∃ m:Nat,Nce th i=(m:Int)+1∧(plN th (th i) j)[m]? = some i:=by
 have h1:=Nes (th:=th) i;have h2:Nce th i≤cn th (th i) j:=by unfold Nce;exact Ndi Zaa
 rw[←Nfc j]at h2;refine⟨(Nce th i - 1).toNat,by omega,?_⟩;have hlt:(Nce th i - 1).toNat<(plN th (th i) j).length:=by omega
 obtain⟨i',hi'⟩:∃ i',(plN th (th i) j)[(Nce th i - 1).toNat]? = some i':=⟨_,List.getElem?_eq_getElem hlt⟩;obtain⟨_,a2,a3⟩:=NiF hi';have:i'=i:=Niy a2 Zaa;rw[hi',this]
def NfQ(cd:Cd)(l:List Et)(j:Nat)(u k:Int):Bool :=
 decide (u<0)||decide (u=thL l j)||decide (k<1)||(decide (k≤(plN (thL l) u j).length)&&NmY 0 cd (l.take (j+1)) ((plN (thL l) u j).getD (k - 1).toNat 0:Nat) (j:Int))
theorem NhY{l:List Et}(h:i≤j):(l.take (j+1)).getD i etZ=l.getD i etZ:=by
 rw[List.getD_eq_getElem?_getD,List.getD_eq_getElem?_getD,List.getElem?_take_of_lt Zaa]
theorem Nln{l:List Et}(hj:j<l.length):AhE cd (l.take (j+1)) i j↔AhE cd l i j:=by
 have hT:∀ i,i≤j→thL (l.take (j+1)) i=thL l i:=fun i hi=>by unfold thL;rw[NhY hi]
 have hG:∀ i,i≤j→gvL cd (l.take (j+1)) i=gvL cd l i:=fun i hi=>by unfold gvL;rw[NhY hi]
 have hK:∀ i,i≤j→tkL cd (l.take (j+1)) i=tkL cd l i:=fun i hi=>by unfold tkL;rw[NhY hi]
 constructor
 ·intro h;refine h.congr (n:=j+1) (fun a b hab hb g=>⟨g.1,?_⟩) Zaa;have g2:=g.2;rwa[hT a Zaa,hT b Zaa,hG a Zaa,hK b Zaa]at g2
 ·intro h;refine h.congr (n:=j+1) (fun a b hab hb g=>⟨g.1,?_⟩) Zaa;have g2:=g.2;rwa[←hT a Zaa,←hT b Zaa,←hG a Zaa,←hK b Zaa]at g2
theorem epH{l:List Et}(hv:∀ e,e∈l→EtOK cd e)(ht:trV 0 cd l=true)(hl:l.length<1000):EpH (thL l) (NfQ cd l) (AhE cd l) l.length:=by
 refine⟨fun i _=>(Nde hv i).1,fun i j hij _ h=>.one ⟨hij,.inl h⟩,fun i j k a b=>a.trans b,fun j hj u k=>?_⟩;have ht':trV 0 cd (l.take (j+1))=true:=by
  unfold trV at ht ⊢;simp only[Bool.and_eq_true,List.all_eq_true]at ht ⊢;exact⟨ht.1,fun e he=>ht.2 e (List.mem_of_mem_take he)⟩
 have hb:∀ i:Nat,NmY 0 cd (l.take (j+1)) (i:Int) (j:Int)=true↔i<j∧AhE cd l i j:=fun i=>by
  rw[Nlr (fun e he=>hv e (List.mem_of_mem_take he)) ht' (by rw[List.length_take];omega)];simp only[Int.toNat_natCast,Nln hj,List.length_take];constructor
  ·rintro⟨_,a,_,b⟩;exact⟨by omega,b⟩
  ·rintro⟨a,b⟩;exact⟨by omega,by omega,by omega,b⟩
 unfold NfQ;simp only[Bool.or_eq_true,Bool.and_eq_true,decide_eq_true_eq,hb];constructor
 ·rintro(((h|h)|h)|⟨h1,h2,h3⟩)
  ·exact .inl h
  ·exact .inr (.inl h)
  ·exact .inr (.inr (.inl h))
  ·by_cases hk:k<1
   ·exact .inr (.inr (.inl hk))
   have hlt:(k - 1).toNat<(plN (thL l) u j).length:=(by omega);obtain⟨i,hi⟩:∃ i,(plN (thL l) u j)[(k - 1).toNat]? = some i:=⟨_,List.getElem?_eq_getElem hlt⟩;have hd:(plN (thL l) u j).getD (k - 1).toNat 0=i:=(by rw[List.getD_eq_getElem?_getD,hi];rfl);rw[hd]at h2 h3;obtain⟨a1,a2,a3⟩:=NiF hi;exact .inr (.inr (.inr ⟨i,a1,a2,by omega,h3⟩))
 ·rintro(h|h|h|⟨i,a1,a2,a3,a4⟩)
  ·exact .inl (.inl (.inl h))
  ·exact .inl (.inl (.inr h))
  ·exact .inl (.inr h)
  ·obtain⟨m,m1,m2⟩:=NpQ (th:=thL l) a1;rw[a2]at m2;have hm:=(List.getElem?_eq_some_iff.1 m2).1;have hk:(k - 1).toNat=m:=(by omega);refine .inr ⟨by omega,?_,?_⟩<;>rw[hk,List.getD_eq_getElem?_getD,m2]
   ·exact a1
   ·exact a4
abbrev NcA(cd:Cd)(l:List Et):=NcJ (thL l) (Nfr cd l) (jL l) (wrB l) (NfQ cd l)
theorem Nhx{l:List Et}(hv:∀ e,e∈l→EtOK cd e)(ht:trV 0 cd l=true)(hl:l.length<1000)(o:Int):(NcA cd l l.length).2 o=(Ngo cd l l.length o).map (·.2):=by
 have h:=NiI (ac:=Nfr cd l) (ob:=jL l) (wr:=wrB l) (rc:=rcB cd l) (epH hv ht hl) (fun i j hij hj=>NoB hv hl hij hj) o l.length (Nat.le_refl _);cases e:Ngo cd l l.length o with
 |none=>exact(h.1 e).1
 |some p=>exact h.2 p e
def NpV(cd:Cd)(l:List Et)(o:Nat):Option (Nat×Nat):=((NcA cd l l.length).2 (o:Int)).map fun a=>(o,a)
def NpU(cd:Cd)(l:List Et)(n:Nat):List (Nat×Nat):=(List.range n).filterMap (NpV cd l)
theorem NkW{l:List Et}(hv:∀ e,e∈l→EtOK cd e)(ht:trV 0 cd l=true)(hl:l.length<1000)(n:Nat):NpU cd l n=(Nhk cd l n).map fun r=>(r.1,r.2.2):=by
 unfold NpU Nhk;rw[List.map_filterMap]
 congr 1
 funext o;unfold NpV Noz;rw[Nhx hv ht hl];cases Ngo cd l l.length (o:Int)<;>rfl
theorem NrI{l:List Et}{k:Nat}(h:i<k):(l.take k).getD i etZ=l.getD i etZ:=by
 rw[List.getD_eq_getElem?_getD,List.getD_eq_getElem?_getD,List.getElem?_take_of_lt h]
structure CfgE(cfg:Cfg):Prop extends CfgA cfg where
 e1:cfg.ext 92=none
 e2:cfg.ext 24=none
 e3:cfg.ext 23=none
 e4:cfg.ext 33=none
 e5:cfg.ext 54=none
 e6:cfg.ext 55=none
 e7:cfg.ext 91=none
 e8:cfg.ext 59=none
 e9:cfg.ext 93=none
 f1:cfg.ext 57=none
 f2:cfg.ext 58=none
 f3:cfg.ext 34=none
 f4:cfg.ext 22=none
 f5:cfg.ext 13=none
 f6:cfg.ext 10=none
theorem NlC(l:List Int):clO (NaM l)=true:=by simp[clO,NaM,PV.leafB]
theorem Nmj(l:List Int):(NaM l).all PV.one=true:=by simp[NaM,PV.one]
theorem NdN(h:inNs p=some l):(p=.nsl∧l=[])∨(p=.fsl l.length (NaM l)∧l≠[]):=by
 unfold inNs at h;split at h
 ·simp only[Sj]at h;exact .inl ⟨rfl,h.symm⟩
 ·rename_i n cs;split at h
  ·rename_i l' hl;split at h
   ·rename_i hn;simp only[Sj]at h;subst h;rw[NeY hl,hn.1];exact .inr ⟨rfl,hn.2⟩
   ·cases h
  ·cases h
 ·cases h
def Ngb(l:List Int):PV:=if l=[]then .nsl else .osl 1 l.length (NaM l)
theorem Nkb(l:List Int):OutV (Ngb l) 1 l.length (NaM l):=by
 unfold Ngb;split
 ·rename_i h;rw[h];exact .inl ⟨rfl,rfl,rfl⟩
 ·exact .inr rfl
theorem NfB{v:PV}(h:Own st 1 v l.length (NaM l))(h0:l≠[]):NaX st v=some (Ngb l):=by
 unfold Ngb;rw[if_neg h0];rcases h with⟨_,h1,_⟩|⟨k,rfl,h1,h2,h3⟩
 ·exact absurd (List.eq_nil_of_length_eq_zero h1) h0
 have hw:Ndn? st (.rsl k 1 0 l.length)=some (k,1,l.length,NaM l):=by
  unfold Ndn?;simp only[h1];rw[if_pos ⟨trivial,h2,by omega⟩]
 unfold NaX;simp only[hw,NdR (NfH l),NbE (NfH l),List.contains_nil,Bool.false_eq_true,if_false,Option.map_some]
theorem NiX(st:St)(l:List Int):cellsOf st 1 (.fsl l.length (NaM l))=some (l.length,NaM l):=by
 unfold cellsOf;simp only[NaK,Nat.mul_one,if_true]
theorem NlD(hc:CfgE cfg)(hp:inNs p=some l)(hl:l.length<1000) :
 ∃ r st',NaI cfg (fuel+1) 24 [p] st=some (r,st')∧NaX st' r=some (Ngb l):=by
 refine NaB (hc.fn _ _ (by kernel_rfl):cfg.fn 24=some m24) ?_;delta m24 Qa Ql Qt Qm Qi;obtain⟨sto0,c0⟩:=st;simp only[Nal];rcases NdN hp with⟨rfl,rfl⟩|⟨rfl,h0⟩
 ·have hq:Nlh 0 false .nsl .nsl=some (.b true):=rfl
  iterate 4
   (try rw[Z0]);(try simp(disch:=first|omega|rfl|assumption)only[↓Yaa,Yab,Nae,Naa,rA,rB,rC,rD,reduceIte,unP,rE,hq])
  exact⟨nofun,_,rfl,by simp only[NaC,Yad,if_true];rfl⟩
 ·have hq:Nlh 0 false (.fsl l.length (NaM l)) .nsl=some (.b false):=by
   have hn:¬ l.length=0:=fun h=>h0 (List.eq_nil_of_length_eq_zero h);unfold Nlh NdP?;simp[hn]
  have hce:=fun st=>NiX st l;have hon:=Nmj l
  iterate 4
   (try rw[Z0]);(try simp(disch:=first|omega|rfl|assumption)only[↓Yaa,Yab,Nae,Naa,rA,rB,rC,rD,reduceIte,unP,rE,hq,hce,hon])
  refine Nch (cs:=[]) (.inr ⟨_,rfl,by exact Yaf _ _ _,rfl,by simp only[Z0L_];omega⟩:Own _ 1 (.rsl _ 1 0 0) 0 []) (by simp only[Z0L_];omega) (by simp[keyOf]) (by rw[NaK,Nat.mul_one]) Zaa (by unfold NaY;omega) ?_;intro v' st' hown hcnt hkey hj;rw[Nat.zero_add,Zal]at hown
  iterate 3
   (try rw[Z0]);(try simp(disch:=first|omega|rfl|assumption)only[↓Yaa,Yab,Nae,Naa,rA,rB,rC,rD,reduceIte,unP,rE])
  exact⟨nofun,_,rfl,by simp only[NaC,Yad,if_true];exact NfB hown h0⟩
theorem NkJ(hp:inNs p=some l)(r:List PV):NaS (p::r)=(p::r,{ sto:=.leaf,cnt:=1 }):=by
 rcases NdN hp with⟨rfl,rfl⟩|⟨rfl,h0⟩<;>rfl
theorem NjM(hc:CfgE cfg)(hp:inNs p=some l)(hl:l.length<1000):Nai cfg (NaI cfg (fuel+1)) 24 [p]=some (Ngb l):=by
 obtain⟨r,st',h1,h2⟩:=NlD (fuel:=fuel) (st:={ sto:=.leaf,cnt:=1 }) hc hp hl;exact NeL hc.e2 (NkJ hp []) ⟨r,st',h1,h2⟩
theorem NnH(hp:inNs p=some l):Go.Pe.deep st 12 p=some p:=by
 rcases NdN hp with⟨rfl,rfl⟩|⟨rfl,h0⟩<;>rfl
theorem NpS(hc:CfgE cfg){t k:Int}(hp:inNs p=some l)(hl:l.length<500)(h0:0≤t)(h1:t<100)(hfu:100≤fuel) :
 ∃ r st',NaI cfg (fuel+2) 92 [p,.i .i64 t,.i .i64 k] st=some (r,st')∧NaX st' r=some (Ngb (NcI l t.toNat k)):=by
 refine NaB (hc.fn _ _ (by kernel_rfl):cfg.fn 92=some m92) ?_;delta m92 Qa Ql Qt Qn Qm Qi;obtain⟨sto0,c0⟩:=st;simp only[Nal]
 iterate 2
  (try rw[Z0]);(try simp(disch:=first|omega|rfl|assumption)only[↓Yaa,Yab,Nae,Naa,rA,rB,rC,rD,reduceIte,unP,rE])
 refine NfW (Nbp (NnH hp)) (NjM hc hp Zaa) (Nkb l) (NlC l) (by rw[NaK,Nat.mul_one]) Zad ?_;intro v1 st1 ho1 hk1 hc1 hj1;obtain⟨sto1,c1⟩:=st1;simp only at hc1;subst hc1;(try rw[Z0]);(try simp(disch:=first|omega|rfl|assumption)only[↓Yaa,Yab,Nae,Naa,rA,rB,rC,rD,reduceIte,unP,rE]);refine NaF (fun x=>x.env.get 0=v1∧x.env.get 1=.i .i64 t∧x.env.get 2=.i .i64 k∧(Own x.st 1 v1 l.length (NaM l))) ?_ ?_
 ·exact⟨Zab,Zab,Zab,(ho1.move Zad fun _ _ _=>rfl)⟩
 rintro⟨env,⟨sto,c⟩⟩ ⟨g0,g1,g2,ho⟩;try simp only at g0 g1 g2 ho
 refine Z9 (k:=t.toNat+1 - l.length) (fun m x=>∃ (i:Nat) (v:PV),m=t.toNat+1 - l.length - i∧x.env.get 0=v∧x.env.get 1=.i .i64 t∧x.env.get 2=.i .i64 k∧(i≤t.toNat+1 - l.length)∧(Own x.st 1 v (l.length+i) (NaM (l++List.replicate i 0)))) ?_ ?_ Zaa
 ·clear g0 g1 g2 ho;rintro m ⟨env,⟨sto,c⟩⟩ ⟨i,v,rfl,g0,g1,g2,hi,ho⟩;try simp only at g0 g1 g2 ho
  have hov:=ho.len;by_cases hil:i<t.toNat+1 - l.length
  ·skip
   iterate 5
    (try rw[Z0]);(try simp(disch:=first|omega|rfl|assumption)only[↓Yaa,Yab,Nae,Naa,rA,rB,rC,rD,reduceIte,unP,rE,g0,g1,g2,hov,NaA])
   refine Nch (ho.move (by simp only[Z0L_];omega) fun j hj hlt=>by simp only at hlt;simp(disch:=omega)only[Nap,Naq];rfl) (by simp only[Z0L_];omega) (fun h=>by have:=ho.lt _ h;simp only at this;omega) rfl Zaa (by unfold NaY;omega) ?_;intro v' st' hown hcnt hkey hj;simp only[Z0L_]at hcnt
   iterate 3
    (try rw[Z0]);(try simp(disch:=first|omega|rfl|assumption)only[↓Yaa,Yab,Nae,Naa,rA,rB,rC,rD,reduceIte,unP,rE,g0,g1,g2])
   refine⟨t.toNat+1 - l.length - (i+1),by omega,i+1,v',rfl,rfl,by omega,?_⟩;rw[List.replicate_succ',←List.append_assoc,show NaM (l++List.replicate i 0++[0])=NaM (l++List.replicate i 0)++[.i .i64 0] by simp[NaM]];exact hown
  ·have hie:i=t.toNat+1 - l.length:=(by omega);subst hie;obtain⟨L,hL⟩:∃ L,l++List.replicate (t.toNat+1 - l.length) 0=L:=⟨_,rfl⟩;have hn:L.length=l.length+(t.toNat+1 - l.length):=(by rw[←hL,List.length_append,List.length_replicate]);rw[hL,←hn]at ho;rw[←hn]at hov;obtain⟨q,rfl,gq,lq,bq⟩:=ho.obj Zaa;simp only at bq;replace gq:∀ n',St.get ⟨sto,n'⟩ q=_:=fun _=>gq;have hil2:=NaK L;have hsp:(NaM L).take t.toNat++[.i .i64 k]++(NaM L).drop (t.toNat+1)=NaM (L.set t.toNat k):=by
    simp only[NaM,←List.map_take,←List.map_drop];rw[List.set_eq_take_append_cons_drop,if_pos Zaa];simp
   have hput:NcI l t.toNat k=L.set t.toNat k:=(by unfold NcI;rw[hL]);rw[hput]
   iterate 8
    (try rw[Z0]);(try simp(disch:=first|omega|rfl|assumption)only[↓Yaa,Yab,Nae,Naa,rA,rB,rC,rD,reduceIte,unP,rE,g0,g1,g2,gq,hil2,hsp,hov])
   refine⟨nofun,_,rfl,?_⟩;simp only[NaC,Yad,if_true];have hl3:(L.set t.toNat k).length=L.length:=List.length_set;rw[←hl3];exact NfB (.inr ⟨q,rfl,by exact Yaf _ _ _,by rw[NaK,Nat.mul_one],by simp only;omega⟩) (fun h=>by rw[h]at hl3;simp at hl3;omega)
 ·skip
  refine⟨0,v1,rfl,?_,?_,?_,?_,(by simpa using ho)⟩<;>first|with_reducible rfl|with_reducible assumption|(simp[Yad,g0,g1,g2]<;>omega)|assumption|rfl|omega|(simp only[Z0L_,Naw];omega)|(simp;omega)|(simp;done)
theorem NhU(hc:CfgE cfg){t k:Int}(hp:inNs p=some l)(hl:l.length<500)(h0:0≤t)(h1:t<100)(hfu:100≤fuel):Nai cfg (NaI cfg (fuel+2)) 92 [p,.i .i64 t,.i .i64 k]=some (Ngb (NcI l t.toNat k)):=by
 obtain⟨r,st',h1,h2⟩:=NpS (fuel:=fuel) (k:=k) (st:={ sto:=.leaf,cnt:=1 }) hc hp hl h0 h1 hfu;exact NeL hc.e1 (NkJ hp _) ⟨r,st',h1,h2⟩
end
end Go.Pe
