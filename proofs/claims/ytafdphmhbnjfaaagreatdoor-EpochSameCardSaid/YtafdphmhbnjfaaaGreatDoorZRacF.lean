/-
 Races: at, ahead, trace, Before, walked. No condition.
-/
import Derived.Test.YtafdphmhbnjfaaaGreatDoorZRacE
set_option linter.unusedVariables false
set_option linter.unusedSimpArgs false
set_option maxHeartbeats 4000000
open Nat renaming reduceAdd → rA,reduceMul → rB,reduceLT → rC,reduceEqDiff → rD,reduceLeDiff → rE
namespace Go.Pe
open Go Go.Am Go.RowKit
section
variable {cd:Cd}{l:List Et}{cfg:Cfg}{fuel n i:Nat}{st:St}{z:Bool}{a:List Int}{ck t:Int}{cs:List PV}
structure CfgA(cfg:Cfg):Prop extends CfgR cfg where
 a1:cfg.ext 28=none
 a2:cfg.ext 94=none
 a3:cfg.ext 14=none
theorem Npf{st0:St}(h:i<a.length):Nbk st0 1 (.fptr ((NaM a).drop (i * 1)))=some [.i .i64 (gi a i)]:=by
 show cut? _ 0 1=_;unfold cut?;rw[if_pos (by rw[List.length_drop,NaK];omega),List.drop_zero,Nat.mul_one,Nee h];have:i<(NaM a).length:=by rw[NaK];exact h
 rw[List.drop_eq_getElem_cons this];simp[NaM]
theorem Nq4(hc:CfgA cfg)(h0:0≤t)(hl:a.length<1000) :
 ∃ r st',NaI cfg (fuel+1) 49 [clP a,.i .i64 t] st=some (r,st')∧r=.i .i64 (aT a t):=by
 refine NaB (hc.fn _ _ (by kernel_rfl):cfg.fn 49=some m49) ?_;delta m49 Qa Qr Ql Qt Qm Qi Qo clP;have hil:=NaK a;obtain⟨R,hR⟩:∃ R,aT a t=R:=⟨_,rfl⟩;rw[hR];unfold aT at hR;rw[if_pos h0]at hR;simp only[Nal];by_cases h:t<(a.length:Int)
 ·have hc2:=fun st=>Npf (st0:=st) (a:=a) (i:=t.toNat) Zaa;have hc3:=fun st=>(Nat.mul_one t.toNat▸hc2 st:Nbk st 1 (.fptr ((NaM a).drop t.toNat))=_)
  iterate 4
   (try rw[Z0]);(try simp(disch:=first|omega|rfl|assumption)only[↓Yaa,Yab,Nae,Naa,rA,rB,rC,rD,reduceIte,unP,rE,hil,hc3])
  exact⟨nofun,_,rfl,by simp only[NaC,Yad,if_true];rw[hR]⟩
 ·rw[NdM Zaa]at hR;subst hR
  iterate 4
   (try rw[Z0]);(try simp(disch:=first|omega|rfl|assumption)only[↓Yaa,Yab,Nae,Naa,rA,rB,rC,rD,reduceIte,unP,rE,hil])
  exact⟨nofun,_,rfl,by simp only[NaC,Yad,if_true];rfl⟩
theorem No7(hc:CfgA cfg)(h0:0≤t)(hl:a.length<1000):Nai cfg (NaI cfg (fuel+1)) 49 [clP a,.i .i64 t]=some (.i .i64 (aT a t)) :=
 NaE hc.r6 rfl (fun _=>rfl) (Nq4 hc h0 hl)
theorem Nlo(hc:CfgA cfg){b:List Int}(h0:0≤t)(hl:a.length<1000)(hl2:b.length<1000) :
 ∃ r st',NaI cfg (fuel+2) 30 [clP a,.i .i64 t,clP b] st=some (r,st')∧r=.b (decide (aT a t≤aT b t)):=by
 refine NaB (hc.fn _ _ (by kernel_rfl):cfg.fn 30=some m30) ?_;delta m30 Qa Ql Qt Qm Qi;have g1:∀ (st:St) (key:Nat) (a:List Int),a.length<1000→Nas (Nai cfg (NaI cfg (fuel+1)) 49) false st key [clP a,.i .i64 t]=some (.i .i64 (aT a t),st):=fun st key a hl=>NaJ rfl (No7 hc h0 hl) rfl;have ga:=fun st key=>g1 st key a hl;have gb:=fun st key=>g1 st key b hl2;simp only[Nal]
 iterate 2
  (try rw[Z0]);(try simp(disch:=first|omega|rfl|assumption)only[↓Yaa,Yab,Nae,Naa,rA,rB,rC,rD,reduceIte,unP,rE,ga,gb])
 exact⟨nofun,_,rfl,by simp only[NaC,Yad,if_true]⟩
theorem Ngt(hc:CfgA cfg){b:List Int}(h0:0≤t)(hl:a.length<1000)(hl2:b.length<1000):Nai cfg (NaI cfg (fuel+2)) 30 [clP a,.i .i64 t,clP b]=some (.b (decide (aT a t≤aT b t))) :=
 NaE hc.r7 rfl (fun _=>rfl) (Nlo hc h0 hl hl2)
def etB(cd:Cd)(e:Et):Bool:=decide (0≤e.T)&&decide (e.T<cd.T.length)&&decide (0≤e.J)&&decide (e.J<cd.O.length)
def trV(ck:Int)(cd:Cd)(l:List Et):Bool:=(ck==0)&&l.all (etB cd)
theorem Nbt:Go.Pe.deep st 12 (.agg (Cd.cs cd))=some (.agg (Cd.cs cd)):=by
 unfold Cd.cs slV;split<;>split<;>rfl
theorem Ng4:NaS [.agg (Cd.cs cd)]=([.agg (Cd.cs cd)],{ sto:=.leaf,cnt:=1 }):=by
 unfold Cd.cs slV;split<;>split<;>rfl
theorem Ncq{v:PV}:NaS [.agg (Cd.cs cd),v]=([.agg (Cd.cs cd),v],{ sto:=.leaf,cnt:=1 }):=rfl
theorem Ndu:Go.Pe.deep st 12 (slV z n cs)=some (slV z n cs):=NmH st 11 z n cs
theorem NmP(hc:CfgA cfg)(hck:Nai cfg (NaI cfg fuel) 47 [.agg (Cd.cs cd)]=some (.i .i64 ck))(hl:l.length≤fuel)(hO:cd.O.length≤reachBytes)(hT:cd.T.length≤reachBytes)(hr:l.length≤reachBytes) :
 ∃ r st',NaI cfg (fuel+1) 28 [.agg (Cd.cs cd),slV z l.length (l.flatMap Et.cs)] st=some (r,st')∧r=.b (trV ck cd l):=by
 refine NaB (hc.fn _ _ (by kernel_rfl):cfg.fn 28=some m28) ?_;have gc:∀ (st:St) (key:Nat),Nas (Nai cfg (NaI cfg fuel) 47) false st key [.agg [slV cd.zo cd.O.length (cd.O.flatMap Dc.cs),slV cd.zt cd.T.length (cd.T.flatMap Tx.cs)]]=some (.i .i64 ck,st):=fun st key=>Na1 (Nbp Nbt) hck rfl rfl;delta m28 Qr Qg Ql Qt Qn Qs Qk Qm Qh Qi Qu Qv Qo Qw Cd.cs;have hrb:reachBytes<4611686018427387904:=by decide
 have hlv:=NaG z l.length (l.flatMap Et.cs);have lD:=NaG cd.zo cd.O.length (cd.O.flatMap Dc.cs);have lT:=NaG cd.zt cd.T.length (cd.T.flatMap Tx.cs);have hE:=NaH Et.cs_len l;obtain⟨R,hR⟩:∃ R,trV ck cd l=R:=⟨_,rfl⟩;rw[hR];unfold trV at hR;obtain⟨sto0,c0⟩:=st;simp only[Nal];by_cases h0:ck=0
 ·have b0:(ck != Int.ofNat 0)=false:=by rw[h0];rfl
  rw[h0]at hR;simp only[beq_self_eq_true,Bool.true_and]at hR
  iterate 3
   (try rw[Z0]);(try simp(disch:=first|omega|rfl|assumption)only[↓Yaa,Yab,Nae,Naa,rA,rB,rC,rD,reduceIte,unP,rE,Nag,Naf,gc,b0])
  refine NaF (fun x=>∃ (B:Nat),B<x.st.cnt∧x.env.get 1=slV z l.length (l.flatMap Et.cs)∧x.env.get 2=.ptr B 0∧x.st.get B=some (.cells [slV cd.zo cd.O.length (cd.O.flatMap Dc.cs),slV cd.zt cd.T.length (cd.T.flatMap Tx.cs)] false)) ?_ ?_
  ·refine⟨c0,?_,Zab,Zab,?_⟩<;>first|with_reducible rfl|with_reducible assumption|exact kB _|omega|(simp only[Z0L_,Naw];omega)|(simp only;omega)|(simp(disch:=omega)only[Nap,Naq,Yaf];first|done|with_reducible rfl|with_reducible assumption)
  rintro⟨env,⟨sto,c⟩⟩ ⟨B,bB,g1,g2,kB⟩;try simp only at bB g1 g2
  replace kB:∀ n',St.get ⟨sto,n'⟩ B=some (.cells [slV cd.zo cd.O.length (cd.O.flatMap Dc.cs),slV cd.zt cd.T.length (cd.T.flatMap Tx.cs)] false):=fun _=>kB
  iterate 2
   (try rw[Z0]);(try simp(disch:=first|omega|rfl|assumption)only[↓Yaa,Yab,Nae,Naa,rA,rB,rC,rD,reduceIte,unP,rE,g1,g2,kB,hlv])
  refine Z9 (k:=l.length - 0) (fun m x=>∃ (i:Nat),m=l.length - i∧x.env.get 2=.ptr B 0∧x.env.get 10=slV z l.length (l.flatMap Et.cs)∧x.env.get 11=.i .i64 (l.length:Int)∧x.env.get 12=.i .i64 (i:Int)∧x.st.get B=some (.cells [slV cd.zo cd.O.length (cd.O.flatMap Dc.cs),slV cd.zt cd.T.length (cd.T.flatMap Tx.cs)] false)∧B<x.st.cnt∧(i≤l.length)∧((l.drop i).all (etB cd)=R)) ?_ ?_ Zaa
  ·clear bB g1 g2 kB;rintro m ⟨env,⟨sto,c⟩⟩ ⟨i,rfl,g2,g10,g11,g12,kB,bB,hi,hob⟩;try simp only at g2 g10 g11 g12 bB
   replace kB:∀ n',St.get ⟨sto,n'⟩ B=some (.cells [slV cd.zo cd.O.length (cd.O.flatMap Dc.cs),slV cd.zt cd.T.length (cd.T.flatMap Tx.cs)] false):=fun _=>kB;by_cases hil:i<l.length
   ·rw[Nay hil]at g10;obtain⟨e,he⟩:∃ e,l[i]=e:=⟨_,rfl⟩;have hld:=fun st=>Ndl (st:=st) hil;simp only[he]at hld;rw[List.drop_eq_getElem_cons hil,he,List.all_cons]at hob;by_cases c1:e.T<0
    ·have hb:etB cd e=false:=(by unfold etB;simp;omega);rw[hb]at hob
     iterate 9
      (try rw[Z0]);(try simp(disch:=first|omega|rfl|assumption)only[↓Yaa,Yab,Nae,Naa,rA,rB,rC,rD,reduceIte,unP,rE,g2,g10,g11,g12,kB,hld,hE,lD,lT])
     exact⟨nofun,_,rfl,by simp only[NaC,Yad,if_true];rw[←hob];rfl⟩
    by_cases c2:(cd.T.length:Int)≤e.T
    ·have hb:etB cd e=false:=(by unfold etB;simp;omega);rw[hb]at hob
     iterate 9
      (try rw[Z0]);(try simp(disch:=first|omega|rfl|assumption)only[↓Yaa,Yab,Nae,Naa,rA,rB,rC,rD,reduceIte,unP,rE,g2,g10,g11,g12,kB,hld,hE,lD,lT])
     exact⟨nofun,_,rfl,by simp only[NaC,Yad,if_true];rw[←hob];rfl⟩
    by_cases c3:e.J<0
    ·have hb:etB cd e=false:=(by unfold etB;simp;omega);rw[hb]at hob
     iterate 9
      (try rw[Z0]);(try simp(disch:=first|omega|rfl|assumption)only[↓Yaa,Yab,Nae,Naa,rA,rB,rC,rD,reduceIte,unP,rE,g2,g10,g11,g12,kB,hld,hE,lD,lT])
     exact⟨nofun,_,rfl,by simp only[NaC,Yad,if_true];rw[←hob];rfl⟩
    by_cases c4:(cd.O.length:Int)≤e.J
    ·have hb:etB cd e=false:=(by unfold etB;simp;omega);rw[hb]at hob
     iterate 9
      (try rw[Z0]);(try simp(disch:=first|omega|rfl|assumption)only[↓Yaa,Yab,Nae,Naa,rA,rB,rC,rD,reduceIte,unP,rE,g2,g10,g11,g12,kB,hld,hE,lD,lT])
     exact⟨nofun,_,rfl,by simp only[NaC,Yad,if_true];rw[←hob];rfl⟩
    have hb:etB cd e=true:=(by unfold etB;simp;omega);rw[hb,Bool.true_and]at hob
    iterate 9
     (try rw[Z0]);(try simp(disch:=first|omega|rfl|assumption)only[↓Yaa,Yab,Nae,Naa,rA,rB,rC,rD,reduceIte,unP,rE,g2,g10,g11,g12,kB,hld,hE,lD,lT])
    exact⟨l.length - (i+1),by omega,i+1,rfl,(Nay hil).symm,rfl,by omega,hob⟩
   ·have h0:l.drop i=[]:=List.drop_of_length_le Zaa;rw[h0]at hob
    iterate 5
     (try rw[Z0]);(try simp(disch:=first|omega|rfl|assumption)only[↓Yaa,Yab,Nae,Naa,rA,rB,rC,rD,reduceIte,unP,rE,g2,g10,g11,g12,kB])
    exact⟨nofun,_,rfl,by simp only[NaC,Yad,if_true];rw[←hob];rfl⟩
  ·skip
   refine⟨0,rfl,?_,(by simp[Yad,g1]),Zaf,Zaf,?_,?_,?_,(by rw[List.drop_zero];exact hR)⟩<;>first|with_reducible rfl|with_reducible assumption|exact kB _|(simp[Yad,g1,g2]<;>omega)|(simp(disch:=omega)only[Nap,Naq,Yaf,kB];first|done|with_reducible rfl|with_reducible assumption)|omega|(simp only[Z0L_,Naw];omega)|(simp only;omega)|assumption|rfl|(simp;omega)|(simp;done)
 ·have b0:(ck != Int.ofNat 0)=true:=by simpa using h0
  have:(ck==0)=false:=by simpa using h0
  rw[this]at hR
  iterate 4
   (try rw[Z0]);(try simp(disch:=first|omega|rfl|assumption)only[↓Yaa,Yab,Nae,Naa,rA,rB,rC,rD,reduceIte,unP,rE,Nag,Naf,gc,b0])
  exact⟨nofun,_,rfl,by simp only[NaC,Yad,if_true];rw[←hR];rfl⟩
theorem Nhg(hc:CfgA cfg)(hck:Nai cfg (NaI cfg fuel) 47 [.agg (Cd.cs cd)]=some (.i .i64 ck))(hl:l.length≤fuel)(hO:cd.O.length≤reachBytes)(hT:cd.T.length≤reachBytes)(hr:l.length≤reachBytes) :
 Nai cfg (NaI cfg (fuel+1)) 28 [.agg (Cd.cs cd),slV z l.length (l.flatMap Et.cs)]=some (.b (trV ck cd l)) :=
 NaE hc.a1 Ncq (fun _=>rfl) (NmP hc hck hl hO hT hr)
theorem NjH{g:List PV→Option PV}{key sz:Nat}{ps ps':List PV}(hd:Nbg st ps=some ps')(hk:keysL st ps=[])(hg:g ps'=some (.osl sz n cs)):Nas g false st key ps=some (.rsl key sz 0 n,st.put key (some (.cells cs false))):=by
 unfold Nas;simp only[hd,hg,hk,Na0,ite_self,NaQ]
theorem Nkj:keysL st [.agg (Cd.cs cd),slV z n cs]=[]:=by
 unfold Cd.cs slV;split<;>split<;>split<;>rfl
theorem NfA(hc:CfgA cfg)(hv:∀ e,e∈l→EtOK cd e)(hl:l.length<1000)(hfu:l.length+6≤fuel) :
 Nai cfg (NaI cfg (fuel+5)) 29 [.agg (Cd.cs cd),slV z l.length (l.flatMap Et.cs)]=some (NnC (Nbo cd l l.length)):=by
 obtain⟨r,st',h1,h2⟩:=NjL (st:={ sto:=.leaf,cnt:=1 }) hc.toCfgR (z:=z) hv hl hfu;exact NeL hc.r8 Ncq ⟨r,st',h1,h2⟩
theorem NeD(hc:CfgA cfg)(hv:∀ e,e∈l→EtOK cd e)(hl:l.length<1000)(hfu:l.length+6≤fuel)(h0:0<l.length)(st:St)(key:Nat) :
 Nas (Nai cfg (NaI cfg (fuel+5)) 29) false st key [.agg [slV cd.zo cd.O.length (cd.O.flatMap Dc.cs),slV cd.zt cd.T.length (cd.T.flatMap Tx.cs)],slV z l.length (l.flatMap Et.cs)]=some (.rsl key 1 0 l.length,st.put key (some (.cells ((Nbo cd l l.length).map clP) false))):=by
 have hne:Nbo cd l l.length≠[]:=by
  intro e;have:(Nbo cd l l.length).length=l.length:=by simp[Nbo]
  rw[e]at this;simp at this;omega
 have hr:=NfA hc (z:=z) hv hl hfu;unfold NnC at hr;rw[if_neg hne]at hr;have hlen:(Nbo cd l l.length).length=l.length:=by simp[Nbo]
 rw[hlen]at hr;exact NjH (Na5 Nbt Ndu) Nkj hr
theorem Nfk:∀ {l:List Ch}{n:List Int}{C:Ch→List Int},NaV n=true→(∀ q,NaV (C q)=true)→∀ q,NaV (Ncd l n C q)=true
 |[],n,C,_,h,q=>h q
 |k::r,n,C,hn,h,q=>by
   rw[Ncd];refine Nfk hn (fun p=>?_) q;unfold NkR;split
   ·exact Nc7 (h k) hn
   ·exact h p
theorem Nde(hv:∀ e,e∈l→EtOK cd e)(i:Nat):0≤thL l i∧thL l i≤63:=by
 unfold thL;by_cases h:i<l.length
 ·have e:l.getD i etZ=l[i]:=by rw[List.getD_eq_getElem?_getD,List.getElem?_eq_getElem h];rfl
  rw[e];exact⟨(hv _ (List.getElem_mem h)).t0,(hv _ (List.getElem_mem h)).t1⟩
 ·have e:l.getD i etZ=etZ:=by rw[List.getD_eq_getElem?_getD,List.getElem?_eq_none Zaa];rfl
  rw[e];exact⟨by decide,by decide⟩
theorem Nfj{cd:Cd}{l:List Et}(hv:∀ e,e∈l→EtOK cd e):∀ j,(∀ u,NaV ((Nfh (thL l) (gvL cd l) (tkL cd l) j).T u)=true)∧∀ q,NaV ((Nfh (thL l) (gvL cd l) (tkL cd l) j).C q)=true
 |0=>⟨fun _=>rfl,fun _=>rfl⟩
 |j+1=>by
   obtain⟨h1,h2⟩:=Nfj hv j;have hn:NaV (Na4 (Nfh (thL l) (gvL cd l) (tkL cd l) j).C (tkL cd l j) (Nb1 ((Nfh (thL l) (gvL cd l) (tkL cd l) j).T (thL l j)) (thL l j)))=true:=Nip (Nc8 (h1 _) (Nde hv j).1 (Nde hv j).2) h2;refine⟨fun u=>?_,Nfk hn h2⟩;show NaV (NhT _ _ _ u)=true;unfold NhT;split
   ·exact hn
   ·exact h1 u
theorem Nm0(hv:∀ e,e∈l→EtOK cd e)(i:Nat):NaV (Ndh cd l i)=true :=
 Nip (Nc8 ((Nfj hv i).1 _) (Nde hv i).1 (Nde hv i).2) (Nfj hv i).2
theorem Ndr(hv:∀ e,e∈l→EtOK cd e)(i:Nat):(Ndh cd l i).length<1000:=(NcB (Nm0 hv i)).1
def NmY(ck:Int)(cd:Cd)(l:List Et)(i j:Int):Bool:=trV ck cd l&&decide (0≤i)&&decide (i<j)&&decide (j<l.length)&&decide (aT (Ndh cd l i.toNat) (thL l i.toNat)≤aT (Ndh cd l j.toNat) (thL l i.toNat))
theorem NiQ(h:trV ck cd l=true)(h16:cd.T.length≤64):∀ e,e∈l→EtOK cd e:=by
 intro e he;unfold trV at h;simp only[Bool.and_eq_true,List.all_eq_true]at h;have:=h.2 e he;unfold etB at this;simp only[Bool.and_eq_true,decide_eq_true_eq]at this;exact⟨by omega,by omega,by omega,by omega⟩
theorem Nf1(h:i<n):List.take 1 (List.drop i ((Nbo cd l n).map clP))=[clP (Ndh cd l i)]:=by
 have hl:i<((Nbo cd l n).map clP).length:=by simp[Nbo,h]
 rw[List.drop_eq_getElem_cons hl];simp[Nbo]
theorem NbV{α:Type}{f:α→List PV}{w:Nat}(hw:∀ a,(f a).length=w):∀ {l:List α}{i:Nat}(h:i<l.length),(l.flatMap f).drop (i * w)=f l[i]++(l.flatMap f).drop ((i+1) * w)
 |[],i,h=>by simp at h
 |a::r,0,_=>by
   rw[List.flatMap_cons,Nat.zero_mul,List.drop_zero,Nat.zero_add,Nat.one_mul,List.drop_left' (hw a)];rfl
 |a::r,i+1,h=>by
   have e:∀ k,(f a++r.flatMap f).drop ((k+1) * w)=(r.flatMap f).drop (k * w):=fun k=>by
    rw[show(k+1) * w=w+k * w by rw[Nat.add_mul];omega,←List.drop_drop,List.drop_left' (hw a)]
   rw[List.flatMap_cons,e,e,NbV hw (l:=r) (i:=i) (by simpa using h)];rfl
theorem Nir(h:i<l.length):Nbk st 1 (.fptr ((l.flatMap Et.cs).drop (i * 5)))=some [.i .i64 l[i].T]:=by
 rw[NbV Et.cs_len h];show cut? _ 0 1=_;unfold cut?;rw[if_pos (by simp[Et.cs])];rfl
theorem NjD(hc:CfgA cfg){i j:Int}(hck:Nai cfg (NaI cfg (fuel+5)) 47 [.agg (Cd.cs cd)]=some (.i .i64 ck))(hl:l.length+6≤fuel)(hl2:l.length<1000)(hO:cd.O.length≤reachBytes)(hT:cd.T.length≤reachBytes)(h16:ck=0→cd.T.length≤64) :
 ∃ r st',NaI cfg (fuel+7) 94 [.agg (Cd.cs cd),slV z l.length (l.flatMap Et.cs),.i .i64 i,.i .i64 j] st=some (r,st')∧r=.b (NmY ck cd l i j):=by
 refine NaB (hc.fn _ _ (by kernel_rfl):cfg.fn 94=some m94) ?_;have hrb:reachBytes=140737488351232:=rfl;have gt:∀ (st:St) (key:Nat),Nas (Nai cfg (NaI cfg (fuel+6)) 28) false st key [.agg [slV cd.zo cd.O.length (cd.O.flatMap Dc.cs),slV cd.zt cd.T.length (cd.T.flatMap Tx.cs)],slV z l.length (l.flatMap Et.cs)]=some (.b (trV ck cd l),st):=fun st key=>Na1 (Na5 Nbt Ndu) (Nhg hc hck Zaa hO hT Zaa) rfl rfl;delta m94 Qa Qr Qf Ql Qt Qs Qk Qm Qh Qi Qw Cd.cs;have hlv:=NaG z l.length (l.flatMap Et.cs);have hE:=NaH Et.cs_len l;obtain⟨R,hR⟩:∃ R,NmY ck cd l i j=R:=⟨_,rfl⟩;rw[hR];unfold NmY at hR;obtain⟨sto0,c0⟩:=st;simp only[Nal];by_cases ht:trV ck cd l=true
 ·rw[ht]at gt hR;simp only[Bool.true_and]at hR;have hck0:ck=0:=by
   unfold trV at ht;simp only[Bool.and_eq_true,beq_iff_eq]at ht;exact ht.1
  have hok:=NiQ ht (h16 hck0);by_cases hi:i<0
  ·rw[decide_eq_false (show ¬ 0≤i by omega)]at hR
   iterate 4
    (try rw[Z0]);(try simp(disch:=first|omega|rfl|assumption)only[↓Yaa,Yab,Nae,Naa,rA,rB,rC,rD,reduceIte,unP,rE,Nag,Naf,gt,hlv])
   exact⟨nofun,_,rfl,by simp only[NaC,Yad,if_true];rw[←hR];rfl⟩
  by_cases hij:j≤i
  ·rw[decide_eq_false (show ¬ i<j by omega),Bool.and_false]at hR
   iterate 4
    (try rw[Z0]);(try simp(disch:=first|omega|rfl|assumption)only[↓Yaa,Yab,Nae,Naa,rA,rB,rC,rD,reduceIte,unP,rE,Nag,Naf,gt,hlv])
   exact⟨nofun,_,rfl,by simp only[NaC,Yad,if_true];rw[←hR];rfl⟩
  by_cases hj:(l.length:Int)≤j
  ·rw[decide_eq_false (show ¬ j<(l.length:Int) by omega),Bool.and_false]at hR
   iterate 4
    (try rw[Z0]);(try simp(disch:=first|omega|rfl|assumption)only[↓Yaa,Yab,Nae,Naa,rA,rB,rC,rD,reduceIte,unP,rE,Nag,Naf,gt,hlv])
   exact⟨nofun,_,rfl,by simp only[NaC,Yad,if_true];rw[←hR];rfl⟩
  rw[decide_eq_true (show 0≤i by omega),decide_eq_true (show i<j by omega),decide_eq_true (show j<(l.length:Int) by omega)]at hR;simp only[Bool.true_and]at hR;have gk:∀ (st:St) (key:Nat),Nas (Nai cfg (NaI cfg (fuel+6)) 29) false st key [.agg [slV cd.zo cd.O.length (cd.O.flatMap Dc.cs),slV cd.zt cd.T.length (cd.T.flatMap Tx.cs)],slV z l.length (l.flatMap Et.cs)]=_:=NeD hc (z:=z) (fuel:=fuel+1) hok hl2 Zaa Zaa;have hz:=Nay (z:=z) (cs:=l.flatMap Et.cs) (show i.toNat<l.length by omega);have hlT:=fun st=>Nir (st:=st) (show i.toNat<l.length by omega);have hti:l[i.toNat].T=thL l i.toNat:=by unfold thL;rw[List.getD_eq_getElem?_getD,List.getElem?_eq_getElem (show i.toNat<l.length by omega)];rfl
  rw[hti]at hlT;have ki:=Nf1 (cd:=cd) (l:=l) (n:=l.length) (i:=i.toNat) Zaa;have kj:=Nf1 (cd:=cd) (l:=l) (n:=l.length) (i:=j.toNat) Zaa;have kl:((Nbo cd l l.length).map clP).length=l.length:=by simp[Nbo]
  have ga:Nai cfg (NaI cfg (fuel+6)) 30 [clP (Ndh cd l i.toNat),.i .i64 (thL l i.toNat),clP (Ndh cd l j.toNat)]=some (.b (decide (aT (Ndh cd l i.toNat) (thL l i.toNat)≤aT (Ndh cd l j.toNat) (thL l i.toNat)))):=Ngt (fuel:=fuel+4) hc (Nde hok _).1 (Ndr hok _) (Ndr hok _);rw[hz]at gt gk hlv ⊢
  iterate 3
   (try rw[Z0]);(try simp(disch:=first|omega|rfl|assumption)only[↓Yaa,Yab,Nae,Naa,rA,rB,rC,rD,reduceIte,unP,rE,Nag,Naf,gt,hlv,gk])
  iterate 3
   (try rw[Z0]);(try simp(disch:=first|omega|rfl|assumption)only[↓Yaa,Yab,Nae,Naa,rA,rB,rC,rD,reduceIte,unP,rE,gk,Nag,Naf,ki,kj,kl,hE,hlT,ga])
  refine Nbz (NbE rfl) ga rfl rfl ?_
  iterate 3
   (try rw[Z0]);(try simp(disch:=first|omega|rfl|assumption)only[↓Yaa,Yab,Nae,Naa,rA,rB,rC,rD,reduceIte,unP,rE])
  exact⟨nofun,_,rfl,by simp only[NaC,Yad,if_true];rw[←hR]⟩
 ·have hf:trV ck cd l=false:=by simpa using ht
  rw[hf]at gt hR
  iterate 4
   (try rw[Z0]);(try simp(disch:=first|omega|rfl|assumption)only[↓Yaa,Yab,Nae,Naa,rA,rB,rC,rD,reduceIte,unP,rE,Nag,Naf,gt,hlv])
  exact⟨nofun,_,rfl,by simp only[NaC,Yad,if_true];rw[←hR];rfl⟩
theorem NiU(hc:CfgA cfg){i j:Int}(hck:Nai cfg (NaI cfg (fuel+5)) 47 [.agg (Cd.cs cd)]=some (.i .i64 ck))(hl:l.length+6≤fuel)(hl2:l.length<1000)(hO:cd.O.length≤reachBytes)(hT:cd.T.length≤reachBytes)(h16:ck=0→cd.T.length≤64) :
 Nai cfg (NaI cfg (fuel+7)) 94 [.agg (Cd.cs cd),slV z l.length (l.flatMap Et.cs),.i .i64 i,.i .i64 j]=some (.b (NmY ck cd l i j)) :=
 NaE hc.a2 rfl (fun _=>rfl) (NjD hc hck hl hl2 hO hT h16)
end
end Go.Pe
