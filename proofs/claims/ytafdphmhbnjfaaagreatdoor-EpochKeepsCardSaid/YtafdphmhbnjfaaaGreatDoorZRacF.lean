/-
 Races: at, ahead, trace, Before, walked. No condition.
-/
import Derived.Test.YtafdphmhbnjfaaaGreatDoorZRacE
set_option linter.unusedVariables false
set_option linter.unusedSimpArgs false
set_option maxHeartbeats 4000000
open Nat renaming reduceAdd → rA,reduceMul → rB,reduceLT → rC,reduceEqDiff → rD,reduceLeDiff → rE
namespace Go.Pe
open Go Go.Am Go.RowKit
section
variable {cd:Cd}{l:List Et}{cfg:Cfg}{fuel n i:Nat}{st:St}{z:Bool}{a:List Int}{ck t:Int}{cs:List PV}
structure CfgA(cfg:Cfg):Prop extends CfgR cfg where
 a1:cfg.ext 28=none
 a2:cfg.ext 94=none
 a3:cfg.ext 14=none
theorem NmJ{st0:St}(h:i<a.length):Nbh st0 1 (.fptr ((NaI a).drop (i * 1)))=some [.i .i64 (gi a i)]:=by
 show cut? _ 0 1=_;unfold cut?;rw[if_pos (by rw[List.length_drop,NaH];omega),List.drop_zero,Nat.mul_one,Nea h];have:i<(NaI a).length:=by rw[NaH];exact h
 rw[List.drop_eq_getElem_cons this];simp[NaI]
theorem NqL(hc:CfgA cfg)(h0:0≤t)(hl:a.length<1000) :
 ∃ r st',NaK cfg (fuel+1) 49 [clP a,.i .i64 t] st=some (r,st')∧r=.i .i64 (aT a t):=by
 refine NaB (hc.fn _ _ (by kernel_rfl):cfg.fn 49=some m49) ?_;delta m49 Qa Qr Ql Qt Qm Qi Qo clP;have hil:=NaH a;obtain⟨R,hR⟩:∃ R,aT a t=R:=⟨_,rfl⟩;rw[hR];unfold aT at hR;rw[if_pos h0]at hR;simp only[Nao];by_cases h:t<(a.length:Int)
 ·have hc2:=fun st=>NmJ (st0:=st) (a:=a) (i:=t.toNat) Zaa;have hc3:=fun st=>(Nat.mul_one t.toNat▸hc2 st:Nbh st 1 (.fptr ((NaI a).drop t.toNat))=_)
  iterate 4
   (try rw[Z0]);(try simp(disch:=first|omega|rfl|assumption)only[↓Yaa,Yab,Nae,Naa,rA,rB,rC,rD,reduceIte,unP,rE,hil,hc3])
  exact⟨nofun,_,rfl,by simp only[NaF,Yad,if_true];rw[hR]⟩
 ·rw[NdF Zaa]at hR;subst hR
  iterate 4
   (try rw[Z0]);(try simp(disch:=first|omega|rfl|assumption)only[↓Yaa,Yab,Nae,Naa,rA,rB,rC,rD,reduceIte,unP,rE,hil])
  exact⟨nofun,_,rfl,by simp only[NaF,Yad,if_true];rfl⟩
theorem NoS(hc:CfgA cfg)(h0:0≤t)(hl:a.length<1000):Nai cfg (NaK cfg (fuel+1)) 49 [clP a,.i .i64 t]=some (.i .i64 (aT a t)) :=
 NaE hc.r6 rfl (fun _=>rfl) (NqL hc h0 hl)
theorem Nk8(hc:CfgA cfg){b:List Int}(h0:0≤t)(hl:a.length<1000)(hl2:b.length<1000) :
 ∃ r st',NaK cfg (fuel+2) 30 [clP a,.i .i64 t,clP b] st=some (r,st')∧r=.b (decide (aT a t≤aT b t)):=by
 refine NaB (hc.fn _ _ (by kernel_rfl):cfg.fn 30=some m30) ?_;delta m30 Qa Ql Qt Qm Qi;have g1:∀ (st:St) (key:Nat) (a:List Int),a.length<1000→Naq (Nai cfg (NaK cfg (fuel+1)) 49) false st key [clP a,.i .i64 t]=some (.i .i64 (aT a t),st):=fun st key a hl=>NaG rfl (NoS hc h0 hl) rfl;have ga:=fun st key=>g1 st key a hl;have gb:=fun st key=>g1 st key b hl2;simp only[Nao]
 iterate 2
  (try rw[Z0]);(try simp(disch:=first|omega|rfl|assumption)only[↓Yaa,Yab,Nae,Naa,rA,rB,rC,rD,reduceIte,unP,rE,ga,gb])
 exact⟨nofun,_,rfl,by simp only[NaF,Yad,if_true]⟩
theorem Njo(hc:CfgA cfg){b:List Int}(h0:0≤t)(hl:a.length<1000)(hl2:b.length<1000):Nai cfg (NaK cfg (fuel+2)) 30 [clP a,.i .i64 t,clP b]=some (.b (decide (aT a t≤aT b t))) :=
 NaE hc.r7 rfl (fun _=>rfl) (Nk8 hc h0 hl hl2)
def etB(cd:Cd)(e:Et):Bool:=decide (0≤e.T)&&decide (e.T<cd.T.length)&&decide (0≤e.J)&&decide (e.J<cd.O.length)
def trV(ck:Int)(cd:Cd)(l:List Et):Bool:=(ck==0)&&l.all (etB cd)
theorem Nbu:Go.Pe.deep st 12 (.agg (Cd.cs cd))=some (.agg (Cd.cs cd)):=by
 unfold Cd.cs slV;split<;>split<;>rfl
theorem Ng6:NaS [.agg (Cd.cs cd)]=([.agg (Cd.cs cd)],{ sto:=.leaf,cnt:=1 }):=by
 unfold Cd.cs slV;split<;>split<;>rfl
theorem Nco{v:PV}:NaS [.agg (Cd.cs cd),v]=([.agg (Cd.cs cd),v],{ sto:=.leaf,cnt:=1 }):=rfl
theorem Nf4:Go.Pe.deep st 12 (slV z n cs)=some (slV z n cs):=Nmq st 11 z n cs
theorem Nmy(hc:CfgA cfg)(hck:Nai cfg (NaK cfg fuel) 47 [.agg (Cd.cs cd)]=some (.i .i64 ck))(hl:l.length≤fuel)(hO:cd.O.length≤reachBytes)(hT:cd.T.length≤reachBytes)(hr:l.length≤reachBytes) :
 ∃ r st',NaK cfg (fuel+1) 28 [.agg (Cd.cs cd),slV z l.length (l.flatMap Et.cs)] st=some (r,st')∧r=.b (trV ck cd l):=by
 refine NaB (hc.fn _ _ (by kernel_rfl):cfg.fn 28=some m28) ?_;have gc:∀ (st:St) (key:Nat),Naq (Nai cfg (NaK cfg fuel) 47) false st key [.agg [slV cd.zo cd.O.length (cd.O.flatMap Dc.cs),slV cd.zt cd.T.length (cd.T.flatMap Tx.cs)]]=some (.i .i64 ck,st):=fun st key=>NaT (Nbf Nbu) hck rfl rfl;delta m28 Qr Qg Ql Qt Qn Qs Qk Qm Qh Qi Qu Qv Qo Qw Cd.cs;have hrb:reachBytes<4611686018427387904:=by decide
 have hlv:=NaC z l.length (l.flatMap Et.cs);have lD:=NaC cd.zo cd.O.length (cd.O.flatMap Dc.cs);have lT:=NaC cd.zt cd.T.length (cd.T.flatMap Tx.cs);have hE:=NaM Et.cs_len l;obtain⟨R,hR⟩:∃ R,trV ck cd l=R:=⟨_,rfl⟩;rw[hR];unfold trV at hR;obtain⟨sto0,c0⟩:=st;simp only[Nao];by_cases h0:ck=0
 ·have b0:(ck != Int.ofNat 0)=false:=by rw[h0];rfl
  rw[h0]at hR;simp only[beq_self_eq_true,Bool.true_and]at hR
  iterate 3
   (try rw[Z0]);(try simp(disch:=first|omega|rfl|assumption)only[↓Yaa,Yab,Nae,Naa,rA,rB,rC,rD,reduceIte,unP,rE,Nag,Naf,gc,b0])
  refine NaJ (fun x=>∃ (B:Nat),B<x.st.cnt∧x.env.get 1=slV z l.length (l.flatMap Et.cs)∧x.env.get 2=.ptr B 0∧x.st.get B=some (.cells [slV cd.zo cd.O.length (cd.O.flatMap Dc.cs),slV cd.zt cd.T.length (cd.T.flatMap Tx.cs)] false)) ?_ ?_
  ·refine⟨c0,?_,Zab,Zab,?_⟩<;>first|with_reducible rfl|with_reducible assumption|exact kB _|omega|(simp only[Z0L_,Nax];omega)|(simp only;omega)|(simp(disch:=omega)only[Nar,Nas,Yaf];first|done|with_reducible rfl|with_reducible assumption)
  rintro⟨env,⟨sto,c⟩⟩ ⟨B,bB,g1,g2,kB⟩;try simp only at bB g1 g2
  replace kB:∀ n',St.get ⟨sto,n'⟩ B=some (.cells [slV cd.zo cd.O.length (cd.O.flatMap Dc.cs),slV cd.zt cd.T.length (cd.T.flatMap Tx.cs)] false):=fun _=>kB
  iterate 2
   (try rw[Z0]);(try simp(disch:=first|omega|rfl|assumption)only[↓Yaa,Yab,Nae,Naa,rA,rB,rC,rD,reduceIte,unP,rE,g1,g2,kB,hlv])
  refine Z9 (k:=l.length - 0) (fun m x=>∃ (i:Nat),m=l.length - i∧x.env.get 2=.ptr B 0∧x.env.get 10=slV z l.length (l.flatMap Et.cs)∧x.env.get 11=.i .i64 (l.length:Int)∧x.env.get 12=.i .i64 (i:Int)∧x.st.get B=some (.cells [slV cd.zo cd.O.length (cd.O.flatMap Dc.cs),slV cd.zt cd.T.length (cd.T.flatMap Tx.cs)] false)∧B<x.st.cnt∧(i≤l.length)∧((l.drop i).all (etB cd)=R)) ?_ ?_ Zaa
  ·clear bB g1 g2 kB;rintro m ⟨env,⟨sto,c⟩⟩ ⟨i,rfl,g2,g10,g11,g12,kB,bB,hi,hob⟩;try simp only at g2 g10 g11 g12 bB
   replace kB:∀ n',St.get ⟨sto,n'⟩ B=some (.cells [slV cd.zo cd.O.length (cd.O.flatMap Dc.cs),slV cd.zt cd.T.length (cd.T.flatMap Tx.cs)] false):=fun _=>kB;by_cases hil:i<l.length
   ·rw[NaD hil]at g10;obtain⟨e,he⟩:∃ e,l[i]=e:=⟨_,rfl⟩;have hld:=fun st=>NdL (st:=st) hil;simp only[he]at hld;rw[List.drop_eq_getElem_cons hil,he,List.all_cons]at hob;by_cases c1:e.T<0
    ·have hb:etB cd e=false:=(by unfold etB;simp;omega);rw[hb]at hob
     iterate 9
      (try rw[Z0]);(try simp(disch:=first|omega|rfl|assumption)only[↓Yaa,Yab,Nae,Naa,rA,rB,rC,rD,reduceIte,unP,rE,g2,g10,g11,g12,kB,hld,hE,lD,lT])
     exact⟨nofun,_,rfl,by simp only[NaF,Yad,if_true];rw[←hob];rfl⟩
    by_cases c2:(cd.T.length:Int)≤e.T
    ·have hb:etB cd e=false:=(by unfold etB;simp;omega);rw[hb]at hob
     iterate 9
      (try rw[Z0]);(try simp(disch:=first|omega|rfl|assumption)only[↓Yaa,Yab,Nae,Naa,rA,rB,rC,rD,reduceIte,unP,rE,g2,g10,g11,g12,kB,hld,hE,lD,lT])
     exact⟨nofun,_,rfl,by simp only[NaF,Yad,if_true];rw[←hob];rfl⟩
    by_cases c3:e.J<0
    ·have hb:etB cd e=false:=(by unfold etB;simp;omega);rw[hb]at hob
     iterate 9
      (try rw[Z0]);(try simp(disch:=first|omega|rfl|assumption)only[↓Yaa,Yab,Nae,Naa,rA,rB,rC,rD,reduceIte,unP,rE,g2,g10,g11,g12,kB,hld,hE,lD,lT])
     exact⟨nofun,_,rfl,by simp only[NaF,Yad,if_true];rw[←hob];rfl⟩
    by_cases c4:(cd.O.length:Int)≤e.J
    ·have hb:etB cd e=false:=(by unfold etB;simp;omega);rw[hb]at hob
     iterate 9
      (try rw[Z0]);(try simp(disch:=first|omega|rfl|assumption)only[↓Yaa,Yab,Nae,Naa,rA,rB,rC,rD,reduceIte,unP,rE,g2,g10,g11,g12,kB,hld,hE,lD,lT])
     exact⟨nofun,_,rfl,by simp only[NaF,Yad,if_true];rw[←hob];rfl⟩
    have hb:etB cd e=true:=(by unfold etB;simp;omega);rw[hb,Bool.true_and]at hob
    iterate 9
     (try rw[Z0]);(try simp(disch:=first|omega|rfl|assumption)only[↓Yaa,Yab,Nae,Naa,rA,rB,rC,rD,reduceIte,unP,rE,g2,g10,g11,g12,kB,hld,hE,lD,lT])
    exact⟨l.length - (i+1),by omega,i+1,rfl,(NaD hil).symm,rfl,by omega,hob⟩
   ·have h0:l.drop i=[]:=List.drop_of_length_le Zaa;rw[h0]at hob
    iterate 5
     (try rw[Z0]);(try simp(disch:=first|omega|rfl|assumption)only[↓Yaa,Yab,Nae,Naa,rA,rB,rC,rD,reduceIte,unP,rE,g2,g10,g11,g12,kB])
    exact⟨nofun,_,rfl,by simp only[NaF,Yad,if_true];rw[←hob];rfl⟩
  ·skip
   refine⟨0,rfl,?_,(by simp[Yad,g1]),Zaf,Zaf,?_,?_,?_,(by rw[List.drop_zero];exact hR)⟩<;>first|with_reducible rfl|with_reducible assumption|exact kB _|(simp[Yad,g1,g2]<;>omega)|(simp(disch:=omega)only[Nar,Nas,Yaf,kB];first|done|with_reducible rfl|with_reducible assumption)|omega|(simp only[Z0L_,Nax];omega)|(simp only;omega)|assumption|rfl|(simp;omega)|(simp;done)
 ·have b0:(ck != Int.ofNat 0)=true:=by simpa using h0
  have:(ck==0)=false:=by simpa using h0
  rw[this]at hR
  iterate 4
   (try rw[Z0]);(try simp(disch:=first|omega|rfl|assumption)only[↓Yaa,Yab,Nae,Naa,rA,rB,rC,rD,reduceIte,unP,rE,Nag,Naf,gc,b0])
  exact⟨nofun,_,rfl,by simp only[NaF,Yad,if_true];rw[←hR];rfl⟩
theorem NkX(hc:CfgA cfg)(hck:Nai cfg (NaK cfg fuel) 47 [.agg (Cd.cs cd)]=some (.i .i64 ck))(hl:l.length≤fuel)(hO:cd.O.length≤reachBytes)(hT:cd.T.length≤reachBytes)(hr:l.length≤reachBytes) :
 Nai cfg (NaK cfg (fuel+1)) 28 [.agg (Cd.cs cd),slV z l.length (l.flatMap Et.cs)]=some (.b (trV ck cd l)) :=
 NaE hc.a1 Nco (fun _=>rfl) (Nmy hc hck hl hO hT hr)
theorem Njv{g:List PV→Option PV}{key sz:Nat}{ps ps':List PV}(hd:Nbg st ps=some ps')(hk:keysL st ps=[])(hg:g ps'=some (.osl sz n cs)):Naq g false st key ps=some (.rsl key sz 0 n,st.put key (some (.cells cs false))):=by
 unfold Naq;simp only[hd,hg,hk,NaZ,ite_self,NaR]
theorem Nj6:keysL st [.agg (Cd.cs cd),slV z n cs]=[]:=by
 unfold Cd.cs slV;split<;>split<;>split<;>rfl
theorem NiP(hc:CfgA cfg)(hv:∀ e,e∈l→EtOK cd e)(hl:l.length<1000)(hfu:l.length+6≤fuel) :
 Nai cfg (NaK cfg (fuel+5)) 29 [.agg (Cd.cs cd),slV z l.length (l.flatMap Et.cs)]=some (Nno (NbS cd l l.length)):=by
 obtain⟨r,st',h1,h2⟩:=NjB (st:={ sto:=.leaf,cnt:=1 }) hc.toCfgR (z:=z) hv hl hfu;exact NeF hc.r8 Nco ⟨r,st',h1,h2⟩
theorem Nhm(hc:CfgA cfg)(hv:∀ e,e∈l→EtOK cd e)(hl:l.length<1000)(hfu:l.length+6≤fuel)(h0:0<l.length)(st:St)(key:Nat) :
 Naq (Nai cfg (NaK cfg (fuel+5)) 29) false st key [.agg [slV cd.zo cd.O.length (cd.O.flatMap Dc.cs),slV cd.zt cd.T.length (cd.T.flatMap Tx.cs)],slV z l.length (l.flatMap Et.cs)]=some (.rsl key 1 0 l.length,st.put key (some (.cells ((NbS cd l l.length).map clP) false))):=by
 have hne:NbS cd l l.length≠[]:=by
  intro e;have:(NbS cd l l.length).length=l.length:=by simp[NbS]
  rw[e]at this;simp at this;omega
 have hr:=NiP hc (z:=z) hv hl hfu;unfold Nno at hr;rw[if_neg hne]at hr;have hlen:(NbS cd l l.length).length=l.length:=by simp[NbS]
 rw[hlen]at hr;exact Njv (Na4 Nbu Nf4) Nj6 hr
theorem Nfg:∀ {l:List Ch}{n:List Int}{C:Ch→List Int},NaW n=true→(∀ q,NaW (C q)=true)→∀ q,NaW (Ncd l n C q)=true
 |[],n,C,_,h,q=>h q
 |k::r,n,C,hn,h,q=>by
   rw[Ncd];refine Nfg hn (fun p=>?_) q;unfold NkD;split
   ·exact Nc7 (h k) hn
   ·exact h p
theorem Nfk(hv:∀ e,e∈l→EtOK cd e)(i:Nat):0≤thL l i∧thL l i≤63:=by
 unfold thL;by_cases h:i<l.length
 ·have e:l.getD i etZ=l[i]:=by rw[List.getD_eq_getElem?_getD,List.getElem?_eq_getElem h];rfl
  rw[e];exact⟨(hv _ (List.getElem_mem h)).t0,(hv _ (List.getElem_mem h)).t1⟩
 ·have e:l.getD i etZ=etZ:=by rw[List.getD_eq_getElem?_getD,List.getElem?_eq_none Zaa];rfl
  rw[e];exact⟨by decide,by decide⟩
theorem Nff{cd:Cd}{l:List Et}(hv:∀ e,e∈l→EtOK cd e):∀ j,(∀ u,NaW ((NfO (thL l) (gvL cd l) (tkL cd l) j).T u)=true)∧∀ q,NaW ((NfO (thL l) (gvL cd l) (tkL cd l) j).C q)=true
 |0=>⟨fun _=>rfl,fun _=>rfl⟩
 |j+1=>by
   obtain⟨h1,h2⟩:=Nff hv j;have hn:NaW (Na7 (NfO (thL l) (gvL cd l) (tkL cd l) j).C (tkL cd l j) (Nb8 ((NfO (thL l) (gvL cd l) (tkL cd l) j).T (thL l j)) (thL l j)))=true:=Nik (Nc8 (h1 _) (Nfk hv j).1 (Nfk hv j).2) h2;refine⟨fun u=>?_,Nfg hn h2⟩;show NaW (NhP _ _ _ u)=true;unfold NhP;split
   ·exact hn
   ·exact h1 u
theorem No0(hv:∀ e,e∈l→EtOK cd e)(i:Nat):NaW (Nhh cd l i)=true :=
 Nik (Nc8 ((Nff hv i).1 _) (Nfk hv i).1 (Nfk hv i).2) (Nff hv i).2
theorem Ngx(hv:∀ e,e∈l→EtOK cd e)(i:Nat):(Nhh cd l i).length<1000:=(NcD (No0 hv i)).1
def NoT(ck:Int)(cd:Cd)(l:List Et)(i j:Int):Bool:=trV ck cd l&&decide (0≤i)&&decide (i<j)&&decide (j<l.length)&&decide (aT (Nhh cd l i.toNat) (thL l i.toNat)≤aT (Nhh cd l j.toNat) (thL l i.toNat))
theorem NkU(h:trV ck cd l=true)(h16:cd.T.length≤64):∀ e,e∈l→EtOK cd e:=by
 intro e he;unfold trV at h;simp only[Bool.and_eq_true,List.all_eq_true]at h;have:=h.2 e he;unfold etB at this;simp only[Bool.and_eq_true,decide_eq_true_eq]at this;exact⟨by omega,by omega,by omega,by omega⟩
theorem NjA(h:i<n):List.take 1 (List.drop i ((NbS cd l n).map clP))=[clP (Nhh cd l i)]:=by
 have hl:i<((NbS cd l n).map clP).length:=by simp[NbS,h]
 rw[List.drop_eq_getElem_cons hl];simp[NbS]
theorem Nb6{α:Type}{f:α→List PV}{w:Nat}(hw:∀ a,(f a).length=w):∀ {l:List α}{i:Nat}(h:i<l.length),(l.flatMap f).drop (i * w)=f l[i]++(l.flatMap f).drop ((i+1) * w)
 |[],i,h=>by simp at h
 |a::r,0,_=>by
   rw[List.flatMap_cons,Nat.zero_mul,List.drop_zero,Nat.zero_add,Nat.one_mul,List.drop_left' (hw a)];rfl
 |a::r,i+1,h=>by
   have e:∀ k,(f a++r.flatMap f).drop ((k+1) * w)=(r.flatMap f).drop (k * w):=fun k=>by
    rw[show(k+1) * w=w+k * w by rw[Nat.add_mul];omega,←List.drop_drop,List.drop_left' (hw a)]
   rw[List.flatMap_cons,e,e,Nb6 hw (l:=r) (i:=i) (by simpa using h)];rfl
theorem Nim(h:i<l.length):Nbh st 1 (.fptr ((l.flatMap Et.cs).drop (i * 5)))=some [.i .i64 l[i].T]:=by
 rw[Nb6 Et.cs_len h];show cut? _ 0 1=_;unfold cut?;rw[if_pos (by simp[Et.cs])];rfl
theorem Njr(hc:CfgA cfg){i j:Int}(hck:Nai cfg (NaK cfg (fuel+5)) 47 [.agg (Cd.cs cd)]=some (.i .i64 ck))(hl:l.length+6≤fuel)(hl2:l.length<1000)(hO:cd.O.length≤reachBytes)(hT:cd.T.length≤reachBytes)(h16:ck=0→cd.T.length≤64) :
 ∃ r st',NaK cfg (fuel+7) 94 [.agg (Cd.cs cd),slV z l.length (l.flatMap Et.cs),.i .i64 i,.i .i64 j] st=some (r,st')∧r=.b (NoT ck cd l i j):=by
 refine NaB (hc.fn _ _ (by kernel_rfl):cfg.fn 94=some m94) ?_;have hrb:reachBytes=140737488351232:=rfl;have gt:∀ (st:St) (key:Nat),Naq (Nai cfg (NaK cfg (fuel+6)) 28) false st key [.agg [slV cd.zo cd.O.length (cd.O.flatMap Dc.cs),slV cd.zt cd.T.length (cd.T.flatMap Tx.cs)],slV z l.length (l.flatMap Et.cs)]=some (.b (trV ck cd l),st):=fun st key=>NaT (Na4 Nbu Nf4) (NkX hc hck Zaa hO hT Zaa) rfl rfl;delta m94 Qa Qr Qf Ql Qt Qs Qk Qm Qh Qi Qw Cd.cs;have hlv:=NaC z l.length (l.flatMap Et.cs);have hE:=NaM Et.cs_len l;obtain⟨R,hR⟩:∃ R,NoT ck cd l i j=R:=⟨_,rfl⟩;rw[hR];unfold NoT at hR;obtain⟨sto0,c0⟩:=st;simp only[Nao];by_cases ht:trV ck cd l=true
 ·rw[ht]at gt hR;simp only[Bool.true_and]at hR;have hck0:ck=0:=by
   unfold trV at ht;simp only[Bool.and_eq_true,beq_iff_eq]at ht;exact ht.1
  have hok:=NkU ht (h16 hck0);by_cases hi:i<0
  ·rw[decide_eq_false (show ¬ 0≤i by omega)]at hR
   iterate 4
    (try rw[Z0]);(try simp(disch:=first|omega|rfl|assumption)only[↓Yaa,Yab,Nae,Naa,rA,rB,rC,rD,reduceIte,unP,rE,Nag,Naf,gt,hlv])
   exact⟨nofun,_,rfl,by simp only[NaF,Yad,if_true];rw[←hR];rfl⟩
  by_cases hij:j≤i
  ·rw[decide_eq_false (show ¬ i<j by omega),Bool.and_false]at hR
   iterate 4
    (try rw[Z0]);(try simp(disch:=first|omega|rfl|assumption)only[↓Yaa,Yab,Nae,Naa,rA,rB,rC,rD,reduceIte,unP,rE,Nag,Naf,gt,hlv])
   exact⟨nofun,_,rfl,by simp only[NaF,Yad,if_true];rw[←hR];rfl⟩
  by_cases hj:(l.length:Int)≤j
  ·rw[decide_eq_false (show ¬ j<(l.length:Int) by omega),Bool.and_false]at hR
   iterate 4
    (try rw[Z0]);(try simp(disch:=first|omega|rfl|assumption)only[↓Yaa,Yab,Nae,Naa,rA,rB,rC,rD,reduceIte,unP,rE,Nag,Naf,gt,hlv])
   exact⟨nofun,_,rfl,by simp only[NaF,Yad,if_true];rw[←hR];rfl⟩
  rw[decide_eq_true (show 0≤i by omega),decide_eq_true (show i<j by omega),decide_eq_true (show j<(l.length:Int) by omega)]at hR;simp only[Bool.true_and]at hR;have gk:∀ (st:St) (key:Nat),Naq (Nai cfg (NaK cfg (fuel+6)) 29) false st key [.agg [slV cd.zo cd.O.length (cd.O.flatMap Dc.cs),slV cd.zt cd.T.length (cd.T.flatMap Tx.cs)],slV z l.length (l.flatMap Et.cs)]=_:=Nhm hc (z:=z) (fuel:=fuel+1) hok hl2 Zaa Zaa;have hz:=NaD (z:=z) (cs:=l.flatMap Et.cs) (show i.toNat<l.length by omega);have hlT:=fun st=>Nim (st:=st) (show i.toNat<l.length by omega);have hti:l[i.toNat].T=thL l i.toNat:=by unfold thL;rw[List.getD_eq_getElem?_getD,List.getElem?_eq_getElem (show i.toNat<l.length by omega)];rfl
  rw[hti]at hlT;have ki:=NjA (cd:=cd) (l:=l) (n:=l.length) (i:=i.toNat) Zaa;have kj:=NjA (cd:=cd) (l:=l) (n:=l.length) (i:=j.toNat) Zaa;have kl:((NbS cd l l.length).map clP).length=l.length:=by simp[NbS]
  have ga:Nai cfg (NaK cfg (fuel+6)) 30 [clP (Nhh cd l i.toNat),.i .i64 (thL l i.toNat),clP (Nhh cd l j.toNat)]=some (.b (decide (aT (Nhh cd l i.toNat) (thL l i.toNat)≤aT (Nhh cd l j.toNat) (thL l i.toNat)))):=Njo (fuel:=fuel+4) hc (Nfk hok _).1 (Ngx hok _) (Ngx hok _);rw[hz]at gt gk hlv ⊢
  iterate 3
   (try rw[Z0]);(try simp(disch:=first|omega|rfl|assumption)only[↓Yaa,Yab,Nae,Naa,rA,rB,rC,rD,reduceIte,unP,rE,Nag,Naf,gt,hlv,gk])
  iterate 3
   (try rw[Z0]);(try simp(disch:=first|omega|rfl|assumption)only[↓Yaa,Yab,Nae,Naa,rA,rB,rC,rD,reduceIte,unP,rE,gk,Nag,Naf,ki,kj,kl,hE,hlT,ga])
  refine NbO (Nb5 rfl) ga rfl rfl ?_
  iterate 3
   (try rw[Z0]);(try simp(disch:=first|omega|rfl|assumption)only[↓Yaa,Yab,Nae,Naa,rA,rB,rC,rD,reduceIte,unP,rE])
  exact⟨nofun,_,rfl,by simp only[NaF,Yad,if_true];rw[←hR]⟩
 ·have hf:trV ck cd l=false:=by simpa using ht
  rw[hf]at gt hR
  iterate 4
   (try rw[Z0]);(try simp(disch:=first|omega|rfl|assumption)only[↓Yaa,Yab,Nae,Naa,rA,rB,rC,rD,reduceIte,unP,rE,Nag,Naf,gt,hlv])
  exact⟨nofun,_,rfl,by simp only[NaF,Yad,if_true];rw[←hR];rfl⟩
theorem NiK(hc:CfgA cfg){i j:Int}(hck:Nai cfg (NaK cfg (fuel+5)) 47 [.agg (Cd.cs cd)]=some (.i .i64 ck))(hl:l.length+6≤fuel)(hl2:l.length<1000)(hO:cd.O.length≤reachBytes)(hT:cd.T.length≤reachBytes)(h16:ck=0→cd.T.length≤64) :
 Nai cfg (NaK cfg (fuel+7)) 94 [.agg (Cd.cs cd),slV z l.length (l.flatMap Et.cs),.i .i64 i,.i .i64 j]=some (.b (NoT ck cd l i j)) :=
 NaE hc.a2 rfl (fun _=>rfl) (Njr hc hck hl hl2 hO hT h16)
end
end Go.Pe
