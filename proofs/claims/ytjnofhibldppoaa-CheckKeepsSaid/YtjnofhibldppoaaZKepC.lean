/-
 CheckKeeps: the law, walked. No condition.
-/
import Derived.Test.YtjnofhibldppoaaZKepB
import Derived.Test.YtjnofhibldppoaaZKitE
import Derived.Test.YtjnofhibldppoaaZLstA
import Derived.Test.YtjnofhibldppoaaZChkA
import Derived.Test.YtjnofhibldppoaaZPeL3
import Derived.Test.YtjnofhibldppoaaZPrgD
import Derived.Test.YtjnofhibldppoaaZView
set_option linter.unusedVariables false
set_option linter.unusedSimpArgs false
set_option maxHeartbeats 8000000
open Nat renaming reduceAdd → rA,reduceMul → rB,reduceLT → rC,reduceEqDiff → rD,reduceLeDiff → rE
namespace Go.Pe
open Go Go.Am Go.RowKit
def Nkq:FuncId→Option (List PV→Option PV):=fun f=>if f=64 then some gNext else if f=10 then some gAwakeC else none
theorem NiS{Gl:Gmap}{m:Int}(hg:Gl 0 0=some (.int .i64 m)):∀ f g,Nkq f=some g→NbC Go.Proofs.Try.prog Gl f g:=by
 intro f g h;unfold Nkq at h;split at h
 ·rename_i e;simp only[Sj]at h;subst h;subst e;exact Nfe (Ngb hg)
 split at h
 ·rename_i e;simp only[Sj]at h;subst h;subst e;exact Nlg (NiK hg) NeX
 ·cases h
noncomputable def cfgKp:Cfg:={ fn:=fun f=>Ndk f tblX3,ext:=Nkq }
theorem Nga{Gl:Gmap}{m:Int}(hg:Gl 0 0=some (.int .i64 m)):CfgOK Go.Proofs.Try.prog Gl cfgKp:=NfE NjH (NiS hg)
theorem NiJ(f:FuncId)(m:MFunc)(h:Ndk f tblL=some m):cfgKp.fn f=some m:=by
 show Ndk f tblX3=some m;by_cases h6:f=3
 ·subst h6;have h0:Ndk 3 tblL=none:=by kernel_rfl
  rw[h0]at h;cases h
 ·have hb:Nat.beq f 3=false:=by
   cases h:Nat.beq f 3 with
   |false=>rfl
   |true=>exact absurd (Nat.eq_of_beq_eq_true h) h6
  show(Bool.rec (motive:=fun _=>Option MFunc) (Ndk f tblL) (some m3) (Nat.beq f 3))=some m;rw[hb];exact h
theorem Nki:CfgM cfgKp where
 nx:=by rfl
 fn:=NiJ
 x1:=by rfl
 x2:=by rfl
 x3:=by rfl
 x4:=by rfl
 x5:=by rfl
 x6:=by rfl
 x7:=by rfl
 x8:=by rfl
 x9:=by rfl
 y1:=by rfl
 y2:=by rfl
 y3:=by rfl
 y4:=by rfl
 y5:=by rfl
 y6:=by rfl
 z1:=by rfl
 z2:=by rfl
 z3:=by rfl
 z4:=by rfl
 z5:=by rfl
 z6:=by rfl
 z7:=by rfl
 z8:=by rfl
theorem Nkm{st:St}{w1 v1 w2 v2 w3 v3:PV}(h1:Go.Pe.deep st 12 w1=some v1)(h2:Go.Pe.deep st 12 w2=some v2)(h3:Go.Pe.deep st 12 w3=some v3):Na9 st [w1,w2,w3]=some [v1,v2,v3]:=by
 have h1':Go.Pe.deep st Nb9 w1=some v1:=h1;have h2':Go.Pe.deep st Nb9 w2=some v2:=h2;have h3':Go.Pe.deep st Nb9 w3=some v3:=h3;unfold Na9;simp only[mapO,h1',h2',h3']
theorem Ng4{z1 z2:Bool}{m1 m2:Nat}(c1 c2:List PV)(a b:Int):Naw [.agg [slV z1 m1 c1,slV z2 m2 c2],.i .i64 a,.i .i64 b]=([.agg [slV z1 m1 c1,slV z2 m2 c2],.i .i64 a,.i .i64 b],{ sto:=.leaf,cnt:=1 }):=by
 unfold slV;split<;>split<;>rfl
theorem Njx{cfg:Cfg}(hc:CfgM cfg){fuel:Nat}{st:St}{x n:Int}(hn:1≤n∧n≤4611686018427387904) :
 ∃ r st',NaI cfg (fuel+1) 13 [.i .i64 x,.i .i64 n] st=some (r,st')∧∃ p:Nat,(p:Int)<n∧r=.i .i64 (p:Int):=by
 refine Naz (hc.fn _ _ (by kernel_rfl):cfg.fn 13=some m13) ?_;delta m13 Qa Ql Qt Qk Qm Qi Qo;have h0:(n=0)=False:=by simp;omega
 have hb:-n<x.tmod n∧x.tmod n<n:=by
  rcases Int.le_total 0 x with hx|hx
  ·rw[Int.tmod_eq_emod_of_nonneg hx];have h1:=Int.emod_nonneg x (show n≠0 by omega);have h2:=Int.emod_lt_of_pos x (show 0<n by omega);omega
  ·have h0:=Int.tmod_eq_emod_of_nonneg (b:=n) (show 0≤-x by omega);rw[Int.neg_tmod]at h0;have h1:=Int.emod_nonneg (-x) (show n≠0 by omega);have h2:=Int.emod_lt_of_pos (-x) (show 0<n by omega);omega
 obtain⟨w,hw⟩:∃ w,x.tmod n=w:=⟨_,rfl⟩;rw[hw]at hb;simp only[Naj];by_cases hneg:w<0
 ·have hww:IntKind.i64.wrap (w+n)=w+n:=NaZ _ ⟨by omega,by omega⟩
  iterate 8
   (try rw[Z0]);(try simp(maxSteps:=9^7)(disch:=first|omega|rfl|assumption)only[↓Yaa,Yab,Nae,Naa,rA,rB,rC,rD,reduceIte,unP,rE,h0,hw,hww])
  exact⟨nofun,_,rfl,(w+n).toNat,by omega,by simp only[NaF,Yad,if_true];rw[Int.toNat_of_nonneg Zaa]⟩
 ·skip
  iterate 8
   (try rw[Z0]);(try simp(maxSteps:=9^7)(disch:=first|omega|rfl|assumption)only[↓Yaa,Yab,Nae,Naa,rA,rB,rC,rD,reduceIte,unP,rE,h0,hw])
  exact⟨nofun,_,rfl,w.toNat,by omega,by simp only[NaF,Yad,if_true];rw[Int.toNat_of_nonneg Zaa]⟩
theorem Nhb{es:List (List UInt8×Nat)}{t:Td}{r:List Td}{seen:List (List UInt8)}(h:(NcT es (t::r) seen).1=0):(Sms.chk es t.B []).1.1=0∧(NcT es r (NdV t.S seen)).1=0:=by
 rw[NcT]at h;split at h
 ·cases h
 split at h
 ·rename_i h2;split at h
  ·cases h
  exact⟨h2,h⟩
 ·rename_i h2;exact absurd h h2
theorem Njc{p:Pg}(hwf:p.wf){at0:Int}:∃ fuel,evP cfgKp fuel 3 [.agg (Pg.cs p),.i .i64 at0]=some (.b true):=by
 obtain⟨F,hF⟩:∃ F,Tds.size p.T+p.D.length=F:=⟨_,rfl⟩;have hc:=Nki;have hok:=Nga (Gl:=fun _ _=>some (.int .i64 0)) rfl;have ho:Naw [.agg (Pg.cs p),.i .i64 at0]=([.agg (Pg.cs p),.i .i64 at0],{ sto:=.leaf,cnt:=1 }):=by
  unfold Pg.cs slV;split<;>split<;>rfl
 refine⟨(F+60)+1,Nkp rfl ho (fun _=>rfl) (Naz (by kernel_rfl:cfgKp.fn 3=some m3) ?_)⟩;delta m3 Qa Qr Qf Qg Ql Qt Qn Qs Qk Qm Qh Qi Qo Qw;have hx1:cfgKp.ext 35=none:=by rfl
 have hx2:cfgKp.ext 21=none:=by rfl
 have hx3:cfgKp.ext 27=none:=by rfl
 have hx4:cfgKp.ext 11=none:=by rfl
 have hx5:cfgKp.ext 16=none:=by rfl
 have hx6:cfgKp.ext 12=none:=by rfl
 have hx7:cfgKp.ext 8=none:=by rfl
 have hx8:cfgKp.ext 9=none:=by rfl
 have hx9:cfgKp.ext 13=none:=by rfl
 have hxa:cfgKp.ext 10=some gAwakeC:=by rfl
 obtain⟨cfg,hcfg⟩:∃ cfg,cfgKp=cfg:=⟨_,rfl⟩;rw[hcfg]at hc hok hx1 hx2 hx3 hx4 hx5 hx6 hx7 hx8 hx9 hxa ⊢;have hwf0:=hwf;obtain⟨hwD,hwT,hwd,hwt⟩:=hwf;have hrb:reachBytes<4611686018427387904:=by decide
 have lD:=NaM p.zd p.D.length (p.D.flatMap Dc.cs);have lT:=NaM p.zt p.T.length (p.T.flatMap Td.cs);have hD:=NaG Dc.cs_len p.D;have hT:=NaG Td.cs_len p.T;have hTl:=Tds.len_le p.T;have aw:∀ (st:St) (key:Nat),Nap (Nam cfg (NaI cfg (F+60)) 10) false st key []=some (.b true,st):=fun st key=>Naq rfl (by rw[Nbr hxa];rfl) rfl;have awq:Nam cfg (NaI cfg (F+60)) 10 []=some (.b true):=by rw[Nbr hxa];rfl
 obtain⟨H,hH⟩:∃ H,Nll 60 1500 p=H:=⟨_,rfl⟩;have gH:∀ (st:St) (key:Nat),Nap (Nam cfg (NaI cfg (F+60)) 8) false st key [.agg [slV p.zd p.D.length (p.D.flatMap Dc.cs),slV p.zt p.T.length (p.T.flatMap Td.cs)],.i .i64 ((60:Nat):Int),.i .i64 ((1500:Nat):Int)]=some (.b H,st):=fun st key =>
  Nbn (Nkm (Ndy _ _) rfl rfl) (NaA hx7 (Ng4 _ _ _ _) (fun _=>rfl) (by
   have:=NkM hc hx1 hx2 (lv:=60) (many:=1500) Zaa Zaa hwf0 (q:=F+58) Zaa (st:={ sto:=.leaf,cnt:=1 });rw[hH]at this;exact this)) rfl rfl
 simp only[Naj];unfold Pg.cs;(try rw[Z0]);(try simp(maxSteps:=9^7)(disch:=first|omega|rfl|assumption)only[↓Yaa,Yab,Nae,Naa,rA,rB,rC,rD,reduceIte,unP,rE,Nai,Naf]);cases H with
 |true =>
   iterate 3
    (try rw[Z0]);(try simp(maxSteps:=9^7)(disch:=first|omega|rfl|assumption)only[↓Yaa,Yab,Nae,Naa,rA,rB,rC,rD,reduceIte,unP,rE,gH,aw])
   exact⟨nofun,_,rfl,by simp only[NaF,Yad,if_true]⟩
 |false =>
 have hb:=NlX hH;obtain⟨C,hC⟩:∃ C,Nb5 p=C:=⟨_,rfl⟩;have gC:∀ (st:St) (key:Nat),Nap (Nam cfg (NaI cfg (F+60)) 9) false st key [.agg [slV p.zd p.D.length (p.D.flatMap Dc.cs),slV p.zt p.T.length (p.T.flatMap Td.cs)]]=some (.agg [.i .i64 C.1,.i .i64 C.2],st):=fun st key =>
  Nbn (Nbh (Ndy _ _)) (NaA hx8 (NdQ _ _) (fun _=>rfl) (by
   have:=Ngd hc (p:=p) (q:=F+57) (st:={ sto:=.leaf,cnt:=1 }) Zaa Zaa;rw[hC]at this;exact this)) rfl rfl
 by_cases h0:C.1=0
 ·have b0:(C.1 != Int.ofNat 0)=false:=by rw[h0];rfl
  have hz:(Nb5 p).1=0:=by rw[hC];exact h0
  obtain⟨hr,ho0,ht0⟩:Ncm p=true∧(NaD p.D []).1.1=0∧(NcT (NaD p.D []).2 p.T []).1=0:=by
   unfold Nb5 at hz;split at hz
   ·rename_i h1;split at hz
    ·rename_i h2;exact⟨h1,h2,hz⟩
    ·rename_i h2;exact absurd hz h2
   ·cases hz
  obtain⟨⟨hD64,hT16⟩,hok1,hops⟩:=Nf2 hr;obtain⟨O,hO⟩:∃ O,NaD p.D []=O:=⟨_,rfl⟩;rw[hO]at ho0 ht0;obtain⟨es,hes⟩:∃ es,O.2=es:=⟨_,rfl⟩;rw[hes]at ht0
  iterate 2
   (try rw[Z0]);(try simp(maxSteps:=9^7)(disch:=first|omega|rfl|assumption)only[↓Yaa,Yab,Nae,Naa,rA,rB,rC,rD,reduceIte,unP,rE,gH,gC,b0])
  (try rw[Z0]);(try simp(maxSteps:=9^7)(disch:=first|omega|rfl|assumption)only[↓Yaa,Yab,Nae,Naa,rA,rB,rC,rD,reduceIte,unP,rE]);refine NaK (fun x=>∃ (P:Nat) (M:Nat),P<x.st.cnt∧(P<M)∧M<x.st.cnt∧x.env.get 1=.i .i64 at0∧x.env.get 2=.ptr P 0∧x.env.get 5=.mp M∧x.st.get P=some (.cells [slV p.zd p.D.length (p.D.flatMap Dc.cs),slV p.zt p.T.length (p.T.flatMap Td.cs)] false)∧x.st.get M=some (.map (esV []))∧(Top x.st)) ?_ ?_
  ·exact⟨1,81,Zab,Zac,Zab,Zag,Zag,Zag,(by first|exact kP _|with_reducible rfl|with_reducible assumption|(simp(disch:=omega)only[NaB,NaJ,Yaf];first|done|with_reducible rfl|with_reducible assumption)),(by rw[Yaf];rfl),(by refine Top.put ?_ (by show 81<97;omega);exact Top.putN (c:=1) (fun k _=>rfl) (by omega) (by omega))⟩
  rintro⟨env,⟨sto,c⟩⟩ ⟨P,M,bP,oM,bM,g1,g2,g5,kP,kM,ht⟩;try simp only at bP bM g1 g2 g5 ht
  replace kP:∀ n',St.get ⟨sto,n'⟩ P=some (.cells [slV p.zd p.D.length (p.D.flatMap Dc.cs),slV p.zt p.T.length (p.T.flatMap Td.cs)] false):=fun _=>kP;replace kM:∀ n',St.get ⟨sto,n'⟩ M=some (.map (esV [])):=fun _=>kM;refine NaW (fun x=>P<x.st.cnt∧M<x.st.cnt∧x.env.get 1=.i .i64 at0∧x.env.get 2=.ptr P 0∧x.env.get 5=.mp M∧x.st.get P=some (.cells [slV p.zd p.D.length (p.D.flatMap Dc.cs),slV p.zt p.T.length (p.T.flatMap Td.cs)] false)∧x.st.get M=some (.map (esV es))∧(Top x.st)) ?_ ?_
  ·intro K1 hK1;refine Nhh hok ht ?_
   iterate 2
    (try rw[Z0]);(try simp(maxSteps:=9^7)(disch:=first|omega|rfl|assumption)only[↓Yaa,Yab,Nae,Naa,rA,rB,rC,rD,reduceIte,unP,rE,g1,g2,g5,kP,kM,lD])
   refine Z9 (k:=p.D.length - 0) (fun m x=>∃ (i:Nat) (e1:List (List UInt8×Nat)),m=p.D.length - i∧P<x.st.cnt∧M<x.st.cnt∧x.env.get 1=.i .i64 at0∧x.env.get 2=.ptr P 0∧x.env.get 5=.mp M∧x.st.get P=some (.cells [slV p.zd p.D.length (p.D.flatMap Dc.cs),slV p.zt p.T.length (p.T.flatMap Td.cs)] false)∧x.st.get M=some (.map (esV e1))∧x.env.get 26=slV p.zd p.D.length (p.D.flatMap Dc.cs)∧x.env.get 27=.i .i64 (p.D.length:Int)∧x.env.get 28=.i .i64 (i:Int)∧(i≤p.D.length)∧(NaD (p.D.drop i) e1=O)) ?_ ?_ Zaa
   ·clear bP bM g1 g2 g5 kP kM ht;rintro m ⟨env,⟨sto,c⟩⟩ ⟨i,e1,rfl,bP,bM,g1,g2,g5,kP,kM,g26,g27,g28,hi,hob⟩;try simp only at bP bM g1 g2 g5 g26 g27 g28
    replace kP:∀ n',St.get ⟨sto,n'⟩ P=some (.cells [slV p.zd p.D.length (p.D.flatMap Dc.cs),slV p.zt p.T.length (p.T.flatMap Td.cs)] false):=fun _=>kP;replace kM:∀ n',St.get ⟨sto,n'⟩ M=some (.map (esV e1)):=fun _=>kM;by_cases hil:i<p.D.length
    ·rw[Nan hil]at g26;obtain⟨d,he⟩:∃ d,p.D[i]=d:=⟨_,rfl⟩;have hld:=fun st=>NeL (st:=st) hil;simp only[he]at hld;rw[List.drop_eq_getElem_cons hil,he]at hob;obtain⟨-,hob2⟩:=Nbq (by rw[hob];exact ho0);rw[hob2]at hob;have hmp:=NdN d.S d.K.toNat e1
     iterate 5
      (try rw[Z0]);(try simp(maxSteps:=9^7)(disch:=first|omega|rfl|assumption)only[↓Yaa,Yab,Nae,Naa,rA,rB,rC,rD,reduceIte,unP,rE,g1,g2,g5,kP,kM,g26,g27,g28,hld,hD,hmp,Option.map_some])
     exact⟨p.D.length - (i+1),by omega,i+1,putN d.S d.K.toNat e1,rfl,rfl,(Nan hil).symm,rfl,by omega,hob⟩
    ·have h0':p.D.drop i=[]:=List.drop_of_length_le Zaa;rw[h0',NaD]at hob
     iterate 5
      (try rw[Z0]);(try simp(maxSteps:=9^7)(disch:=first|omega|rfl|assumption)only[↓Yaa,Yab,Nae,Naa,rA,rB,rC,rD,reduceIte,unP,rE,g1,g2,g5,kP,kM,g26,g27,g28])
     intro ht2;refine hK1 _ ⟨Zab,Zab,?_,?_,?_,?_,(by rw[←hes,←hob];exact kM _),ht2⟩<;>first|with_reducible rfl|with_reducible assumption|exact kP _|(simp[Yad,g1,g2,g5,g26,g27,g28]<;>omega)|(simp(disch:=omega)only[NaB,NaJ,Yaf,kP,kM];first|done|with_reducible rfl|with_reducible assumption)
   ·skip
    refine⟨0,[],rfl,Zab,Zab,?_,?_,?_,?_,?_,?_,?_,?_,Zac,(by rw[List.drop_zero];exact hO)⟩<;>first|with_reducible rfl|with_reducible assumption|exact kP _|exact kM _|(simp[Yad,g1,g2,g5]<;>omega)|(simp(disch:=omega)only[NaB,NaJ,Yaf,kP,kM];first|done|with_reducible rfl|with_reducible assumption)
  clear bP bM g1 g2 g5 kP kM ht;rintro⟨env,⟨sto,c⟩⟩ ⟨bP,bM,g1,g2,g5,kP,kM,ht⟩;try simp only at bP bM g1 g2 g5 ht
  replace kP:∀ n',St.get ⟨sto,n'⟩ P=some (.cells [slV p.zd p.D.length (p.D.flatMap Dc.cs),slV p.zt p.T.length (p.T.flatMap Td.cs)] false):=fun _=>kP;replace kM:∀ n',St.get ⟨sto,n'⟩ M=some (.map (esV es)):=fun _=>kM;(try rw[Z0]);(try simp(maxSteps:=9^7)(disch:=first|omega|rfl|assumption)only[↓Yaa,Yab,Nae,Naa,rA,rB,rC,rD,reduceIte,unP,rE,g1,g2,g5,kP,kM]);refine NaK (fun x=>∃ (A:Nat),(M<A)∧A<x.st.cnt∧x.env.get 1=.i .i64 at0∧x.env.get 2=.ptr P 0∧x.env.get 5=.mp M∧x.env.get 8=.mp A∧x.st.get P=some (.cells [slV p.zd p.D.length (p.D.flatMap Dc.cs),slV p.zt p.T.length (p.T.flatMap Td.cs)] false)∧x.st.get M=some (.map (esV es))∧x.st.get A=some (.map (lsV []))∧P<x.st.cnt∧M<x.st.cnt∧(P<M)∧(M<A)∧(Top x.st)) ?_ ?_
  ·refine⟨c,Zac,Zab,?_,?_,?_,?_,(by simp(disch:=omega)only[NaB,NaJ];exact kP _),(by simp(disch:=omega)only[NaB,NaJ];exact kM _),(by rw[Yaf];rfl),Zab,Zab,Zac,Zac,(Top.put (ht.le Zah) Zah)⟩<;>first|with_reducible rfl|with_reducible assumption|(simp[Yad,g1,g2,g5]<;>omega)
  clear bP bM g1 g2 g5 kP kM ht;rintro⟨env,⟨sto,c⟩⟩ ⟨A,oA,bA,g1,g2,g5,g8,kP,kM,kA,bP,bM,oP,oM,ht⟩;try simp only at bA g1 g2 g5 g8 bP bM ht
  replace kP:∀ n',St.get ⟨sto,n'⟩ P=some (.cells [slV p.zd p.D.length (p.D.flatMap Dc.cs),slV p.zt p.T.length (p.T.flatMap Td.cs)] false):=fun _=>kP;replace kM:∀ n',St.get ⟨sto,n'⟩ M=some (.map (esV es)):=fun _=>kM;replace kA:∀ n',St.get ⟨sto,n'⟩ A=some (.map (lsV [])):=fun _=>kA;obtain⟨N1,hN1⟩:∃ N1,Tds.nm p.T []=N1:=⟨_,rfl⟩;refine NaW (fun x=>A<x.st.cnt∧x.env.get 1=.i .i64 at0∧x.env.get 2=.ptr P 0∧x.env.get 5=.mp M∧x.env.get 8=.mp A∧x.st.get P=some (.cells [slV p.zd p.D.length (p.D.flatMap Dc.cs),slV p.zt p.T.length (p.T.flatMap Td.cs)] false)∧x.st.get M=some (.map (esV es))∧x.st.get A=some (.map (lsV N1))∧P<x.st.cnt∧M<x.st.cnt∧(Top x.st)) ?_ ?_
  ·intro K2 hK2;refine Nhh hok ht ?_
   iterate 2
    (try rw[Z0]);(try simp(maxSteps:=9^7)(disch:=first|omega|rfl|assumption)only[↓Yaa,Yab,Nae,Naa,rA,rB,rC,rD,reduceIte,unP,rE,g1,g2,g5,g8,kP,kM,kA,lT])
   refine Z9 (k:=p.T.length - 0) (fun m x=>∃ (j:Nat) (a1:List (List UInt8)) (seen:List (List UInt8)),m=p.T.length - j∧A<x.st.cnt∧x.env.get 1=.i .i64 at0∧x.env.get 2=.ptr P 0∧x.env.get 5=.mp M∧x.env.get 8=.mp A∧x.st.get P=some (.cells [slV p.zd p.D.length (p.D.flatMap Dc.cs),slV p.zt p.T.length (p.T.flatMap Td.cs)] false)∧x.st.get M=some (.map (esV es))∧x.st.get A=some (.map (lsV a1))∧P<x.st.cnt∧M<x.st.cnt∧x.env.get 40=slV p.zt p.T.length (p.T.flatMap Td.cs)∧x.env.get 41=.i .i64 (p.T.length:Int)∧x.env.get 42=.i .i64 (j:Int)∧(j≤p.T.length)∧(Tds.nm (p.T.drop j) a1=N1)∧((NcT es (p.T.drop j) seen).1=0)) ?_ ?_ Zaa
   ·clear bA g1 g2 g5 g8 kP kM kA bP bM ht;rintro m ⟨env,⟨sto,c⟩⟩ ⟨j,a1,seen,rfl,bA,g1,g2,g5,g8,kP,kM,kA,bP,bM,g40,g41,g42,hj,hob,hoc⟩;try simp only at bA g1 g2 g5 g8 bP bM g40 g41 g42
    replace kP:∀ n',St.get ⟨sto,n'⟩ P=some (.cells [slV p.zd p.D.length (p.D.flatMap Dc.cs),slV p.zt p.T.length (p.T.flatMap Td.cs)] false):=fun _=>kP;replace kM:∀ n',St.get ⟨sto,n'⟩ M=some (.map (esV es)):=fun _=>kM;replace kA:∀ n',St.get ⟨sto,n'⟩ A=some (.map (lsV a1)):=fun _=>kA;by_cases hjl:j<p.T.length
    ·rw[Nan hjl]at g40;obtain⟨t,he⟩:∃ t,p.T[j]=t:=⟨_,rfl⟩;have hld:=fun st=>NfR (st:=st) hjl;simp only[he]at hld;rw[List.drop_eq_getElem_cons hjl,he]at hob hoc;rw[Tds.nm]at hob;obtain⟨ok1,ok2⟩:=Nhb hoc;have hsm:=Tds.size_mem (l:=p.T) (t:=t) (he▸List.getElem_mem hjl);have hop:=hops t (he▸List.getElem_mem hjl)
     iterate 4
      (try rw[Z0]);(try simp(maxSteps:=9^7)(disch:=first|omega|rfl|assumption)only[↓Yaa,Yab,Nae,Naa,rA,rB,rC,rD,reduceIte,unP,rE,g1,g2,g5,g8,kP,kM,kA,g40,g41,g42,hld,hT,Nai,Naf])
     refine NaK (fun x=>∃ (B:Nat),A<x.st.cnt∧x.env.get 1=.i .i64 at0∧x.env.get 2=.ptr P 0∧x.env.get 5=.mp M∧x.env.get 8=.mp A∧x.st.get P=some (.cells [slV p.zd p.D.length (p.D.flatMap Dc.cs),slV p.zt p.T.length (p.T.flatMap Td.cs)] false)∧x.st.get M=some (.map (esV es))∧x.st.get A=some (.map (lsV a1))∧P<x.st.cnt∧M<x.st.cnt∧x.env.get 40=.fsl p.T.length (p.T.flatMap Td.cs)∧x.env.get 41=.i .i64 (p.T.length:Int)∧x.env.get 42=.i .i64 (j:Int)∧(A<B)∧B<x.st.cnt∧x.env.get 10=.ptr B 0∧x.st.get B=some (.cells [.s t.S,slV t.z t.B.length (Sms.cs t.B),.i .i64 t.R] false)) ?_ ?_
     ·refine⟨c+24,Zab,?_,?_,?_,?_,(by simp(disch:=omega)only[NaB,NaJ];exact kP _),(by simp(disch:=omega)only[NaB,NaJ];exact kM _),(by simp(disch:=omega)only[NaB,NaJ];exact kA _),Zab,Zab,?_,?_,?_,Zac,Zab,?_,(by rw[Yaf])⟩<;>first|with_reducible rfl|with_reducible assumption|(simp[Yad,g1,g2,g5,g8,g40,g41,g42]<;>omega)
     clear bA g1 g2 g5 g8 kP kM kA bP bM g40 g41 g42;rintro⟨env,⟨sto,c⟩⟩ ⟨B,bA,g1,g2,g5,g8,kP,kM,kA,bP,bM,g40,g41,g42,oB,bB,g10,kB⟩;try simp only at bA g1 g2 g5 g8 bP bM g40 g41 g42 bB g10
     replace kP:∀ n',St.get ⟨sto,n'⟩ P=some (.cells [slV p.zd p.D.length (p.D.flatMap Dc.cs),slV p.zt p.T.length (p.T.flatMap Td.cs)] false):=fun _=>kP;replace kM:∀ n',St.get ⟨sto,n'⟩ M=some (.map (esV es)):=fun _=>kM;replace kA:∀ n',St.get ⟨sto,n'⟩ A=some (.map (lsV a1)):=fun _=>kA;replace kB:∀ n',St.get ⟨sto,n'⟩ B=some (.cells [.s t.S,slV t.z t.B.length (Sms.cs t.B),.i .i64 t.R] false):=fun _=>kB;have zP:=kP;have zM:=kM;have zA:=kA;have zB:=kB;refine NaW (fun x=>A<x.st.cnt∧x.env.get 1=.i .i64 at0∧x.env.get 2=.ptr P 0∧x.env.get 5=.mp M∧x.env.get 8=.mp A∧x.st.get P=some (.cells [slV p.zd p.D.length (p.D.flatMap Dc.cs),slV p.zt p.T.length (p.T.flatMap Td.cs)] false)∧x.st.get M=some (.map (esV es))∧x.st.get A=some (.map (lsV a1))∧P<x.st.cnt∧M<x.st.cnt∧x.env.get 40=.fsl p.T.length (p.T.flatMap Td.cs)∧x.env.get 41=.i .i64 (p.T.length:Int)∧x.env.get 42=.i .i64 (j:Int)∧B<x.st.cnt∧x.env.get 10=.ptr B 0∧x.st.get B=some (.cells [.s t.S,slV t.z t.B.length (Sms.cs t.B),.i .i64 t.R] false)) ?_ ?_
     ·intro K3 hK3;(try rw[Z0]);(try simp(maxSteps:=9^7)(disch:=first|omega|rfl|assumption)only[↓Yaa,Yab,Nae,Naa,rA,rB,rC,rD,reduceIte,unP,rE,g1,g2,g5,g8,kP,kM,kA,g40,g41,g42,g10,kB,hx4]);refine Ncc (NjE hc hx3 hx4 hx5 (es:=es) (Mk:=M) (Ml:=c+24) Zaa (F+59) t.B t.z [] _ Zaa Zaa (by simp only[Na0,Nau];omega) (by simp only[Na0,Nau];omega) (by simp(disch:=omega)only[NaB,NaJ];exact kM _) (by rw[Yaf];rfl) hop ok1 Zaf) ?_;rintro r1 ⟨sto1,c1⟩ ⟨rfl,-,kj,hc1⟩;simp only[Na0,Nau]at hc1 kj;have pz:∀ q v,q<c→(∀ n',St.get ⟨sto,n'⟩ q=v)→St.get ⟨sto1,c1⟩ q=v:=fun q v a b=>(kj q Zaa Zaa).trans (by simp(disch:=omega)only[NaB,NaJ];exact b _)
      iterate 2
       (try rw[Z0]);(try simp(maxSteps:=9^7)(disch:=first|omega|rfl|assumption)only[↓Yaa,Yab,Nae,Naa,rA,rB,rC,rD,reduceIte,unP,rE,g1,g2,g5,g8,kP,kM,kA,g40,g41,g42,g10,kB,Bool.not_true])
      refine hK3 _ ⟨Zab,?_,?_,?_,?_,(pz P _ Zaa zP),(pz M _ Zaa zM),(pz A _ Zaa zA),Zab,Zab,?_,?_,?_,Zab,?_,(pz B _ Zaa zB)⟩<;>first|with_reducible rfl|with_reducible assumption|(simp[Yad,g1,g2,g5,g8,g40,g41,g42,g10]<;>omega)
     clear bA g1 g2 g5 g8 kP kM kA bP bM g40 g41 g42 bB g10 kB;rintro⟨env,⟨sto,c⟩⟩ ⟨bA,g1,g2,g5,g8,kP,kM,kA,bP,bM,g40,g41,g42,bB,g10,kB⟩;try simp only at bA g1 g2 g5 g8 bP bM g40 g41 g42 bB g10
     replace kP:∀ n',St.get ⟨sto,n'⟩ P=some (.cells [slV p.zd p.D.length (p.D.flatMap Dc.cs),slV p.zt p.T.length (p.T.flatMap Td.cs)] false):=fun _=>kP;replace kM:∀ n',St.get ⟨sto,n'⟩ M=some (.map (esV es)):=fun _=>kM;replace kA:∀ n',St.get ⟨sto,n'⟩ A=some (.map (lsV a1)):=fun _=>kA;replace kB:∀ n',St.get ⟨sto,n'⟩ B=some (.cells [.s t.S,slV t.z t.B.length (Sms.cs t.B),.i .i64 t.R] false):=fun _=>kB;(try rw[Z0]);(try simp(maxSteps:=9^7)(disch:=first|omega|rfl|assumption)only[↓Yaa,Yab,Nae,Naa,rA,rB,rC,rD,reduceIte,unP,rE,g1,g2,g5,g8,kP,kM,kA,g40,g41,g42,g10,kB,hx6]);refine Ncc (Njj hc hx6 (Ml:=A) (F+59) t.B t.z a1 _ Zaa Zaa Zad (kA _)) ?_;rintro r2 ⟨sto2,c2⟩ ⟨kA2,kj,hc2⟩;simp only at hc2 kj kA2;have pz:∀ q v,q<c→q≠A→(∀ n',St.get ⟨sto,n'⟩ q=v)→St.get ⟨sto2,c2⟩ q=v:=fun q v a n b=>(kj q Zaa n).trans (b _);refine⟨p.T.length - (j+1),by omega,j+1,Sms.nm t.B a1,NdV t.S seen,?_⟩
     repeat' apply And.intro
     all_goals first|rfl|exact pz P _ Zaa Zaa kP|exact pz M _ Zaa Zaa kM|exact kA2|exact(Nan hjl).symm|exact hob|exact ok2|omega|(simp only;omega)
    ·have h0':p.T.drop j=[]:=List.drop_of_length_le Zaa;rw[h0',Tds.nm]at hob
     iterate 5
      (try rw[Z0]);(try simp(maxSteps:=9^7)(disch:=first|omega|rfl|assumption)only[↓Yaa,Yab,Nae,Naa,rA,rB,rC,rD,reduceIte,unP,rE,g1,g2,g5,g8,kP,kM,kA,g40,g41,g42])
     intro ht2;refine hK2 _ ⟨Zab,?_,?_,?_,?_,?_,?_,(by rw[←hob];exact kA _),Zab,Zab,ht2⟩<;>first|with_reducible rfl|with_reducible assumption|exact kP _|exact kM _|(simp[Yad,g1,g2,g5,g8,g40,g41,g42]<;>omega)|(simp(disch:=omega)only[NaB,NaJ,Yaf,kP,kM,kA];first|done|with_reducible rfl|with_reducible assumption)
   ·skip
    refine⟨0,[],[],rfl,Zab,?_,?_,?_,?_,?_,?_,?_,Zab,Zab,?_,?_,?_,Zac,(by rw[List.drop_zero];exact hN1),(by rw[List.drop_zero];exact ht0)⟩<;>first|with_reducible rfl|with_reducible assumption|exact kP _|exact kM _|exact kA _|(simp[Yad,g1,g2,g5,g8]<;>omega)|(simp(disch:=omega)only[NaB,NaJ,Yaf,kP,kM,kA];first|done|with_reducible rfl|with_reducible assumption)
  clear bA g1 g2 g5 g8 kP kM kA bP bM ht;rintro⟨env,⟨sto,c⟩⟩ ⟨bA,g1,g2,g5,g8,kP,kM,kA,bP,bM,ht⟩;try simp only at bA g1 g2 g5 g8 bP bM ht
  replace kP:∀ n',St.get ⟨sto,n'⟩ P=some (.cells [slV p.zd p.D.length (p.D.flatMap Dc.cs),slV p.zt p.T.length (p.T.flatMap Td.cs)] false):=fun _=>kP;replace kM:∀ n',St.get ⟨sto,n'⟩ M=some (.map (esV es)):=fun _=>kM;replace kA:∀ n',St.get ⟨sto,n'⟩ A=some (.map (lsV N1)):=fun _=>kA;refine NaW (fun x=>A<x.st.cnt∧x.env.get 1=.i .i64 at0∧x.env.get 2=.ptr P 0∧x.env.get 5=.mp M∧x.env.get 8=.mp A∧x.st.get P=some (.cells [slV p.zd p.D.length (p.D.flatMap Dc.cs),slV p.zt p.T.length (p.T.flatMap Td.cs)] false)∧x.st.get M=some (.map (esV es))∧x.st.get A=some (.map (lsV N1))∧P<x.st.cnt∧M<x.st.cnt∧(Top x.st)∧(0<p.D.length)) ?_ ?_
  ·intro K4 hK4;by_cases hn:p.D.length=0
   ·have bn:((p.D.length:Int)==Int.ofNat 0)=true:=by rw[hn];rfl
    iterate 3
     (try rw[Z0]);(try simp(maxSteps:=9^7)(disch:=first|omega|rfl|assumption)only[↓Yaa,Yab,Nae,Naa,rA,rB,rC,rD,reduceIte,unP,rE,g1,g2,g5,g8,kP,kM,kA,lD,bn,aw])
    exact⟨nofun,_,rfl,by simp only[NaF,Yad,if_true]⟩
   ·have bn0:(p.D.length:Int)≠Int.ofNat 0:=(by show(p.D.length:Int)≠0;omega);have bn:((p.D.length:Int)==Int.ofNat 0)=false:=by simpa using bn0
    iterate 3
     (try rw[Z0]);(try simp(maxSteps:=9^7)(disch:=first|omega|rfl|assumption)only[↓Yaa,Yab,Nae,Naa,rA,rB,rC,rD,reduceIte,unP,rE,g1,g2,g5,g8,kP,kM,kA,lD,bn])
    refine hK4 _ ⟨Zab,?_,?_,?_,?_,?_,?_,?_,Zab,Zab,(ht.le Zah),Zaa⟩<;>first|with_reducible rfl|with_reducible assumption|exact kP _|exact kM _|exact kA _|(simp[Yad,g1,g2,g5,g8]<;>omega)|(simp(disch:=omega)only[NaB,NaJ,Yaf,kP,kM,kA];first|done|with_reducible rfl|with_reducible assumption)
  clear bA g1 g2 g5 g8 kP kM kA bP bM ht;rintro⟨env,⟨sto,c⟩⟩ ⟨bA,g1,g2,g5,g8,kP,kM,kA,bP,bM,ht,nz⟩;try simp only at bA g1 g2 g5 g8 bP bM ht
  replace kP:∀ n',St.get ⟨sto,n'⟩ P=some (.cells [slV p.zd p.D.length (p.D.flatMap Dc.cs),slV p.zt p.T.length (p.T.flatMap Td.cs)] false):=fun _=>kP;replace kM:∀ n',St.get ⟨sto,n'⟩ M=some (.map (esV es)):=fun _=>kM;replace kA:∀ n',St.get ⟨sto,n'⟩ A=some (.map (lsV N1)):=fun _=>kA;obtain⟨N2,hN2⟩:∃ N2,Dcs.nm p.D N1=N2:=⟨_,rfl⟩;refine NaW (fun x=>A<x.st.cnt∧x.env.get 1=.i .i64 at0∧x.env.get 2=.ptr P 0∧x.env.get 5=.mp M∧x.env.get 8=.mp A∧x.st.get P=some (.cells [slV p.zd p.D.length (p.D.flatMap Dc.cs),slV p.zt p.T.length (p.T.flatMap Td.cs)] false)∧x.st.get M=some (.map (esV es))∧x.st.get A=some (.map (lsV N2))∧P<x.st.cnt∧M<x.st.cnt∧(Top x.st)) ?_ ?_
  ·intro K5 hK5;refine Nhh hok ht ?_
   iterate 2
    (try rw[Z0]);(try simp(maxSteps:=9^7)(disch:=first|omega|rfl|assumption)only[↓Yaa,Yab,Nae,Naa,rA,rB,rC,rD,reduceIte,unP,rE,g1,g2,g5,g8,kP,kM,kA,lD])
   refine Z9 (k:=p.D.length - 0) (fun m x=>∃ (i:Nat) (a1:List (List UInt8)),m=p.D.length - i∧A<x.st.cnt∧x.env.get 1=.i .i64 at0∧x.env.get 2=.ptr P 0∧x.env.get 5=.mp M∧x.env.get 8=.mp A∧x.st.get P=some (.cells [slV p.zd p.D.length (p.D.flatMap Dc.cs),slV p.zt p.T.length (p.T.flatMap Td.cs)] false)∧x.st.get M=some (.map (esV es))∧x.st.get A=some (.map (lsV a1))∧P<x.st.cnt∧M<x.st.cnt∧x.env.get 63=slV p.zd p.D.length (p.D.flatMap Dc.cs)∧x.env.get 64=.i .i64 (p.D.length:Int)∧x.env.get 65=.i .i64 (i:Int)∧(i≤p.D.length)∧(Dcs.nm (p.D.drop i) a1=N2)) ?_ ?_ Zaa
   ·clear bA g1 g2 g5 g8 kP kM kA bP bM ht;rintro m ⟨env,⟨sto,c⟩⟩ ⟨i,a1,rfl,bA,g1,g2,g5,g8,kP,kM,kA,bP,bM,g63,g64,g65,hi,hob⟩;try simp only at bA g1 g2 g5 g8 bP bM g63 g64 g65
    replace kP:∀ n',St.get ⟨sto,n'⟩ P=some (.cells [slV p.zd p.D.length (p.D.flatMap Dc.cs),slV p.zt p.T.length (p.T.flatMap Td.cs)] false):=fun _=>kP;replace kM:∀ n',St.get ⟨sto,n'⟩ M=some (.map (esV es)):=fun _=>kM;replace kA:∀ n',St.get ⟨sto,n'⟩ A=some (.map (lsV a1)):=fun _=>kA;by_cases hil:i<p.D.length
    ·rw[Nan hil]at g63;obtain⟨d,he⟩:∃ d,p.D[i]=d:=⟨_,rfl⟩;have hld:=fun st=>NeL (st:=st) hil;simp only[he]at hld;rw[List.drop_eq_getElem_cons hil,he,Dcs.nm]at hob;have hmp:Na6 2 (.s d.O) (.i .i64 ((1:Nat):Int)) (lsV a1)=some (lsV (NdV d.O a1)):=NbX d.O a1;by_cases hI:d.O=[]
     ·have bI:(d.O==[])=true:=(by rw[hI];rfl);rw[if_pos hI]at hob
      iterate 7
       (try rw[Z0]);(try simp(maxSteps:=9^7)(disch:=first|omega|rfl|assumption)only[↓Yaa,Yab,Nae,Naa,rA,rB,rC,rD,reduceIte,unP,rE,g1,g2,g5,g8,kP,kM,kA,g63,g64,g65,hld,hD,bI,Bool.not_true])
      exact⟨p.D.length - (i+1),by omega,i+1,a1,rfl,rfl,(Nan hil).symm,rfl,by omega,hob⟩
     ·have bI:(d.O==[])=false:=(by simpa using hI);rw[if_neg hI]at hob
      iterate 7
       (try rw[Z0]);(try simp(maxSteps:=9^7)(disch:=first|omega|rfl|assumption)only[↓Yaa,Yab,Nae,Naa,rA,rB,rC,rD,reduceIte,unP,rE,g1,g2,g5,g8,kP,kM,kA,g63,g64,g65,hld,hD,bI,Bool.not_false,hmp,Option.map_some])
      exact⟨p.D.length - (i+1),by omega,i+1,NdV d.O a1,rfl,rfl,(Nan hil).symm,rfl,by omega,hob⟩
    ·have h0':p.D.drop i=[]:=List.drop_of_length_le Zaa;rw[h0',Dcs.nm]at hob
     iterate 5
      (try rw[Z0]);(try simp(maxSteps:=9^7)(disch:=first|omega|rfl|assumption)only[↓Yaa,Yab,Nae,Naa,rA,rB,rC,rD,reduceIte,unP,rE,g1,g2,g5,g8,kP,kM,kA,g63,g64,g65])
     intro ht2;refine hK5 _ ⟨Zab,?_,?_,?_,?_,?_,?_,(by rw[←hob];exact kA _),Zab,Zab,ht2⟩<;>first|with_reducible rfl|with_reducible assumption|exact kP _|exact kM _|(simp[Yad,g1,g2,g5,g8,g63,g64,g65]<;>omega)|(simp(disch:=omega)only[NaB,NaJ,Yaf,kP,kM,kA];first|done|with_reducible rfl|with_reducible assumption)
   ·skip
    refine⟨0,N1,rfl,Zab,?_,?_,?_,?_,?_,?_,?_,Zab,Zab,?_,?_,?_,Zac,(by rw[List.drop_zero];exact hN2)⟩<;>first|with_reducible rfl|with_reducible assumption|exact kP _|exact kM _|exact kA _|(simp[Yad,g1,g2,g5,g8]<;>omega)|(simp(disch:=omega)only[NaB,NaJ,Yaf,kP,kM,kA];first|done|with_reducible rfl|with_reducible assumption)
  clear bA g1 g2 g5 g8 kP kM kA bP bM ht;rintro⟨env,⟨sto,c⟩⟩ ⟨bA,g1,g2,g5,g8,kP,kM,kA,bP,bM,ht⟩;try simp only at bA g1 g2 g5 g8 bP bM ht
  replace kP:∀ n',St.get ⟨sto,n'⟩ P=some (.cells [slV p.zd p.D.length (p.D.flatMap Dc.cs),slV p.zt p.T.length (p.T.flatMap Td.cs)] false):=fun _=>kP;replace kM:∀ n',St.get ⟨sto,n'⟩ M=some (.map (esV es)):=fun _=>kM;replace kA:∀ n',St.get ⟨sto,n'⟩ A=some (.map (lsV N2)):=fun _=>kA;obtain⟨k,hk,gP⟩:∃ k:Nat,k<p.D.length∧∀ (st:St) (key:Nat),Nap (Nam cfg (NaI cfg (F+60)) 13) false st key [.i .i64 at0,.i .i64 (p.D.length:Int)]=some (.i .i64 (k:Int),st):=by
   obtain⟨r,st',h1,k,h2,h3⟩:=Njx hc (fuel:=F+59) (st:={ sto:=.leaf,cnt:=1 }) (x:=at0) (n:=(p.D.length:Int)) ⟨by omega,by omega⟩;exact⟨k,by omega,fun st key=>Naq rfl (NaA hx9 rfl (fun _=>rfl) ⟨r,st',h1,h3⟩) rfl⟩
  (try rw[Z0]);(try simp(maxSteps:=9^7)(disch:=first|omega|rfl|assumption)only[↓Yaa,Yab,Nae,Naa,rA,rB,rC,rD,reduceIte,unP,rE,g1,g2,g5,g8,kP,kM,kA,lD,gP]);(try rw[Z0]);(try simp(maxSteps:=9^7)(disch:=first|omega|rfl|assumption)only[↓Yaa,Yab,Nae,Naa,rA,rB,rC,rD,reduceIte,unP,rE,g1,g2,g5,g8,kP,kM,kA,Nai,Naf]);refine NaK (fun x=>∃ (Q:Nat),(A<Q)∧Q<x.st.cnt∧x.env.get 2=.ptr P 0∧x.env.get 8=.mp A∧x.env.get 13=.i .i64 (k:Int)∧x.env.get 14=.ptr Q 0∧x.st.get P=some (.cells [slV p.zd p.D.length (p.D.flatMap Dc.cs),slV p.zt p.T.length (p.T.flatMap Td.cs)] false)∧x.st.get A=some (.map (lsV N2))∧x.st.get Q=some (.cells [slV p.zd p.D.length (p.D.flatMap Dc.cs),slV p.zt p.T.length (p.T.flatMap Td.cs)] false)∧P<x.st.cnt∧A<x.st.cnt∧(P<A)∧(A<Q)∧(Top x.st)) ?_ ?_
  ·refine⟨c+56,Zac,Zab,?_,?_,Zag,?_,(by simp(disch:=omega)only[NaB,NaJ];exact kP _),(by simp(disch:=omega)only[NaB,NaJ];exact kA _),(by rw[Yaf]),Zab,Zab,Zac,Zac,(Top.put (Top.put (ht.le Zah) Zah) (by first|omega|(simp only[Nau];omega)))⟩<;>first|with_reducible rfl|with_reducible assumption|(simp[Yad,g1,g2,g5,g8]<;>omega)
  clear bA g1 g2 g5 g8 kP kM kA bP bM ht;rintro⟨env,⟨sto,c⟩⟩ ⟨Q,oQ,bQ,g2,g8,g13,g14,kP,kA,kQ,bP,bA,oP,oA,ht⟩;try simp only at bQ g2 g8 g13 g14 bP bA ht
  replace kP:∀ n',St.get ⟨sto,n'⟩ P=some (.cells [slV p.zd p.D.length (p.D.flatMap Dc.cs),slV p.zt p.T.length (p.T.flatMap Td.cs)] false):=fun _=>kP;replace kA:∀ n',St.get ⟨sto,n'⟩ A=some (.map (lsV N2)):=fun _=>kA;replace kQ:∀ n',St.get ⟨sto,n'⟩ Q=some (.cells [slV p.zd p.D.length (p.D.flatMap Dc.cs),slV p.zt p.T.length (p.T.flatMap Td.cs)] false):=fun _=>kQ;have hsp:=fun z cs=>Nan (z:=z) (cs:=cs) hk;rw[Z0];refine Nhg (NeF hok _) (NeG hok _).2 [Q,c,c+40,c+88] (by rfl) (ns:=[false,false,false,false,false,false,true,true,true,true,true,false,false,false]) (by rfl) ht ?_;have kn:∀ d,d≠0→d≠40→d≠88→c+d∉[Q,c,c+40,c+88]:=fun d a b e h=>by
   simp only[List.mem_cons,List.not_mem_nil,or_false]at h;omega
  have hnn:∀ d n',St.get ⟨sto,n'⟩ (c+d)=none:=fun d _=>ht (c+d) Zad;have nP:P∉[Q,c,c+40,c+88]:=fun h=>by
   simp only[List.mem_cons,List.not_mem_nil,or_false]at h;omega
  have hto:=NnY (l:=p.D) (k:=k) Zaa;have hfr:=Nno (l:=p.D) (k:=k+1) Zaa;have hce:=fun st=>Nf9 st (p.D.take k);have hcd:=fun st=>Nf9 st (p.D.drop (k+1));have hon:=NjN (p.D.take k);have hond:=NjN (p.D.drop (k+1));have hwk:IntKind.i64.wrap ((k:Int)+((1:Nat):Int))=((k+1:Nat):Int):=NaZ _ ⟨by omega,by omega⟩;(first|rw[Na5]|rw[NaN]);(try simp(maxSteps:=9^7)(disch:=first|omega|rfl|assumption)only[↓Yaa,Yac,Nae,Naa,rA,rB,rC,rD,reduceIte,unP,Xl,rE,NbK,Nbw,Nbl,NaU,NaP,NaX,NaY,g2,g8,g13,g14,kP,kA,kQ,hsp,Nfy,Nfz,hto,hce,hon]);(first|rw[Na5]|rw[NaN]);(try simp(maxSteps:=9^7)(disch:=first|omega|rfl|assumption)only[↓Yaa,Yac,Nae,Naa,rA,rB,rC,rD,reduceIte,unP,Xl,rE,NbK,Nbw,Nbl,NaU,NaP,NaX,NaY,g2,g8,g13,g14,kP,kA,kQ,hsp,Nfy,Nfz,hto,hce,hon]);(first|rw[Na5]|rw[NaN]);(try simp(maxSteps:=9^7)(disch:=first|omega|rfl|assumption)only[↓Yaa,Yac,Nae,Naa,rA,rB,rC,rD,reduceIte,unP,Xl,rE,NbK,Nbw,Nbl,NaU,NaP,NaX,NaY,g2,g8,g13,g14,kP,kA,kQ,hsp,Nfy,Nfz,hto,hce,hon]);(first|rw[Na5]|rw[NaN]);(try simp(maxSteps:=9^7)(disch:=first|omega|rfl|assumption)only[↓Yaa,Yac,Nae,Naa,rA,rB,rC,rD,reduceIte,unP,Xl,rE,NbK,Nbw,Nbl,NaU,NaP,NaX,NaY,g2,g8,g13,g14,kP,kA,kQ,hsp,Nfy,Nfz,hto,hce,hon]);(first|rw[Na5]|rw[NaN]);(try simp(maxSteps:=9^7)(disch:=first|omega|rfl|assumption)only[↓Yaa,Yac,Nae,Naa,rA,rB,rC,rD,reduceIte,unP,Xl,rE,NbK,Nbw,Nbl,NaU,NaP,NaX,NaY,g2,g8,g13,g14,kP,kA,kQ,hsp,Nfy,Nfz,hto,hce,hon]);(first|rw[Na5]|rw[NaN]);(try simp(maxSteps:=9^7)(disch:=first|omega|rfl|assumption)only[↓Yaa,Yac,Nae,Naa,rA,rB,rC,rD,reduceIte,unP,Xl,rE,NbK,Nbw,Nbl,NaU,NaP,NaX,NaY,g2,g8,g13,g14,kP,kA,kQ,hsp,Nfy,Nfz,hto,hce,hon]);refine⟨fun _=>⟨fun h=>by simp[NdT,NhP]at h,nofun⟩,Ncw rfl,Ngy (kn 8 Zaa Zaa Zaa),Ncw rfl,⟨kn 16 Zaa Zaa Zaa,nofun⟩,Ncw rfl,Ngy (kn 24 Zaa Zaa Zaa),Ncw rfl,Ngy (kn 32 Zaa Zaa Zaa),Ncw rfl,by rw[Nbw _ _ _ _ _ _ _ rfl];trivial,?_⟩;have hEt:=NaG Dc.cs_len (p.D.take k);have hEd:=NaG Dc.cs_len (p.D.drop (k+1));have hlt:(p.D.take k).length≤64:=by rw[List.length_take];omega
  have hldd:(p.D.drop (k+1)).length≤64:=by rw[List.length_drop];omega
  refine Nhk (cs:=[]) (.inr ⟨c,rfl,Yaf _ _ _,rfl,by simp only[Nau];omega⟩:Own _ 5 (.rsl c 5 0 0) 0 []) Zal (by simp[keyOf]) hEt Zaa (by unfold maxBytes;omega) ?_;intro v1 st1 ow1 cn1 ky1 fr1;simp only[Nau]at cn1;rw[Nat.zero_add,Zam]at ow1;have f1:∀ q,q≠c→q≠c+40→st1.get q=St.get ⟨sto,c⟩ q:=fun q a b=>by
   rw[fr1 q b (by simpa[keyOf]using a),Yae (Ne.symm a)];rfl
  refine⟨by rw[NaP _ _ _ _ _ _ _ rfl];exact fun q a b=>fr1 q a (by simp only[keyOf,List.mem_singleton];exact fun e=>b (by rw[e];simp)),?_⟩;have gP1:∀ n',St.get ⟨st1.sto,n'⟩ P=some (.cells [slV p.zd p.D.length (p.D.flatMap Dc.cs),slV p.zt p.T.length (p.T.flatMap Td.cs)] false):=fun _=>(f1 P Zaa Zaa).trans (kP c);have gQ1:∀ n',St.get ⟨st1.sto,n'⟩ Q=some (.cells [slV p.zd p.D.length (p.D.flatMap Dc.cs),slV p.zt p.T.length (p.T.flatMap Td.cs)] false):=fun _=>(f1 Q Zaa Zaa).trans (kQ c);have gA1:∀ n',St.get ⟨st1.sto,n'⟩ A=some (.map (lsV N2)):=fun _=>(f1 A Zaa Zaa).trans (kA c);have n1:∀ d,40<d→st1.get (c+d)=none:=fun d hd=>(f1 _ Zaa Zaa).trans (hnn d c);obtain⟨sto1,c1⟩:=st1;simp only at cn1;subst cn1;(first|rw[Na5]|rw[NaN]);(try simp(maxSteps:=9^7)(disch:=first|omega|rfl|assumption)only[↓Yaa,Yac,Nae,Naa,rA,rB,rC,rD,reduceIte,unP,Xl,rE,NbK,Nbw,Nbl,NaU,NaP,NaX,NaY,g2,g8,g13,g14,gP1,hsp,Nfy,Nfz,hwk,hfr,hcd,hond]);(first|rw[Na5]|rw[NaN]);(try simp(maxSteps:=9^7)(disch:=first|omega|rfl|assumption)only[↓Yaa,Yac,Nae,Naa,rA,rB,rC,rD,reduceIte,unP,Xl,rE,NbK,Nbw,Nbl,NaU,NaP,NaX,NaY,g2,g8,g13,g14,gP1,hsp,Nfy,Nfz,hwk,hfr,hcd,hond]);(first|rw[Na5]|rw[NaN]);(try simp(maxSteps:=9^7)(disch:=first|omega|rfl|assumption)only[↓Yaa,Yac,Nae,Naa,rA,rB,rC,rD,reduceIte,unP,Xl,rE,NbK,Nbw,Nbl,NaU,NaP,NaX,NaY,g2,g8,g13,g14,gP1,hsp,Nfy,Nfz,hwk,hfr,hcd,hond]);(first|rw[Na5]|rw[NaN]);(try simp(maxSteps:=9^7)(disch:=first|omega|rfl|assumption)only[↓Yaa,Yac,Nae,Naa,rA,rB,rC,rD,reduceIte,unP,Xl,rE,NbK,Nbw,Nbl,NaU,NaP,NaX,NaY,g2,g8,g13,g14,gP1,hsp,Nfy,Nfz,hwk,hfr,hcd,hond]);(first|rw[Na5]|rw[NaN]);(try simp(maxSteps:=9^7)(disch:=first|omega|rfl|assumption)only[↓Yaa,Yac,Nae,Naa,rA,rB,rC,rD,reduceIte,unP,Xl,rE,NbK,Nbw,Nbl,NaU,NaP,NaX,NaY,g2,g8,g13,g14,gP1,hsp,Nfy,Nfz,hwk,hfr,hcd,hond]);(first|rw[Na5]|rw[NaN]);(try simp(maxSteps:=9^7)(disch:=first|omega|rfl|assumption)only[↓Yaa,Yac,Nae,Naa,rA,rB,rC,rD,reduceIte,unP,Xl,rE,NbK,Nbw,Nbl,NaU,NaP,NaX,NaY,g2,g8,g13,g14,gP1,hsp,Nfy,Nfz,hwk,hfr,hcd,hond]);have k1:∀ q,q∈keyOf v1→q=c+40:=ky1;refine⟨by rw[Nbl _ _ _ _ _ _ _ rfl rfl];exact kn 48 Zaa Zaa Zaa,NcR rfl (NjB _ _) (n1 48 Zaa),⟨kn 56 Zaa Zaa Zaa,fun _ k o h=>by cases h;exact⟨by omega,nP⟩⟩,NcR rfl (NgE _ _) (n1 56 Zaa),by rw[Nbl _ _ _ _ _ _ _ rfl rfl];exact kn 64 Zaa Zaa Zaa,NcR rfl (Nin _ _) (n1 64 Zaa),by rw[Nbl _ _ _ _ _ _ _ rfl rfl];exact kn 72 Zaa Zaa Zaa,NcR rfl (Nin _ _) (n1 72 Zaa),by rw[Nbl _ _ _ _ _ _ _ rfl rfl];exact kn 80 Zaa Zaa Zaa,NcR rfl (NgE _ _) (n1 80 Zaa),by rw[Nbw _ _ _ _ _ _ _ rfl];trivial,?_⟩;refine Nhk ow1 Zad (fun h=>by have:=k1 _ h;omega) hEd Zaa (by unfold maxBytes;omega) ?_;intro v2 st2 ow2 cn2 ky2 fr2;simp only at cn2;have f2:∀ q,q≠c+40→q≠c+88→st2.get q=St.get ⟨sto1,c+112⟩ q:=fun q a b=>fr2 q b (fun h=>a (k1 q h));refine⟨by rw[NaP _ _ _ _ _ _ _ rfl];exact fun q a b=>fr2 q a (fun h=>b (by rw[k1 q h];simp)),?_⟩;have gP2:∀ n',St.get ⟨st2.sto,n'⟩ P=some (.cells [slV p.zd p.D.length (p.D.flatMap Dc.cs),slV p.zt p.T.length (p.T.flatMap Td.cs)] false):=fun _=>(f2 P Zaa Zaa).trans (gP1 _);have gQ2:∀ n',St.get ⟨st2.sto,n'⟩ Q=some (.cells [slV p.zd p.D.length (p.D.flatMap Dc.cs),slV p.zt p.T.length (p.T.flatMap Td.cs)] false):=fun _=>(f2 Q Zaa Zaa).trans (gQ1 _);have gA2:∀ n',St.get ⟨st2.sto,n'⟩ A=some (.map (lsV N2)):=fun _=>(f2 A Zaa Zaa).trans (gA1 _);obtain⟨sto2,c2⟩:=st2;simp only at cn2 gP2 gQ2 gA2;subst cn2;obtain⟨hv2c,hv2o⟩:=Nle ow2;(first|rw[Na5]|rw[NaN]);(try simp(maxSteps:=9^7)(disch:=first|omega|rfl|assumption)only[↓Yaa,Yac,Nae,Naa,rA,rB,rC,rD,reduceIte,unP,Xl,rE,NbK,Nbw,Nbl,NaU,NaP,NaX,NaY,g2,g8,g13,g14,gQ2]);(first|rw[Na5]|rw[NaN]);(try simp(maxSteps:=9^7)(disch:=first|omega|rfl|assumption)only[↓Yaa,Yac,Nae,Naa,rA,rB,rC,rD,reduceIte,unP,Xl,rE,NbK,Nbw,Nbl,NaU,NaP,NaX,NaY,g2,g8,g13,g14,gQ2]);refine⟨Ngy (kn 96 Zaa Zaa Zaa),Ncw rfl,by rw[Nbw _ _ _ _ _ _ _ rfl];trivial,⟨by rw[hv2c];rfl,by rw[hv2c];simp[hv2o]⟩,by rw[NaP _ _ _ _ _ _ _ rfl];exact fun q a b=>Yae (fun e=>b (by rw[e];simp)),?_⟩;rw[Nkb];obtain⟨D2,hD2⟩:∃ D2,p.D.take k++p.D.drop (k+1)=D2:=⟨_,rfl⟩;have hDl2:D2.length=(p.D.take k).length+(p.D.drop (k+1)).length:=by rw[←hD2,List.length_append]
  rw[←List.flatMap_append,←hDl2,hD2]at ow2;have k2:∀ q,q∈keyOf v2→q<c+112:=fun q hq=>ow2.lt q hq;refine NaK (fun x=>x.env.get 2=.ptr P 0∧x.env.get 8=.mp A∧x.env.get 13=.i .i64 (k:Int)∧x.env.get 14=.ptr Q 0∧x.st.get P=some (.cells [slV p.zd p.D.length (p.D.flatMap Dc.cs),slV p.zt p.T.length (p.T.flatMap Td.cs)] false)∧x.st.get A=some (.map (lsV N2))∧x.st.get Q=some (.cells [v2,slV p.zt p.T.length (p.T.flatMap Td.cs)] false)∧(Own x.st 5 v2 D2.length (D2.flatMap Dc.cs))) ?_ ?_
  ·refine⟨?_,?_,?_,?_,(by simp(disch:=omega)only[NaB,NaJ];exact gP2 _),(by simp(disch:=omega)only[NaB,NaJ];exact gA2 _),(by rw[Yaf,hv2c];rfl),(by exact ow2.put (fun h=>by have:=ky2 _ h;omega))⟩<;>first|with_reducible rfl|with_reducible assumption|(simp[Yad,g2,g8,g13,g14]<;>omega)
  clear bQ g2 g8 g13 g14 kP kA kQ bP bA ht;rintro⟨env,⟨sto,c⟩⟩ ⟨g2,g8,g13,g14,kP,kA,kQ,ho2⟩;try simp only at g2 g8 g13 g14 ho2
  replace kP:∀ n',St.get ⟨sto,n'⟩ P=some (.cells [slV p.zd p.D.length (p.D.flatMap Dc.cs),slV p.zt p.T.length (p.T.flatMap Td.cs)] false):=fun _=>kP;replace kA:∀ n',St.get ⟨sto,n'⟩ A=some (.map (lsV N2)):=fun _=>kA;replace kQ:∀ n',St.get ⟨sto,n'⟩ Q=some (.cells [v2,slV p.zt p.T.length (p.T.flatMap Td.cs)] false):=fun _=>kQ;obtain⟨z2,hz2⟩:=Ng5 (f:=9) (ho2.cnt (c':=c+144) Zaa) rfl;have hdq:Na9 ⟨sto,c+144⟩ [.agg [v2,slV p.zt p.T.length (p.T.flatMap Td.cs)]]=some [.agg [slV z2 D2.length (D2.flatMap Dc.cs),slV p.zt p.T.length (p.T.flatMap Td.cs)]]:=Nbh (Nhx hz2 (NjD _ 10 _ _ _));have hDl3:D2.length≤p.D.length:=by rw[hDl2,List.length_take,List.length_drop];omega
  obtain⟨C2,hC2⟩:∃ C2,Nb5 ⟨z2,D2,p.zt,p.T⟩=C2:=⟨_,rfl⟩;have gC2:Nam cfg (NaI cfg (F+60)) 9 [.agg [slV z2 D2.length (D2.flatMap Dc.cs),slV p.zt p.T.length (p.T.flatMap Td.cs)]]=some (.agg [.i .i64 C2.1,.i .i64 C2.2]):=NaA hx8 (NdQ _ _) (fun _=>rfl) (by
   have:=Ngd hc (p:=⟨z2,D2,p.zt,p.T⟩) (q:=F+57) (st:={ sto:=.leaf,cnt:=1 }) Zad Zad;rw[hC2]at this;exact this)
  have hpl:=NfP hz hk z2;rw[hD2,hC2,hN1,hN2]at hpl;have cbA:PV.closedB (.agg [.i .i64 C2.1,.i .i64 C2.2])=true:=rfl;have rbA:∀ (st:St) (key:Nat),Nav st key (.agg [.i .i64 C2.1,.i .i64 C2.2])=some (.agg [.i .i64 C2.1,.i .i64 C2.2],st):=fun _ _=>rfl;have cbB:∀ x,PV.closedB (.b x)=true:=fun _=>rfl;have rbB:∀ (st:St) (key:Nat) x,Nav st key (.b x)=some (.b x,st):=fun _ _ _=>rfl;have dn:∀ st:St,Na9 st []=some []:=fun _=>rfl;obtain⟨d,he⟩:∃ d,p.D[k]=d:=⟨_,rfl⟩;have hldS:=fun st=>(Ngt (st:=st) hk).1;simp only[he]at hldS;rw[he]at hpl;have hmg:=Nci d.S N2;have hv2':v2.one=true:=hv2o;have et:NiQ false (.b true) (.b true)=some (.b true):=rfl;have ef:NiQ false (.b false) (.b false)=some (.b true):=rfl;cases hh:Nbv d.S N2 with
  |true =>
    rw[hh,decide_eq_true_eq]at hpl;rw[hh,if_pos rfl]at hmg;have b1:(C2.1==Int.ofNat 110)=true:=(by rw[hpl];rfl);have b2:(Int.ofNat 1==Int.ofNat 1)=true:=rfl
    iterate 2
     (try rw[Z0]);(try simp(maxSteps:=9^7)(disch:=first|omega|rfl|assumption)only[↓Yaa,Yab,Nae,Naa,rA,rB,rC,rD,reduceIte,unP,rE,g2,g8,g13,g14,kP,kA,kQ,hdq,gC2,cbA,rbA,cbB,rbB,dn,hsp,hD,hldS,hmg,Option.map_some,Option.getD_some,b1,b2,hv2c,hv2',Nai,Naf,awq,et,ef])
    exact⟨nofun,_,rfl,by simp only[NaF,Yad,if_true]⟩
  |false =>
    rw[hh,decide_eq_false_iff_not]at hpl;rw[hh,if_neg Zaf]at hmg;have b1:(C2.1==Int.ofNat 110)=false:=(by simpa using hpl);have b2:(Int.ofNat 0==Int.ofNat 1)=false:=rfl
    iterate 2
     (try rw[Z0]);(try simp(maxSteps:=9^7)(disch:=first|omega|rfl|assumption)only[↓Yaa,Yab,Nae,Naa,rA,rB,rC,rD,reduceIte,unP,rE,g2,g8,g13,g14,kP,kA,kQ,hdq,gC2,cbA,rbA,cbB,rbB,dn,hsp,hD,hldS,hmg,Option.map_some,Option.getD_none,b1,b2,hv2c,hv2',Nai,Naf,awq,et,ef])
    exact⟨nofun,_,rfl,by simp only[NaF,Yad,if_true]⟩
 ·have b0:(C.1 != Int.ofNat 0)=true:=by simpa using h0
  iterate 3
   (try rw[Z0]);(try simp(maxSteps:=9^7)(disch:=first|omega|rfl|assumption)only[↓Yaa,Yab,Nae,Naa,rA,rB,rC,rD,reduceIte,unP,rE,gH,gC,b0,aw])
  exact⟨nofun,_,rfl,by simp only[NaF,Yad,if_true]⟩
theorem NhL(f:Nat)(cs:List PV)(h:(Nif f).Is cs)(n:Int):∃ fuel,evP cfgKp fuel 3 [.agg cs,.i .i64 n]=some (.b true):=by
 obtain⟨p,rfl,hwf⟩:=NnO f cs h;exact Njc hwf
end Go.Pe
