/-
 Epochs: what the laws Grows and Keeps share: trace, the same kept. No condition.
-/
import Derived.Test.YtafdphmhbnjfaaaGreatDoorZGrtE
import Derived.Test.YtafdphmhbnjfaaaGreatDoorZCoeF
import Derived.Test.YtafdphmhbnjfaaaGreatDoorZRacN
import Derived.Test.YtafdphmhbnjfaaaGreatDoorZEpoG
set_option linter.unusedVariables false
set_option linter.unusedSimpArgs false
set_option maxRecDepth 100000
open Nat renaming reduceAdd → rA,reduceMul → rB,reduceLT → rC,reduceEqDiff → rD,reduceLeDiff → rE
namespace Go.Pe
open Go Go.Am Go.RowKit
theorem NlG:fvP cfgNx 400 9 []=some (.b true):=by kernel_rfl
theorem NgE(args:List PV)(r:PV)(h:gTrue args=some r):∃ fuel,evP cfgNx fuel 9 args=some r:=by
 unfold gTrue at h;split at h
 ·rw[←h];refine⟨400,?_⟩;have:=NlG;rwa[NmS]at this
 ·cases h
def NqC:FuncId→Option (List PV→Option PV):=fun f=>if f=60 then some gNext else if f=87 then some gJoin else if f=56 then some gTick else none
theorem NjT{Gl:Gmap}{m:Int}(hg:Gl 0 0=some (.int .i64 m)):∀ f g,NqC f=some g→NbR Go.Proofs.Tryz.prog Gl f g:=by
 intro f g h;unfold NqC at h;split at h
 ·rename_i e;simp only[Sj]at h;subst h;subst e;exact NgV (Nh4 hg)
 split at h
 ·rename_i e;simp only[Sj]at h;subst h;subst e;exact Nn1
 split at h
 ·rename_i e;simp only[Sj]at h;subst h;subst e;exact NoD
 ·cases h
noncomputable def cfgR:Cfg:={ fn:=fun f=>Ndt f tblL,ext:=NqC }
theorem Nnl{Gl:Gmap}{m:Int}(hg:Gl 0 0=some (.int .i64 m)):CfgOK Go.Proofs.Tryz.prog Gl cfgR:=NfX Ngp (NjT hg)
theorem No2:CfgZ cfgR where
 nx:=by rfl
 fn:=fun _ _ h=>h
 jn:=by rfl
 tk:=by rfl
 x1:=by rfl
 x2:=by rfl
 x3:=by rfl
 x4:=by rfl
 x5:=by rfl
 x6:=by rfl
 x7:=by rfl
 x8:=by rfl
 x9:=by rfl
 y1:=by rfl
 y2:=by rfl
 y3:=by rfl
 y4:=by rfl
 y5:=by rfl
 y6:=by rfl
 z1:=by rfl
 z2:=by rfl
 z3:=by rfl
 z4:=by rfl
 z5:=by rfl
 z6:=by rfl
 z7:=by rfl
 z8:=by rfl
 r1:=by rfl
 r2:=by rfl
 r3:=by rfl
 r4:=by rfl
 r5:=by rfl
 r6:=by rfl
 r7:=by rfl
 r8:=by rfl
 a1:=by rfl
 a2:=by rfl
 a3:=by rfl
 a4:=by rfl
 k1:=by rfl
 k2:=by rfl
 k3:=by rfl
 k4:=by rfl
 k5:=by rfl
 k6:=by rfl
 k7:=by rfl
 k8:=by rfl
 k9:=by rfl
theorem Ndm{α:Type}(f:α→Nat):∀ l:List α,∃ B,∀ a,a∈l→f a≤B
 |[]=>⟨0,by simp⟩
 |a::r=>by
   obtain⟨B,hB⟩:=Ndm f r;refine⟨f a+B,fun b hb=>?_⟩;rcases List.mem_cons.1 hb with rfl|hb
   ·omega
   ·have:=hB b hb;omega
theorem NmM(cd:Cd)(M:Nat):∃ F,CdF cd F∧M≤F:=by
 obtain⟨B1,h1⟩:=Ndm (fun t:Tx=>t.C.length) cd.T;obtain⟨B2,h2⟩:=Ndm (fun t:Tx=>Classical.choose (Ndm (fun x:In=>Exs.size x.A+x.A.length+100) t.C)) cd.T;refine⟨cd.O.length+cd.T.length+B1+B2+M,⟨by omega,by omega,fun t ht=>by have:=h1 t ht;(try simp only at this);omega,fun t ht x hx=>?_⟩,by omega⟩;have a1:=Classical.choose_spec (Ndm (fun x:In=>Exs.size x.A+x.A.length+100) t.C) x hx;have a2:=h2 t ht;try simp only at a1 a2
 omega
theorem CdF.up{cd:Cd}{F F':Nat}(h:CdF cd F)(hF:F≤F'):CdF cd F':=⟨Nat.le_trans h.o hF,Nat.le_trans h.t hF,fun t ht=>Nat.le_trans (h.c t ht) hF,fun t ht x hx=>Nat.le_trans (h.a t ht x hx) hF⟩
theorem Nnp(cd:Cd)(hwf:cd.wf):∃ ck:Int,(∃ fuel,evP cfgR fuel 47 [.agg (Cd.cs cd)]=some (.i .i64 ck))∧(ck=0→OkC cd∧∀ d,d∈cd.O→Ngq cd d=true):=by
 obtain⟨F,hF,-⟩:=NmM cd 0;obtain⟨ck,h1,h2⟩:=Nhs (F:=F) No2 hwf hF;exact⟨ck,⟨F+50,h1⟩,h2⟩
noncomputable def NqB(cd:Cd)(hwf:cd.wf):Int:=Classical.choose (Nnp cd hwf)
theorem Nls(cd:Cd)(hwf:cd.wf):∃ fuel,evP cfgR fuel 47 [.agg (Cd.cs cd)]=some (.i .i64 (NqB cd hwf)):=(Classical.choose_spec (Nnp cd hwf)).1
theorem Nno(cd:Cd)(hwf:cd.wf):NqB cd hwf=0→OkC cd∧∀ d,d∈cd.O→Ngq cd d=true:=(Classical.choose_spec (Nnp cd hwf)).2
open Classical in
noncomputable def gCk(cd:Cd)(hwf:cd.wf):List PV→Option PV:=fun args=>if args=[.agg (Cd.cs cd)]then some (.i .i64 (NqB cd hwf))else none
theorem No3(cd:Cd)(hwf:cd.wf)(args:List PV)(r:PV)(h:gCk cd hwf args=some r):∃ fuel,evP cfgR fuel 47 args=some r:=by
 unfold gCk at h;split at h
 ·rename_i e;simp only[Sj]at h;subst h;subst e;exact Nls cd hwf
 ·cases h
theorem NlH{cfg:Cfg}{f:FuncId}(hx:cfg.ext f=none){fuel:Nat}{args:List PV}{r:PV}(ho:NaS args=(args,{ sto:=.leaf,cnt:=1 }))(hc:∀ st,NaY st r=some r)(h:∃ r' st',NaM cfg fuel f args { sto:=.leaf,cnt:=1 }=some (r',st')∧r'=r):evP cfg fuel f args=some r:=by
 obtain⟨r',st',h1,h2⟩:=h;exact NeH hx ho ⟨r',st',h1,by rw[h2];exact hc st'⟩
noncomputable def NqW(cd:Cd)(hwf:cd.wf):FuncId→Option (List PV→Option PV):=fun f=>if f=9 then some gTrue else if f=47 then some (gCk cd hwf)else NqC f
theorem NnC{cd:Cd}{hwf:cd.wf}{Gl:Gmap}{m:Int}(hg:Gl 0 0=some (.int .i64 m)):∀ f g,NqW cd hwf f=some g→NbR Go.Proofs.Tryz.prog Gl f g:=by
 intro f g h;unfold NqW at h;split at h
 ·rename_i e;simp only[Sj]at h;subst h;subst e;exact NkG (Nlp hg) NgE
 split at h
 ·rename_i e;simp only[Sj]at h;subst h;subst e;exact NkG (Nnl hg) (No3 cd hwf)
 ·exact NjT hg f g h
theorem NjZ{l:List Et}{n:Nat}:(l.flatMap Et.cs).take (n * 5)=(l.take n).flatMap Et.cs:=by
 induction l generalizing n with
 |nil=>simp
 |cons a r ih =>
   cases n with
   |zero=>simp
   |succ n =>
     rw[List.take_succ_cons,List.flatMap_cons,List.flatMap_cons,←ih,List.take_append,Et.cs_len,List.take_of_length_le (by rw[Et.cs_len];omega)]
     congr 2
     omega
theorem NpK(n:Nat)(cs:List PV):slV false n cs=.fsl n cs:=by unfold slV;rw[if_neg Zag]
theorem NkD{cfg:Cfg}(hc:CfgG cfg){fuel:Nat}(hf:1≤fuel)(x:Int){n:Int}(hn:1≤n∧n≤4611686018427387904):∃ p:Nat,(p:Int)<n∧Nan cfg (NaM cfg fuel) 18 [.i .i64 x,.i .i64 n]=some (.i .i64 (p:Int)):=by
 obtain⟨q,rfl⟩:∃ q,fuel=q+1:=⟨fuel - 1,by omega⟩;obtain⟨r,st',h1,p,h2,h3⟩:=Nmn (fuel:=q) (st:={ sto:=.leaf,cnt:=1 }) (x:=x) hc hn;exact⟨p,h2,NaF hc.n3 rfl (fun _=>rfl) ⟨r,st',h1,h3⟩⟩
theorem Nr9(k:Nat)(l:List Et):Ni9 (.i .i64 (l.length:Int)) [.i .i64 ((k:Nat):Int)]=some (.i .i64 ((l.take k).length:Int)):=by
 unfold Ni9;simp only[if_true,List.length_take];unfold Ni9
 congr 2
 split<;>omega
theorem NpO(k:Nat)(l:List Et):Ncf 5 none (some (.i .i64 ((l.take k).length:Int))) (.fsl l.length (l.flatMap Et.cs))=some (.fsl (l.take k).length ((l.take k).flatMap Et.cs)):=by
 have h1:(l.take k).length≤l.length:=by rw[List.length_take];omega
 have h2:(l.flatMap Et.cs).take ((l.take k).length * 5)=(l.take k).flatMap Et.cs:=by
  rw[NjZ]
  congr 1
  rw[List.length_take];by_cases h:k≤l.length
  ·rw[Nat.min_eq_left h]
  ·rw[Nat.min_eq_right Zaa,List.take_of_length_le (Nat.le_refl _),List.take_of_length_le Zaa]
 have hE:=NaO Et.cs_len l;unfold Ncf;simp only[bound];rw[if_pos ⟨by omega,by omega⟩];simp only[Int.toNat_natCast,Nat.sub_zero,Nat.zero_mul,List.drop_zero];rw[if_pos hE,h2]
theorem Nrr(r:Nat×Nat):(Nem r).length=2:=rfl
theorem NiB(rs:List (Nat×Nat)):OutV (NoM rs) 2 rs.length (rs.flatMap Nem):=by
 unfold NoM;split
 ·rename_i h;rw[h];exact .inl ⟨rfl,rfl,rfl⟩
 ·exact .inr rfl
theorem NiA(rs:List (Nat×Nat)):clO (rs.flatMap Nem)=true:=by
 unfold clO;rw[List.all_eq_true];intro p hp;obtain⟨e,-,he⟩:=List.mem_flatMap.1 hp;simp only[Nem,List.mem_cons,List.not_mem_nil,or_false]at he;rcases he with rfl|rfl<;>rfl
theorem NkB{z z':Bool}{n m:Nat}{a b:List PV}:NaS [slV z n a,slV z' m b]=([slV z n a,slV z' m b],{ sto:=.leaf,cnt:=1 }):=by
 unfold slV;split<;>split<;>rfl
theorem NiC{rs:List (Nat×Nat)}{i:Nat}(h:i<rs.length):List.take 2 (List.drop (i * 2) (rs.flatMap Nem))=[.i .i64 (rs[i].1:Int),.i .i64 (rs[i].2:Int)]:=by
 rw[NbV Nrr h];rfl
end Go.Pe
set_option maxHeartbeats 8000000
namespace Go.Pe
open Go Go.Am Go.RowKit
section
variable {cfg:Cfg}{fuel:Nat}{st:St}{s:Sn}{z:Bool}
theorem Nk6(hf:cfg.fn 8=some m8){cd:Cd}{l:List Et}(hl:l.length≤fuel)(hO:cd.O.length≤reachBytes)(hT:cd.T.length≤reachBytes)(hr:l.length≤reachBytes) :
 ∃ r st',NaM cfg (fuel+1) 8 [.agg (Cd.cs cd),slV z l.length (l.flatMap Et.cs)] st=some (r,st')∧r=.b (l.all (etB cd)):=by
 refine NaE hf ?_;delta m8 Qr Qg Ql Qt Qn Qs Qk Qm Qh Qi Qu Qv Qo Cd.cs;have hrb:reachBytes<4611686018427387904:=by decide
 have hlv:=NaL z l.length (l.flatMap Et.cs);have lD:=NaL cd.zo cd.O.length (cd.O.flatMap Dc.cs);have lT:=NaL cd.zt cd.T.length (cd.T.flatMap Tx.cs);have hE:=NaO Et.cs_len l;obtain⟨R,hR⟩:∃ R,l.all (etB cd)=R:=⟨_,rfl⟩;rw[hR];obtain⟨sto0,c0⟩:=st;simp only[Nao];(try rw[Z0]);(try simp(maxSteps:=9^7)(disch:=first|omega|rfl|assumption)only[↓Yaa,Yab,Nae,Naa,rA,rB,rC,rD,reduceIte,unP,rE,Nag,Naf]);refine NaN (fun x=>∃ (B:Nat),B<x.st.cnt∧x.env.get 1=slV z l.length (l.flatMap Et.cs)∧x.env.get 2=.ptr B 0∧x.st.get B=some (.cells [slV cd.zo cd.O.length (cd.O.flatMap Dc.cs),slV cd.zt cd.T.length (cd.T.flatMap Tx.cs)] false)) ?_ ?_
 ·refine⟨c0,?_,Zab,Zab,?_⟩<;>first|with_reducible rfl|with_reducible assumption|exact kB _|omega|(simp only[Z0L_,Naz];omega)|(simp only;omega)|(simp(disch:=omega)only[Nas,Nau,Yaf];first|done|with_reducible rfl|with_reducible assumption)
 rintro⟨env,⟨sto,c⟩⟩ ⟨B,bB,g1,g2,kB⟩;try simp only at bB g1 g2
 replace kB:∀ n',St.get ⟨sto,n'⟩ B=some (.cells [slV cd.zo cd.O.length (cd.O.flatMap Dc.cs),slV cd.zt cd.T.length (cd.T.flatMap Tx.cs)] false):=fun _=>kB
 iterate 2
  (try rw[Z0]);(try simp(maxSteps:=9^7)(disch:=first|omega|rfl|assumption)only[↓Yaa,Yab,Nae,Naa,rA,rB,rC,rD,reduceIte,unP,rE,g1,g2,kB,hlv])
 refine Z9 (k:=l.length - 0) (fun m x=>∃ (i:Nat),m=l.length - i∧x.env.get 2=.ptr B 0∧x.env.get 7=slV z l.length (l.flatMap Et.cs)∧x.env.get 8=.i .i64 (l.length:Int)∧x.env.get 9=.i .i64 (i:Int)∧x.st.get B=some (.cells [slV cd.zo cd.O.length (cd.O.flatMap Dc.cs),slV cd.zt cd.T.length (cd.T.flatMap Tx.cs)] false)∧B<x.st.cnt∧(i≤l.length)∧((l.drop i).all (etB cd)=R)) ?_ ?_ Zaa
 ·clear bB g1 g2 kB;rintro m ⟨env,⟨sto,c⟩⟩ ⟨i,rfl,g2,g7,g8,g9,kB,bB,hi,hob⟩;try simp only at g2 g7 g8 g9 bB
  replace kB:∀ n',St.get ⟨sto,n'⟩ B=some (.cells [slV cd.zo cd.O.length (cd.O.flatMap Dc.cs),slV cd.zt cd.T.length (cd.T.flatMap Tx.cs)] false):=fun _=>kB;by_cases hil:i<l.length
  ·rw[NaG hil]at g7;obtain⟨e,he⟩:∃ e,l[i]=e:=⟨_,rfl⟩;have hld:=fun st=>NdL (st:=st) hil;simp only[he]at hld;rw[List.drop_eq_getElem_cons hil,he,List.all_cons]at hob;by_cases c1:e.T<0
   ·have hb:etB cd e=false:=(by unfold etB;simp;omega);rw[hb,Bool.false_and]at hob
    iterate 9
     (try rw[Z0]);(try simp(maxSteps:=9^7)(disch:=first|omega|rfl|assumption)only[↓Yaa,Yab,Nae,Naa,rA,rB,rC,rD,reduceIte,unP,rE,g2,g7,g8,g9,kB,hld,hE,lD,lT])
    exact⟨nofun,_,rfl,by simp only[NaI,Yad,if_true];rw[←hob]⟩
   by_cases c2:(cd.T.length:Int)≤e.T
   ·have hb:etB cd e=false:=(by unfold etB;simp;omega);rw[hb,Bool.false_and]at hob
    iterate 9
     (try rw[Z0]);(try simp(maxSteps:=9^7)(disch:=first|omega|rfl|assumption)only[↓Yaa,Yab,Nae,Naa,rA,rB,rC,rD,reduceIte,unP,rE,g2,g7,g8,g9,kB,hld,hE,lD,lT])
    exact⟨nofun,_,rfl,by simp only[NaI,Yad,if_true];rw[←hob]⟩
   by_cases c3:e.J<0
   ·have hb:etB cd e=false:=(by unfold etB;simp;omega);rw[hb,Bool.false_and]at hob
    iterate 9
     (try rw[Z0]);(try simp(maxSteps:=9^7)(disch:=first|omega|rfl|assumption)only[↓Yaa,Yab,Nae,Naa,rA,rB,rC,rD,reduceIte,unP,rE,g2,g7,g8,g9,kB,hld,hE,lD,lT])
    exact⟨nofun,_,rfl,by simp only[NaI,Yad,if_true];rw[←hob]⟩
   by_cases c4:(cd.O.length:Int)≤e.J
   ·have hb:etB cd e=false:=(by unfold etB;simp;omega);rw[hb,Bool.false_and]at hob
    iterate 9
     (try rw[Z0]);(try simp(maxSteps:=9^7)(disch:=first|omega|rfl|assumption)only[↓Yaa,Yab,Nae,Naa,rA,rB,rC,rD,reduceIte,unP,rE,g2,g7,g8,g9,kB,hld,hE,lD,lT])
    exact⟨nofun,_,rfl,by simp only[NaI,Yad,if_true];rw[←hob]⟩
   have hb:etB cd e=true:=(by unfold etB;simp;omega);rw[hb,Bool.true_and]at hob
   iterate 9
    (try rw[Z0]);(try simp(maxSteps:=9^7)(disch:=first|omega|rfl|assumption)only[↓Yaa,Yab,Nae,Naa,rA,rB,rC,rD,reduceIte,unP,rE,g2,g7,g8,g9,kB,hld,hE,lD,lT])
   exact⟨l.length - (i+1),by omega,i+1,rfl,(NaG hil).symm,rfl,by omega,hob⟩
  ·have h0:l.drop i=[]:=List.drop_of_length_le Zaa;rw[h0]at hob
   iterate 4
    (try rw[Z0]);(try simp(maxSteps:=9^7)(disch:=first|omega|rfl|assumption)only[↓Yaa,Yab,Nae,Naa,rA,rB,rC,rD,reduceIte,unP,rE,g2,g7,g8,g9,kB,Nag,Naf])
   exact⟨nofun,_,rfl,by simp only[NaI,Yad,if_true];rw[←hob];simp⟩
 ·skip
  refine⟨0,rfl,?_,(by simp[Yad,g1]),Zaf,Zaf,?_,?_,?_,(by rw[List.drop_zero];exact hR)⟩<;>first|with_reducible rfl|with_reducible assumption|exact kB _|(simp[Yad,g1,g2]<;>omega)|(simp(disch:=omega)only[Nas,Nau,Yaf,kB];first|done|with_reducible rfl|with_reducible assumption)|omega|(simp only[Z0L_,Naz];omega)|(simp only;omega)|assumption|rfl|(simp;omega)|(simp;done)
theorem Njm(hf:cfg.fn 8=some m8)(hx:cfg.ext 8=none){cd:Cd}{l:List Et}(hl:l.length≤fuel)(hO:cd.O.length≤reachBytes)(hT:cd.T.length≤reachBytes)(hr:l.length≤reachBytes) :
 Nan cfg (NaM cfg (fuel+1)) 8 [.agg (Cd.cs cd),slV z l.length (l.flatMap Et.cs)]=some (.b (l.all (etB cd))) :=
 NaF hx Ncq (fun _=>rfl) (Nk6 hf hl hO hT hr)
theorem NeV(l:List Int):NbF l=slV true l.length (NaK l):=by
 cases l with
 |nil=>rfl
 |cons a r=>unfold NbF slV;rw[if_neg Zag,if_neg Zag]
theorem Nmr(hf:cfg.fn 27=some m27){rs:List Int}{z':Bool}(hl:rs.length+2≤fuel)(hb:rs.length≤reachBytes) :
 ∃ r st',NaM cfg (fuel+1) 27 [slV z rs.length (NaK rs),slV z' rs.length (NaK rs)] st=some (r,st')∧r=.b true:=by
 refine NaE hf ?_;delta m27 Qa Qr Ql Qt Qk Qm Qi Qo;have hrb:reachBytes=140737488351232:=rfl;have hlv:=NaL z rs.length (NaK rs);have hlv':=NaL z' rs.length (NaK rs);have hE:=NaJ rs;have hE1:(NaK rs).length=rs.length * 1:=by rw[hE,Nat.mul_one]
 have bn:((rs.length:Int) != (rs.length:Int))=false:=by simp
 obtain⟨sto0,c0⟩:=st;simp only[Nao]
 iterate 5
  (try rw[Z0]);(try simp(maxSteps:=9^7)(disch:=first|omega|rfl|assumption)only[↓Yaa,Yab,Nae,Naa,rA,rB,rC,rD,reduceIte,unP,rE,Nag,Naf,hlv,hlv',bn])
 refine NaN (fun x=>x.env.get 0=slV z rs.length (NaK rs)∧x.env.get 1=slV z' rs.length (NaK rs)∧x.env.get 12=.i .i64 (rs.length:Int)∧x.env.get 13=.i .i64 ((0:Nat):Int)) ?_ ?_
 ·exact⟨Zab,Zab,Zab,Zab⟩
 rintro⟨env,⟨sto,c⟩⟩ ⟨g0,g1,g12,g13⟩;try simp only at g0 g1 g12 g13
 refine Z9 (k:=rs.length - 0) (fun m x=>∃ (i:Nat),m=rs.length - i∧x.env.get 0=slV z rs.length (NaK rs)∧x.env.get 1=slV z' rs.length (NaK rs)∧x.env.get 12=.i .i64 (rs.length:Int)∧x.env.get 13=.i .i64 (i:Int)∧(i≤rs.length)) ?_ ?_ Zaa
 ·clear g0 g1 g12 g13;rintro m ⟨env,⟨sto,c⟩⟩ ⟨i,rfl,g0,g1,g12,g13,hi⟩;try simp only at g0 g1 g12 g13
  by_cases hil:i<rs.length
  ·rw[NaG hil]at g0 g1;have hld:∀ st,Nbl st 1 (.fptr ((NaK rs).drop i))=some [.i .i64 (gi rs i)]:=fun st=>by
    have:=NmN (st0:=st) hil;rw[Nat.mul_one]at this;exact this
   have hq:(gi rs i != gi rs i)=false:=by simp
   iterate 6
    (try rw[Z0]);(try simp(maxSteps:=9^7)(disch:=first|omega|rfl|assumption)only[↓Yaa,Yab,Nae,Naa,rA,rB,rC,rD,reduceIte,unP,rE,g0,g1,g12,g13,hld,hE1,hq])
   exact⟨rs.length - (i+1),by omega,i+1,rfl,(NaG hil).symm,(NaG hil).symm,rfl,by omega⟩
  ·skip
   iterate 5
    (try rw[Z0]);(try simp(maxSteps:=9^7)(disch:=first|omega|rfl|assumption)only[↓Yaa,Yab,Nae,Naa,rA,rB,rC,rD,reduceIte,unP,rE,g0,g1,g12,g13])
   exact⟨nofun,_,rfl,by simp only[NaI,Yad,if_true]⟩
 ·skip
  refine⟨0,rfl,?_,?_,?_,?_,?_⟩<;>first|with_reducible rfl|with_reducible assumption|(simp[Yad,g0,g1,g12,g13]<;>omega)|assumption|rfl|omega|(simp only[Z0L_,Naz];omega)|(simp;omega)|(simp;done)
theorem NkR(hf:cfg.fn 27=some m27)(hx:cfg.ext 27=none){rs:List Int}(hl:rs.length+2≤fuel)(hb:rs.length≤reachBytes) :
 Nan cfg (NaM cfg (fuel+1)) 27 [NbF rs,NbF rs]=some (.b true):=by
 rw[NeV];exact NaF hx NkB (fun _=>rfl) (Nmr hf hl hb)
theorem Nj4(l:List Int):(NbF l).one=true:=by rw[NeV];exact Nag _ _ _
theorem NhE(l:List Int):(NbF l).cells=[NbF l]:=by rw[NeV];exact Naf _ _ _
theorem NdZ{l:List Int}:Go.Pe.deep st 12 (NbF l)=some (NbF l):=by unfold NbF;split<;>rfl
theorem Nh8:Go.Pe.deep st 12 (.agg (snC s (NbF s.Rs)))=some (.agg (snC s (NbF s.Rs))):=by
 unfold snC NbF;split<;>rfl
theorem Nmk:NaS [.agg (snC s (NbF s.Rs)),.agg (snC s (NbF s.Rs))]=([.agg (snC s (NbF s.Rs)),.agg (snC s (NbF s.Rs))],{ sto:=.leaf,cnt:=1 }):=by
 unfold snC NbF;split<;>rfl
theorem Nms(hf:cfg.fn 12=some m12)(hf':cfg.fn 27=some m27)(hx':cfg.ext 27=none)(hl:s.Rs.length+2≤fuel)(hb:s.Rs.length≤reachBytes) :
 ∃ r st',NaM cfg (fuel+2) 12 [.agg (snC s (NbF s.Rs)),.agg (snC s (NbF s.Rs))] st=some (r,st')∧r=.b true:=by
 refine NaE hf ?_;delta m12 Qr Qg Ql Qt Qs Qm Qh Qi Qu Qv;have gS:∀ (st:St) (key:Nat),Nar (Nan cfg (NaM cfg (fuel+1)) 27) false st key [NbF s.Rs,NbF s.Rs]=some (.b true,st):=fun st key=>NaX (Na2 NdZ NdZ) (NkR hf' hx' hl hb) rfl rfl;have hi1:=Nj4 s.Rs;have hi2:=NhE s.Rs;unfold snC;have b1:(s.W==s.W)=true:=by simp
 have b2:(s.wn==s.wn)=true:=by simp
 have b3:(s.R==s.R)=true:=by simp
 have b4:(s.rn==s.rn)=true:=by simp
 simp only[Nao]
 iterate 2
  (try rw[Z0]);(try simp(maxSteps:=9^7)(disch:=first|omega|rfl|assumption)only[↓Yaa,Yab,Nae,Naa,rA,rB,rC,rD,reduceIte,unP,rE,hi1,hi2,gS,b1,b2,b3,b4])
 exact⟨nofun,_,rfl,by simp only[NaI,Yad,if_true]⟩
theorem NkS(hf:cfg.fn 12=some m12)(hx:cfg.ext 12=none)(hf':cfg.fn 27=some m27)(hx':cfg.ext 27=none)(hl:s.Rs.length+2≤fuel)(hb:s.Rs.length≤reachBytes) :
 Nan cfg (NaM cfg (fuel+2)) 12 [.agg (snC s (NbF s.Rs)),.agg (snC s (NbF s.Rs))]=some (.b true) :=
 NaF hx Nmk (fun _=>rfl) (Nms hf hf' hx' hl hb)
theorem NnA(r s:Nat×Nat):Nhi [(0,0),(1,0)] [.i .i64 (r.1:Int),.i .i64 (r.2:Int)] [.i .i64 (s.1:Int),.i .i64 (s.2:Int)]=some (r==s):=by
 obtain⟨a,b⟩:=r;obtain⟨c,d⟩:=s;have e1:((a:Int)==(c:Int))=(a==c):=by rw[Bool.eq_iff_iff];simp;omega
 have e2:((b:Int)==(d:Int))=(b==d):=by rw[Bool.eq_iff_iff];simp;omega
 show _=some ((a==c)&&(b==d));simp[Nhi,eq1,e1,e2];cases a==c<;>cases b==d<;>rfl
end
end Go.Pe
