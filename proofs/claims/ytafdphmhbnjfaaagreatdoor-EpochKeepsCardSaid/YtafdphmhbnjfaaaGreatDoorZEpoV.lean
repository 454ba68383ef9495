/-
 Epochs: what the laws Grows and Keeps share: trace, the same kept. No condition.
-/
import Derived.Test.YtafdphmhbnjfaaaGreatDoorZGrtE
import Derived.Test.YtafdphmhbnjfaaaGreatDoorZCoeF
import Derived.Test.YtafdphmhbnjfaaaGreatDoorZRacN
import Derived.Test.YtafdphmhbnjfaaaGreatDoorZEpoG
set_option linter.unusedVariables false
set_option linter.unusedSimpArgs false
set_option maxRecDepth 100000
open Nat renaming reduceAdd → rA,reduceMul → rB,reduceLT → rC,reduceEqDiff → rD,reduceLeDiff → rE
namespace Go.Pe
open Go Go.Am Go.RowKit
theorem Nlv:fvP cfgNx 400 9 []=some (.b true):=by kernel_rfl
theorem NgF(args:List PV)(r:PV)(h:gTrue args=some r):∃ fuel,evP cfgNx fuel 9 args=some r:=by
 unfold gTrue at h;split at h
 ·rw[←h];refine⟨400,?_⟩;have:=Nlv;rwa[Nif]at this
 ·cases h
def Nqx:FuncId→Option (List PV→Option PV):=fun f=>if f=60 then some gNext else if f=87 then some gJoin else if f=56 then some gTick else none
theorem NjN{Gl:Gmap}{m:Int}(hg:Gl 0 0=some (.int .i64 m)):∀ f g,Nqx f=some g→NbH Go.Proofs.Tryz.prog Gl f g:=by
 intro f g h;unfold Nqx at h;split at h
 ·rename_i e;simp only[Sj]at h;subst h;subst e;exact NgY (Nh0 hg)
 split at h
 ·rename_i e;simp only[Sj]at h;subst h;subst e;exact NnW
 split at h
 ·rename_i e;simp only[Sj]at h;subst h;subst e;exact NoC
 ·cases h
noncomputable def cfgR:Cfg:={ fn:=fun f=>Ndt f tblL,ext:=Nqx }
theorem Nnj{Gl:Gmap}{m:Int}(hg:Gl 0 0=some (.int .i64 m)):CfgOK Go.Proofs.Tryz.prog Gl cfgR:=NfX Ngp (NjN hg)
theorem NoY:CfgZ cfgR where
 nx:=by rfl
 fn:=fun _ _ h=>h
 jn:=by rfl
 tk:=by rfl
 x1:=by rfl
 x2:=by rfl
 x3:=by rfl
 x4:=by rfl
 x5:=by rfl
 x6:=by rfl
 x7:=by rfl
 x8:=by rfl
 x9:=by rfl
 y1:=by rfl
 y2:=by rfl
 y3:=by rfl
 y4:=by rfl
 y5:=by rfl
 y6:=by rfl
 z1:=by rfl
 z2:=by rfl
 z3:=by rfl
 z4:=by rfl
 z5:=by rfl
 z6:=by rfl
 z7:=by rfl
 z8:=by rfl
 r1:=by rfl
 r2:=by rfl
 r3:=by rfl
 r4:=by rfl
 r5:=by rfl
 r6:=by rfl
 r7:=by rfl
 r8:=by rfl
 a1:=by rfl
 a2:=by rfl
 a3:=by rfl
 a4:=by rfl
 k1:=by rfl
 k2:=by rfl
 k3:=by rfl
 k4:=by rfl
 k5:=by rfl
 k6:=by rfl
 k7:=by rfl
 k8:=by rfl
 k9:=by rfl
theorem Ndl{α:Type}(f:α→Nat):∀ l:List α,∃ B,∀ a,a∈l→f a≤B
 |[]=>⟨0,by simp⟩
 |a::r=>by
   obtain⟨B,hB⟩:=Ndl f r;refine⟨f a+B,fun b hb=>?_⟩;rcases List.mem_cons.1 hb with rfl|hb
   ·omega
   ·have:=hB b hb;omega
theorem NmI(cd:Cd)(M:Nat):∃ F,CdF cd F∧M≤F:=by
 obtain⟨B1,h1⟩:=Ndl (fun t:Tx=>t.C.length) cd.T;obtain⟨B2,h2⟩:=Ndl (fun t:Tx=>Classical.choose (Ndl (fun x:In=>Exs.size x.A+x.A.length+100) t.C)) cd.T;refine⟨cd.O.length+cd.T.length+B1+B2+M,⟨by omega,by omega,fun t ht=>by have:=h1 t ht;(try simp only at this);omega,fun t ht x hx=>?_⟩,by omega⟩;have a1:=Classical.choose_spec (Ndl (fun x:In=>Exs.size x.A+x.A.length+100) t.C) x hx;have a2:=h2 t ht;try simp only at a1 a2
 omega
theorem CdF.up{cd:Cd}{F F':Nat}(h:CdF cd F)(hF:F≤F'):CdF cd F':=⟨Nat.le_trans h.o hF,Nat.le_trans h.t hF,fun t ht=>Nat.le_trans (h.c t ht) hF,fun t ht x hx=>Nat.le_trans (h.a t ht x hx) hF⟩
theorem Nnm(cd:Cd)(hwf:cd.wf):∃ ck:Int,(∃ fuel,evP cfgR fuel 47 [.agg (Cd.cs cd)]=some (.i .i64 ck))∧(ck=0→OkC cd∧∀ d,d∈cd.O→Ngr cd d=true):=by
 obtain⟨F,hF,-⟩:=NmI cd 0;obtain⟨ck,h1,h2⟩:=Nhr (F:=F) NoY hwf hF;exact⟨ck,⟨F+50,h1⟩,h2⟩
noncomputable def Nqw(cd:Cd)(hwf:cd.wf):Int:=Classical.choose (Nnm cd hwf)
theorem Nlj(cd:Cd)(hwf:cd.wf):∃ fuel,evP cfgR fuel 47 [.agg (Cd.cs cd)]=some (.i .i64 (Nqw cd hwf)):=(Classical.choose_spec (Nnm cd hwf)).1
theorem Njz(cd:Cd)(hwf:cd.wf):Nqw cd hwf=0→OkC cd∧∀ d,d∈cd.O→Ngr cd d=true:=(Classical.choose_spec (Nnm cd hwf)).2
open Classical in
noncomputable def gCk(cd:Cd)(hwf:cd.wf):List PV→Option PV:=fun args=>if args=[.agg (Cd.cs cd)]then some (.i .i64 (Nqw cd hwf))else none
theorem NoZ(cd:Cd)(hwf:cd.wf)(args:List PV)(r:PV)(h:gCk cd hwf args=some r):∃ fuel,evP cfgR fuel 47 args=some r:=by
 unfold gCk at h;split at h
 ·rename_i e;simp only[Sj]at h;subst h;subst e;exact Nlj cd hwf
 ·cases h
theorem Nlx{cfg:Cfg}{f:FuncId}(hx:cfg.ext f=none){fuel:Nat}{args:List PV}{r:PV}(ho:NaS args=(args,{ sto:=.leaf,cnt:=1 }))(hc:∀ st,NaY st r=some r)(h:∃ r' st',NaK cfg fuel f args { sto:=.leaf,cnt:=1 }=some (r',st')∧r'=r):evP cfg fuel f args=some r:=by
 obtain⟨r',st',h1,h2⟩:=h;exact NeF hx ho ⟨r',st',h1,by rw[h2];exact hc st'⟩
theorem NjT{l:List Et}{n:Nat}:(l.flatMap Et.cs).take (n * 5)=(l.take n).flatMap Et.cs:=by
 induction l generalizing n with
 |nil=>simp
 |cons a r ih =>
   cases n with
   |zero=>simp
   |succ n =>
     rw[List.take_succ_cons,List.flatMap_cons,List.flatMap_cons,←ih,List.take_append,Et.cs_len,List.take_of_length_le (by rw[Et.cs_len];omega)]
     congr 2
     omega
theorem Noy(n:Nat)(cs:List PV):slV false n cs=.fsl n cs:=by unfold slV;rw[if_neg Zag]
theorem Nr4(k:Nat)(l:List Et):Ni3 (.i .i64 (l.length:Int)) [.i .i64 ((k:Nat):Int)]=some (.i .i64 ((l.take k).length:Int)):=by
 unfold Ni3;simp only[if_true,List.length_take];unfold Ni3
 congr 2
 split<;>omega
theorem Nrq(k:Nat)(l:List Et):Ncs 5 none (some (.i .i64 ((l.take k).length:Int))) (.fsl l.length (l.flatMap Et.cs))=some (.fsl (l.take k).length ((l.take k).flatMap Et.cs)):=by
 have h1:(l.take k).length≤l.length:=by rw[List.length_take];omega
 have h2:(l.flatMap Et.cs).take ((l.take k).length * 5)=(l.take k).flatMap Et.cs:=by
  rw[NjT]
  congr 1
  rw[List.length_take];by_cases h:k≤l.length
  ·rw[Nat.min_eq_left h]
  ·rw[Nat.min_eq_right Zaa,List.take_of_length_le (Nat.le_refl _),List.take_of_length_le Zaa]
 have hE:=NaM Et.cs_len l;unfold Ncs;simp only[bound];rw[if_pos ⟨by omega,by omega⟩];simp only[Int.toNat_natCast,Nat.sub_zero,Nat.zero_mul,List.drop_zero];rw[if_pos hE,h2]
theorem NlO(l:List Et):((l.flatMap Et.cs).all PV.flat)=true:=by
 rw[List.all_eq_true];intro p hp;obtain⟨e,-,he⟩:=List.mem_flatMap.1 hp;simp only[Et.cs,List.mem_cons,List.not_mem_nil,or_false]at he;rcases he with rfl|rfl|rfl|rfl|rfl<;>rfl
theorem Nky{st:St}{v:PV}{l:List Et}{n:Nat}(h:Own st 5 v n (l.flatMap Et.cs))(hn:n=l.length):∃ z,Go.Pe.deep st 12 v=some (slV z l.length (l.flatMap Et.cs)):=by
 subst hn;rcases h.deep (NlO l)with⟨_,h0,h1,h2⟩|h2
 ·exact⟨true,by rw[h2,h0];rfl⟩
 ·exact⟨false,by rw[h2,Noy]⟩
theorem Nkx{z z':Bool}{n m:Nat}{a b:List PV}:NaS [slV z n a,slV z' m b]=([slV z n a,slV z' m b],{ sto:=.leaf,cnt:=1 }):=by
 unfold slV;split<;>split<;>rfl
end Go.Pe
set_option maxHeartbeats 8000000
namespace Go.Pe
open Go Go.Am Go.RowKit
section
variable {cfg:Cfg}{fuel:Nat}{st:St}{z:Bool}{s:Sn}
theorem NkW(hf:cfg.fn 8=some m8){cd:Cd}{l:List Et}(hl:l.length≤fuel)(hO:cd.O.length≤reachBytes)(hT:cd.T.length≤reachBytes)(hr:l.length≤reachBytes) :
 ∃ r st',NaK cfg (fuel+1) 8 [.agg (Cd.cs cd),slV z l.length (l.flatMap Et.cs)] st=some (r,st')∧r=.b (l.all (etB cd)):=by
 refine NaB hf ?_;delta m8 Qr Qg Ql Qt Qn Qs Qk Qm Qh Qi Qu Qv Qo Cd.cs;have hrb:reachBytes<4611686018427387904:=by decide
 have hlv:=NaC z l.length (l.flatMap Et.cs);have lD:=NaC cd.zo cd.O.length (cd.O.flatMap Dc.cs);have lT:=NaC cd.zt cd.T.length (cd.T.flatMap Tx.cs);have hE:=NaM Et.cs_len l;obtain⟨R,hR⟩:∃ R,l.all (etB cd)=R:=⟨_,rfl⟩;rw[hR];obtain⟨sto0,c0⟩:=st;simp only[Nao];(try rw[Z0]);(try simp(maxSteps:=9^7)(disch:=first|omega|rfl|assumption)only[↓Yaa,Yab,Nae,Naa,rA,rB,rC,rD,reduceIte,unP,rE,Nag,Naf]);refine NaJ (fun x=>∃ (B:Nat),B<x.st.cnt∧x.env.get 1=slV z l.length (l.flatMap Et.cs)∧x.env.get 2=.ptr B 0∧x.st.get B=some (.cells [slV cd.zo cd.O.length (cd.O.flatMap Dc.cs),slV cd.zt cd.T.length (cd.T.flatMap Tx.cs)] false)) ?_ ?_
 ·refine⟨c0,?_,Zab,Zab,?_⟩<;>first|with_reducible rfl|with_reducible assumption|exact kB _|omega|(simp only[Z0L_,Nax];omega)|(simp only;omega)|(simp(disch:=omega)only[Nar,Nas,Yaf];first|done|with_reducible rfl|with_reducible assumption)
 rintro⟨env,⟨sto,c⟩⟩ ⟨B,bB,g1,g2,kB⟩;try simp only at bB g1 g2
 replace kB:∀ n',St.get ⟨sto,n'⟩ B=some (.cells [slV cd.zo cd.O.length (cd.O.flatMap Dc.cs),slV cd.zt cd.T.length (cd.T.flatMap Tx.cs)] false):=fun _=>kB
 iterate 2
  (try rw[Z0]);(try simp(maxSteps:=9^7)(disch:=first|omega|rfl|assumption)only[↓Yaa,Yab,Nae,Naa,rA,rB,rC,rD,reduceIte,unP,rE,g1,g2,kB,hlv])
 refine Z9 (k:=l.length - 0) (fun m x=>∃ (i:Nat),m=l.length - i∧x.env.get 2=.ptr B 0∧x.env.get 7=slV z l.length (l.flatMap Et.cs)∧x.env.get 8=.i .i64 (l.length:Int)∧x.env.get 9=.i .i64 (i:Int)∧x.st.get B=some (.cells [slV cd.zo cd.O.length (cd.O.flatMap Dc.cs),slV cd.zt cd.T.length (cd.T.flatMap Tx.cs)] false)∧B<x.st.cnt∧(i≤l.length)∧((l.drop i).all (etB cd)=R)) ?_ ?_ Zaa
 ·clear bB g1 g2 kB;rintro m ⟨env,⟨sto,c⟩⟩ ⟨i,rfl,g2,g7,g8,g9,kB,bB,hi,hob⟩;try simp only at g2 g7 g8 g9 bB
  replace kB:∀ n',St.get ⟨sto,n'⟩ B=some (.cells [slV cd.zo cd.O.length (cd.O.flatMap Dc.cs),slV cd.zt cd.T.length (cd.T.flatMap Tx.cs)] false):=fun _=>kB;by_cases hil:i<l.length
  ·rw[NaD hil]at g7;obtain⟨e,he⟩:∃ e,l[i]=e:=⟨_,rfl⟩;have hld:=fun st=>NdL (st:=st) hil;simp only[he]at hld;rw[List.drop_eq_getElem_cons hil,he,List.all_cons]at hob;by_cases c1:e.T<0
   ·have hb:etB cd e=false:=(by unfold etB;simp;omega);rw[hb,Bool.false_and]at hob
    iterate 9
     (try rw[Z0]);(try simp(maxSteps:=9^7)(disch:=first|omega|rfl|assumption)only[↓Yaa,Yab,Nae,Naa,rA,rB,rC,rD,reduceIte,unP,rE,g2,g7,g8,g9,kB,hld,hE,lD,lT])
    exact⟨nofun,_,rfl,by simp only[NaF,Yad,if_true];rw[←hob]⟩
   by_cases c2:(cd.T.length:Int)≤e.T
   ·have hb:etB cd e=false:=(by unfold etB;simp;omega);rw[hb,Bool.false_and]at hob
    iterate 9
     (try rw[Z0]);(try simp(maxSteps:=9^7)(disch:=first|omega|rfl|assumption)only[↓Yaa,Yab,Nae,Naa,rA,rB,rC,rD,reduceIte,unP,rE,g2,g7,g8,g9,kB,hld,hE,lD,lT])
    exact⟨nofun,_,rfl,by simp only[NaF,Yad,if_true];rw[←hob]⟩
   by_cases c3:e.J<0
   ·have hb:etB cd e=false:=(by unfold etB;simp;omega);rw[hb,Bool.false_and]at hob
    iterate 9
     (try rw[Z0]);(try simp(maxSteps:=9^7)(disch:=first|omega|rfl|assumption)only[↓Yaa,Yab,Nae,Naa,rA,rB,rC,rD,reduceIte,unP,rE,g2,g7,g8,g9,kB,hld,hE,lD,lT])
    exact⟨nofun,_,rfl,by simp only[NaF,Yad,if_true];rw[←hob]⟩
   by_cases c4:(cd.O.length:Int)≤e.J
   ·have hb:etB cd e=false:=(by unfold etB;simp;omega);rw[hb,Bool.false_and]at hob
    iterate 9
     (try rw[Z0]);(try simp(maxSteps:=9^7)(disch:=first|omega|rfl|assumption)only[↓Yaa,Yab,Nae,Naa,rA,rB,rC,rD,reduceIte,unP,rE,g2,g7,g8,g9,kB,hld,hE,lD,lT])
    exact⟨nofun,_,rfl,by simp only[NaF,Yad,if_true];rw[←hob]⟩
   have hb:etB cd e=true:=(by unfold etB;simp;omega);rw[hb,Bool.true_and]at hob
   iterate 9
    (try rw[Z0]);(try simp(maxSteps:=9^7)(disch:=first|omega|rfl|assumption)only[↓Yaa,Yab,Nae,Naa,rA,rB,rC,rD,reduceIte,unP,rE,g2,g7,g8,g9,kB,hld,hE,lD,lT])
   exact⟨l.length - (i+1),by omega,i+1,rfl,(NaD hil).symm,rfl,by omega,hob⟩
  ·have h0:l.drop i=[]:=List.drop_of_length_le Zaa;rw[h0]at hob
   iterate 4
    (try rw[Z0]);(try simp(maxSteps:=9^7)(disch:=first|omega|rfl|assumption)only[↓Yaa,Yab,Nae,Naa,rA,rB,rC,rD,reduceIte,unP,rE,g2,g7,g8,g9,kB,Nag,Naf])
   exact⟨nofun,_,rfl,by simp only[NaF,Yad,if_true];rw[←hob];simp⟩
 ·skip
  refine⟨0,rfl,?_,(by simp[Yad,g1]),Zaf,Zaf,?_,?_,?_,(by rw[List.drop_zero];exact hR)⟩<;>first|with_reducible rfl|with_reducible assumption|exact kB _|(simp[Yad,g1,g2]<;>omega)|(simp(disch:=omega)only[Nar,Nas,Yaf,kB];first|done|with_reducible rfl|with_reducible assumption)|omega|(simp only[Z0L_,Nax];omega)|(simp only;omega)|assumption|rfl|(simp;omega)|(simp;done)
theorem Njf(hf:cfg.fn 8=some m8)(hx:cfg.ext 8=none){cd:Cd}{l:List Et}(hl:l.length≤fuel)(hO:cd.O.length≤reachBytes)(hT:cd.T.length≤reachBytes)(hr:l.length≤reachBytes) :
 Nai cfg (NaK cfg (fuel+1)) 8 [.agg (Cd.cs cd),slV z l.length (l.flatMap Et.cs)]=some (.b (l.all (etB cd))) :=
 NaE hx Nco (fun _=>rfl) (NkW hf hl hO hT hr)
theorem Ndr(l:List Int):NbN l=slV true l.length (NaI l):=by
 cases l with
 |nil=>rfl
 |cons a r=>unfold NbN slV;rw[if_neg Zag,if_neg Zag]
theorem Nmm(hf:cfg.fn 27=some m27){rs:List Int}{z':Bool}(hl:rs.length+2≤fuel)(hb:rs.length≤reachBytes) :
 ∃ r st',NaK cfg (fuel+1) 27 [slV z rs.length (NaI rs),slV z' rs.length (NaI rs)] st=some (r,st')∧r=.b true:=by
 refine NaB hf ?_;delta m27 Qa Qr Ql Qt Qk Qm Qi Qo;have hrb:reachBytes=140737488351232:=rfl;have hlv:=NaC z rs.length (NaI rs);have hlv':=NaC z' rs.length (NaI rs);have hE:=NaH rs;have hE1:(NaI rs).length=rs.length * 1:=by rw[hE,Nat.mul_one]
 have bn:((rs.length:Int) != (rs.length:Int))=false:=by simp
 obtain⟨sto0,c0⟩:=st;simp only[Nao]
 iterate 5
  (try rw[Z0]);(try simp(maxSteps:=9^7)(disch:=first|omega|rfl|assumption)only[↓Yaa,Yab,Nae,Naa,rA,rB,rC,rD,reduceIte,unP,rE,Nag,Naf,hlv,hlv',bn])
 refine NaJ (fun x=>x.env.get 0=slV z rs.length (NaI rs)∧x.env.get 1=slV z' rs.length (NaI rs)∧x.env.get 12=.i .i64 (rs.length:Int)∧x.env.get 13=.i .i64 ((0:Nat):Int)) ?_ ?_
 ·exact⟨Zab,Zab,Zab,Zab⟩
 rintro⟨env,⟨sto,c⟩⟩ ⟨g0,g1,g12,g13⟩;try simp only at g0 g1 g12 g13
 refine Z9 (k:=rs.length - 0) (fun m x=>∃ (i:Nat),m=rs.length - i∧x.env.get 0=slV z rs.length (NaI rs)∧x.env.get 1=slV z' rs.length (NaI rs)∧x.env.get 12=.i .i64 (rs.length:Int)∧x.env.get 13=.i .i64 (i:Int)∧(i≤rs.length)) ?_ ?_ Zaa
 ·clear g0 g1 g12 g13;rintro m ⟨env,⟨sto,c⟩⟩ ⟨i,rfl,g0,g1,g12,g13,hi⟩;try simp only at g0 g1 g12 g13
  by_cases hil:i<rs.length
  ·rw[NaD hil]at g0 g1;have hld:∀ st,Nbh st 1 (.fptr ((NaI rs).drop i))=some [.i .i64 (gi rs i)]:=fun st=>by
    have:=NmJ (st0:=st) hil;rw[Nat.mul_one]at this;exact this
   have hq:(gi rs i != gi rs i)=false:=by simp
   iterate 6
    (try rw[Z0]);(try simp(maxSteps:=9^7)(disch:=first|omega|rfl|assumption)only[↓Yaa,Yab,Nae,Naa,rA,rB,rC,rD,reduceIte,unP,rE,g0,g1,g12,g13,hld,hE1,hq])
   exact⟨rs.length - (i+1),by omega,i+1,rfl,(NaD hil).symm,(NaD hil).symm,rfl,by omega⟩
  ·skip
   iterate 5
    (try rw[Z0]);(try simp(maxSteps:=9^7)(disch:=first|omega|rfl|assumption)only[↓Yaa,Yab,Nae,Naa,rA,rB,rC,rD,reduceIte,unP,rE,g0,g1,g12,g13])
   exact⟨nofun,_,rfl,by simp only[NaF,Yad,if_true]⟩
 ·skip
  refine⟨0,rfl,?_,?_,?_,?_,?_⟩<;>first|with_reducible rfl|with_reducible assumption|(simp[Yad,g0,g1,g12,g13]<;>omega)|assumption|rfl|omega|(simp only[Z0L_,Nax];omega)|(simp;omega)|(simp;done)
theorem NkK(hf:cfg.fn 27=some m27)(hx:cfg.ext 27=none){rs:List Int}(hl:rs.length+2≤fuel)(hb:rs.length≤reachBytes) :
 Nai cfg (NaK cfg (fuel+1)) 27 [NbN rs,NbN rs]=some (.b true):=by
 rw[Ndr];exact NaE hx Nkx (fun _=>rfl) (Nmm hf hl hb)
theorem NgN(l:List Int):(NbN l).one=true:=by rw[Ndr];exact Nag _ _ _
theorem NeT(l:List Int):(NbN l).cells=[NbN l]:=by rw[Ndr];exact Naf _ _ _
theorem Nd0{l:List Int}:Go.Pe.deep st 12 (NbN l)=some (NbN l):=by unfold NbN;split<;>rfl
theorem Nmf:NaS [.agg (snC s (NbN s.Rs)),.agg (snC s (NbN s.Rs))]=([.agg (snC s (NbN s.Rs)),.agg (snC s (NbN s.Rs))],{ sto:=.leaf,cnt:=1 }):=by
 unfold snC NbN;split<;>rfl
theorem Nmn(hf:cfg.fn 12=some m12)(hf':cfg.fn 27=some m27)(hx':cfg.ext 27=none)(hl:s.Rs.length+2≤fuel)(hb:s.Rs.length≤reachBytes) :
 ∃ r st',NaK cfg (fuel+2) 12 [.agg (snC s (NbN s.Rs)),.agg (snC s (NbN s.Rs))] st=some (r,st')∧r=.b true:=by
 refine NaB hf ?_;delta m12 Qr Qg Ql Qt Qs Qm Qh Qi Qu Qv;have gS:∀ (st:St) (key:Nat),Naq (Nai cfg (NaK cfg (fuel+1)) 27) false st key [NbN s.Rs,NbN s.Rs]=some (.b true,st):=fun st key=>NaT (Na4 Nd0 Nd0) (NkK hf' hx' hl hb) rfl rfl;have hi1:=NgN s.Rs;have hi2:=NeT s.Rs;unfold snC;have b1:(s.W==s.W)=true:=by simp
 have b2:(s.wn==s.wn)=true:=by simp
 have b3:(s.R==s.R)=true:=by simp
 have b4:(s.rn==s.rn)=true:=by simp
 simp only[Nao]
 iterate 2
  (try rw[Z0]);(try simp(maxSteps:=9^7)(disch:=first|omega|rfl|assumption)only[↓Yaa,Yab,Nae,Naa,rA,rB,rC,rD,reduceIte,unP,rE,hi1,hi2,gS,b1,b2,b3,b4])
 exact⟨nofun,_,rfl,by simp only[NaF,Yad,if_true]⟩
theorem NkL(hf:cfg.fn 12=some m12)(hx:cfg.ext 12=none)(hf':cfg.fn 27=some m27)(hx':cfg.ext 27=none)(hl:s.Rs.length+2≤fuel)(hb:s.Rs.length≤reachBytes) :
 Nai cfg (NaK cfg (fuel+2)) 12 [.agg (snC s (NbN s.Rs)),.agg (snC s (NbN s.Rs))]=some (.b true) :=
 NaE hx Nmf (fun _=>rfl) (Nmn hf hf' hx' hl hb)
end
end Go.Pe
