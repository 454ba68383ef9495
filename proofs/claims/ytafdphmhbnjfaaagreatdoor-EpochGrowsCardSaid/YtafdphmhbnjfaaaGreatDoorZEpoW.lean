/-
 EpochGrows: the law, walked. No condition.
-/
import Derived.Test.YtafdphmhbnjfaaaGreatDoorZPeTbl
import Derived.Test.YtafdphmhbnjfaaaGreatDoorZEpoV
set_option linter.unusedVariables false
set_option linter.unusedSimpArgs false
set_option maxRecDepth 100000
open Nat renaming reduceAdd → rA,reduceMul → rB,reduceLT → rC,reduceEqDiff → rD,reduceLeDiff → rE
namespace Go.Pe
open Go Go.Am Go.RowKit
noncomputable def m6:MFunc:={ body:=.seq (Qi [Qt 3 (.box (.t 0)),Qt 5 (.box (.t 2)),Qt 6 (.mv (.c (.b false)))]) (.seq (.seq (Qi [Qw 14 2 3,Qt 15 (.call 7 false [.l 14])]) (.cond (.t 15) (.seq (Qi [Ql 16 (.call 9 false []),Qm 6 16]) .ret) .skip)) (.seq (Qi [Qa 17 1,Qa 18 1,Ql 19 (.len (.l 18)),Ql 20 (.min (.l 19) [.c (.i .i64 (.ofNat 50))]),Ql 21 (.slice none 5 (.l 17) none (some (.l 20))),Qm 1 21]) (.seq (Qi [Ql 22 (.indexAddr (some 2) 1 (.t 5) (Qk 0)),Qr 23 22,Qa 24 1,Ql 25 (.len (.l 24)),Ql 26 (.bin .add (.l 25) (Qk 1)),Ql 27 (.call 18 false [.l 23,.l 26]),Qm 7 27]) (.seq (Qi [Qw 28 2 3,Qa 29 1,Ql 30 (.call 13 false [.l 28,.l 29]),Qm 8 30]) (.seq (.seq (Qi [Qw 31 2 3,Qa 32 1,Qa 33 7,Ql 34 (.slice none 5 (.l 32) none (some (.l 33))),Qt 35 (.callq 13 [.l 31,.l 34]),Qt 36 (.len (.t 35)),Qo 37 0]) (.block 0 (.loop (.seq (Qi [Qt 38 (.bin .lss (.t 37) (.t 36))]) (.seq (.cond (.t 38) .skip (.exit 0)) (.seq (.block 1 (.seq (Qi [Ql 39 (.indexAddr none 2 (.t 35) (.t 37)),Ql 40 (.load true 2 (.l 39)),Qt 10 (.alloc [.i .i64 (.ofNat 0),.i .i64 (.ofNat 0)]),Qn (.store 2 (.t 10) (.l 40))]) (.seq (Qi [Qt 11 (.mv (.c (.b false)))]) (.seq (.seq (Qi [Qt 41 (.mv (.t 8)),Qt 42 (.len (.t 41)),Qo 43 0]) (.block 2 (.loop (.seq (Qi [Qt 44 (.bin .lss (.t 43) (.t 42))]) (.seq (.cond (.t 44) .skip (.exit 2)) (.seq (.block 3 (.seq (Qi [Ql 45 (.indexAddr none 2 (.t 41) (.t 43)),Ql 46 (.load true 2 (.l 45)),Qt 13 (.alloc [.i .i64 (.ofNat 0),.i .i64 (.ofNat 0)]),Qn (.store 2 (.t 13) (.l 46))]) (Qi [Qa 47 11,Qh 48 47,Qs 49 (.load true 2 (.t 10)) 48 false,Qs 50 (.load true 2 (.t 13)) 48 false,Qs 51 (.eqs false [(0,0),(1,0)] (.l 49) (.l 50)) 48 false,Ql 52 (.pick (.l 48) (.c (.b true)) (.l 51)),Qm 11 52]))) (Qi [Ql 53 (.bin .add (.t 43) (Qk 1)),Qm 43 53]))))))) (.seq (.seq (Qi [Qw 54 2 3,Qa 55 1,Ql 56 (.call 8 false [.l 54,.l 55]),Qh 57 56,Qs 58 (.mv (.t 11)) 57 true,Qs 59 (.un .not (.l 58)) 57 true,Ql 60 (.pick (.l 57) (.l 59) (.c (.b false))),Qh 61 60,Qu 62 1 10 61 false,Qv 63 62 61 false,Qs 64 (.mv (.t 7)) 61 false,Qs 65 (.bin .geq (.l 63) (.l 64)) 61 false,Qt 66 (.pick (.l 61) (.c (.b true)) (.l 65))]) (.cond (.t 66) (.seq (Qi [Qt 6 (.mv (.c (.b false)))]) .ret) .skip)) (.seq (.chain [Qw 67 2 3,Qa 68 1,Ql 69 (.call 8 false [.l 67,.l 68]),Qh 70 69,Qs 71 (.load true 2 (.t 3)) 70 true,Qs 72 (.mv (.t 1)) 70 true,Qs 73 (.mv (.t 7)) 70 true,Qs 74 (.slice none 5 (.l 72) none (some (.l 73))) 70 true,Qu 75 0 10 70 true,Qv 76 75 70 true,Qs 77 (.call 10 false [.l 71,.l 74,.l 76]) 70 true,Qs 78 (.load true 2 (.t 3)) 70 true,Qs 79 (.mv (.t 1)) 70 true,Qu 80 0 10 70 true,Qv 81 80 70 true,Qs 82 (.call 10 false [.l 78,.l 79,.l 81]) 70 true,Qs 83 (.call 12 false [.l 77,.l 82]) 70 true,Qs 84 (.un .not (.l 83)) 70 true,Qt 85 (.pick (.l 70) (.l 84) (.c (.b false)))] [0,0,3,7,15,15,15,111,15,271,1023,15,15,15,8207,32767,65535,131071,262143] none) (.cond (.t 85) (.seq (Qi [Qt 6 (.mv (.c (.b false)))]) .ret) .skip))))))) (Qi [Ql 86 (.bin .add (.t 37) (Qk 1)),Qm 37 86]))))))) (.seq (Qi [Ql 87 (.call 9 false []),Qm 6 87]) .ret)))))),res:=[.t 6] }
theorem t6:Qx 6=some m6:=by kernel_rfl
noncomputable def tblX6:List (Nat×MFunc):=(6,m6)::tblL
theorem NmB:NoP Go.Proofs.Tryz.prog (Nah Go.Proofs.Tryz.prog []) tblX6:=⟨t6,Ngp⟩
end Go.Pe
set_option maxHeartbeats 8000000
namespace Go.Pe
open Go Go.Am Go.RowKit
section
variable {cd:Cd}{l:List Et}
noncomputable def Nfr(cd:Cd)(hwf:cd.wf):Cfg:={ fn:=fun f=>Ndt f tblX6,ext:=NqW cd hwf }
theorem Nh3{hwf:cd.wf}{Gl:Gmap}{m:Int}(hg:Gl 0 0=some (.int .i64 m)):CfgOK Go.Proofs.Tryz.prog Gl (Nfr cd hwf):=NfX NmB (NnC hg)
theorem Nlo{hwf:cd.wf}(f:FuncId)(m:MFunc)(h:Ndt f tblL=some m):(Nfr cd hwf).fn f=some m:=by
 show Ndt f tblX6=some m;by_cases h6:f=6
 ·subst h6;have h0:Ndt 6 tblL=none:=by kernel_rfl
  rw[h0]at h;cases h
 ·have hb:Nat.beq f 6=false:=by
   cases h:Nat.beq f 6 with
   |false=>rfl
   |true=>exact absurd (Nat.eq_of_beq_eq_true h) h6
  show(Bool.rec (motive:=fun _=>Option MFunc) (Ndt f tblL) (some m6) (Nat.beq f 6))=some m;rw[hb];exact h
theorem cfgL6_g{hwf:cd.wf}:CfgG (Nfr cd hwf) where
 fn:=Nlo
 jn:=by rfl
 tk:=by rfl
 r1:=by rfl
 r2:=by rfl
 r3:=by rfl
 r4:=by rfl
 r5:=by rfl
 r6:=by rfl
 r7:=by rfl
 r8:=by rfl
 a1:=by rfl
 a2:=by rfl
 a3:=by rfl
 n2:=by rfl
 n3:=by rfl
 n4:=by rfl
theorem Nnk{hwf:cd.wf}:CfgE (Nfr cd hwf) where
 toCfgA:=cfgL6_g.toCfgA
 e1:=by rfl
 e2:=by rfl
 e3:=by rfl
 e4:=by rfl
 e5:=by rfl
 e6:=by rfl
 e7:=by rfl
 e8:=by rfl
 e9:=by rfl
 f1:=by rfl
 f2:=by rfl
 f3:=by rfl
 f4:=by rfl
 f5:=by rfl
 f6:=by rfl
theorem Njt{g:List PV→Option PV}{st:St}{key sz n:Nat}{ps ps' cs:List PV}{r:PV}{Q:PV→St→Prop}(hd:Nbf st ps=some ps')(hg:g ps'=some r)(ho:OutV r sz n cs)(hc:clO cs=true)(hl:cs.length=n * sz)(hk:key<st.cnt)
 (q:∀ v' st',Own st' sz v' n cs→(∀ j,j∈keyOf v'→j=key)→st'.cnt=st.cnt→(∀ j,j≠key→st'.get j=st.get j)→Q v' st') :
 WV (match Nbf st ps with
  |some l=>match g l with
    |some r=>if r.closedB then NaP st key r else none
    |none=>none
  |none=>none) Q:=by
 rcases ho with⟨rfl,rfl,rfl⟩|rfl
 ·refine⟨_,st,?_,q .nsl st (Own.nil _ _) (fun j hj=>by simp[keyOf]at hj) rfl (fun _ _=>rfl)⟩;simp only[hd,hg,NaP];simp only[show PV.nsl.closedB=true from rfl,if_true]
 ·have hcl:(PV.osl sz n cs).closedB=true:=NfB hc 10;refine⟨_,st.put key (some (.cells cs false)),?_,q (.rsl key sz 0 n) _ (.inr ⟨key,rfl,Yaf _ _ _,hl,hk⟩) (fun j hj=>by simpa[keyOf]using hj) rfl (fun j hj=>Yae fun e=>hj e.symm)⟩;simp only[hd,hg,hcl,if_true,NaP]
theorem Nru{k:Nat}(hk:k≤l.length):Ncf 5 none (some (.i .i64 (k:Int))) (.fsl l.length (l.flatMap Et.cs))=some (.fsl (l.take k).length ((l.take k).flatMap Et.cs)):=by
 have:=NpO k l;rw[List.length_take,Nat.min_eq_left hk]at this ⊢;exact this
theorem NlB{ck:Int}{k n:Nat}(hk:k≤l.length){r:Nat×Nat}(h:r∈Nd6 (NcF ck cd (l.take k)).2 n):r.2<k∧(l.all (etB cd)=true→r∈Nd6 (NcF ck cd l).2 n∧(NcF ck cd (l.take k)).1 (r.1:Int)=(NcF ck cd l).1 (r.1:Int)):=by
 by_cases ht:trV ck cd (l.take k)=true
 ·have e:NcF ck cd (l.take k)=Nb7 cd (l.take k) (l.take k).length:=by unfold NcF;rw[if_pos ht]
  rw[e]at h ⊢;obtain⟨h1,h2,h3⟩:=NkK hk h;refine⟨h2,fun hal=>?_⟩;have hl:NcF ck cd l=Nb7 cd l l.length:=by
   have:trV ck cd l=true:=by
    unfold trV at ht ⊢;rw[Bool.and_eq_true]at ht ⊢;exact⟨ht.1,hal⟩
   unfold NcF;rw[if_pos this]
  rw[hl];exact⟨h1,h3⟩
 ·have e:NcF ck cd (l.take k)=(fun _=>sn0,fun _=>none):=by unfold NcF;rw[if_neg ht]
  rw[e]at h;unfold Nd6 at h;obtain⟨o,_,ho⟩:=List.mem_filterMap.1 h;cases ho
theorem Nfy{g:List PV→Option PV}{st:St}{key:Nat}{ps ps':List PV}{r:PV}(hd:Nbf st ps=some ps')(hg:g ps'=some r)(hk:keysL st ps=[])(hr:∀ st',NaP st' key r=some (r,st')):Nar g false st key ps=some (r,st):=by
 unfold Nar;simp only[hd,hg,hk,hr];split<;>rfl
theorem NkU(z:Bool)(n:Nat)(a:List PV)(z':Bool)(m:Nat)(b:List PV):PV.same Nbu (.agg [slV z n a,slV z' m b]) (.agg [slV z n a,slV z' m b])=true:=by
 have h:∀ (z:Bool) (n:Nat) (a:List PV),PV.same 39 (slV z n a) (slV z n a)=true:=fun z n a=>by
  unfold slV;split
  ·rfl
  ·show(n==n&&PV.smL a a)=true;rw[PV.smL_rfl];simp
 show((2==2)&&([slV z n a,slV z' m b].zip [slV z n a,slV z' m b]).all fun p=>PV.same 39 p.1 p.2)=true;simp[h]
theorem NnT{α:Type}[BEq α][LawfulBEq α]{R:List α}{r:α}(h:r∈R):R.any (r==·)=true:=List.any_eq_true.2 ⟨r,h,by simp⟩
theorem Nn4(hwf:cd.wf)(hl:l.length≤reachBytes){x0 x1:Int}:∃ fuel,evP (Nfr cd hwf) fuel 6 [.agg (Cd.cs cd),.fsl l.length (l.flatMap Et.cs),.agg [.i .i64 x0,.i .i64 x1]]=some (.b true):=by
 obtain⟨F,hF,hFl⟩:=NmM cd (l.length+cd.O.length+200);obtain⟨ck,hck0⟩:∃ ck,NqB cd hwf=ck:=⟨_,rfl⟩;have hok0:=Nno cd hwf;rw[hck0]at hok0;refine⟨(F+50)+1,NlH rfl rfl (fun _=>rfl) (NaE (by kernel_rfl:(Nfr cd hwf).fn 6=some m6) ?_)⟩;delta m6 Qa Qr Ql Qt Qn Qs Qk Qm Qh Qi Qu Qv Qo Qw;have hc:CfgG (Nfr cd hwf):=cfgL6_g;have hce:CfgE (Nfr cd hwf):=Nnk;have hok:=Nh3 (cd:=cd) (hwf:=hwf) (Gl:=fun _ _=>some (.int .i64 0)) rfl;obtain⟨cfg,hcfg⟩:∃ cfg,Nfr cd hwf=cfg:=⟨_,rfl⟩;have hxk:cfg.ext 47=some (gCk cd hwf):=by rw[←hcfg];rfl
 have hxa:cfg.ext 9=some gTrue:=by rw[←hcfg];rfl
 have hxt:cfg.ext 8=none:=by rw[←hcfg];rfl
 have hxs:cfg.ext 12=none:=by rw[←hcfg];rfl
 have hxi:cfg.ext 27=none:=by rw[←hcfg];rfl
 rw[hcfg]at hc hce hok ⊢;have hckr:∀ callE,Nan cfg callE 47 [.agg (Cd.cs cd)]=some (.i .i64 ck):=fun callE=>by
  rw[NbC hxk];unfold gCk;rw[if_pos rfl,hck0]
 obtain⟨hwO,hwT,-,-⟩:=id hwf;have hrb:reachBytes=140737488351232:=rfl;have hT16:ck=0→cd.T.length≤64:=fun h=>by have:=(hok0 h).1.2;omega
 have hO64:ck=0→cd.O.length≤64:=fun h=>by have:=(hok0 h).1.1;omega
 have aw:∀ (st:St) (key:Nat),Nar (Nan cfg (NaM cfg (F+50)) 9) false st key []=some (.b true,st):=fun st key=>NaH rfl (by rw[NbC hxa];rfl) rfl;obtain⟨gb,hgb⟩:=Nj0 hc (F:=F) (cd:=cd) hwf hF;have gG:∀ (st:St) (key:Nat),Nar (Nan cfg (NaM cfg (F+50)) 7) false st key [.agg [slV cd.zo cd.O.length (cd.O.flatMap Dc.cs),slV cd.zt cd.T.length (cd.T.flatMap Tx.cs)]]=some (.b gb,st):=fun st key=>NaX (Nbk NbI) hgb rfl rfl;obtain⟨l',hl'⟩:∃ l',l.take 50=l':=⟨_,rfl⟩;have hlen:l'.length≤50:=by rw[←hl',List.length_take];omega
 have hmin:=Nr9 50 l;have hsl:=NpO 50 l;rw[hl']at hmin hsl;obtain⟨k,hk,rk⟩:=NkD hc (fuel:=F+50) Zaa x0 (n:=((l'.length+1:Nat):Int)) ⟨by omega,by omega⟩;have gK:∀ (st:St) (key:Nat),Nar (Nan cfg (NaM cfg (F+50)) 18) false st key [.i .i64 x0,.i .i64 ((l'.length+1:Nat):Int)]=some (.i .i64 (k:Int),st):=fun st key=>NaH rfl rk rfl;have hkl:k≤l'.length:=by omega
 have hto:=Nru (l:=l') hkl;obtain⟨l2,hl2⟩:∃ l2,l'.take k=l2:=⟨_,rfl⟩;have hlen2:l2.length≤50:=by rw[←hl2,List.length_take];omega
 rw[hl2]at hto;have hr1:=NiD hok hce (fuel:=F+38) (z:=false) (l:=l') Zaa Zaa Zaa hckr hwO hwT hT16 hO64;have hr2:=NiD hok hce (fuel:=F+38) (z:=false) (l:=l2) Zaa Zaa Zaa hckr hwO hwT hT16 hO64;have htr:=Njm (hc.fn _ _ (by kernel_rfl)) hxt (fuel:=F+49) (z:=false) (cd:=cd) (l:=l') Zaa hwO hwT Zaa;rw[NpK]at hr1 hr2 htr;have hs1:∀ o:Int,_:=fun o=>NiH hok hce (fuel:=F+38) (z:=false) (l:=l') (o:=o) Zaa Zaa hckr hwO hwT hT16;have hs2:∀ o:Int,_:=fun o=>NiH hok hce (fuel:=F+38) (z:=false) (l:=l2) (o:=o) Zaa Zaa hckr hwO hwT hT16;simp only[NpK]at hs1 hs2;have hgr:∀ r,r∈Nd6 (NcF ck cd l2).2 cd.O.length→r.2<k∧(l'.all (etB cd)=true→r∈Nd6 (NcF ck cd l').2 cd.O.length∧(NcF ck cd l2).1 (r.1:Int)=(NcF ck cd l').1 (r.1:Int)):=fun r h=>by
  rw[←hl2]at h ⊢;exact NlB hkl h
 have hR64:=NeE (cd:=cd) (ck:=ck) (l:=l') hO64 (i:=cd.O.length) Zaa;have hS64:=NeE (cd:=cd) (ck:=ck) (l:=l2) hO64 (i:=cd.O.length) Zaa;have hsl64:∀ o:Int,((NcF ck cd l').1 o).Rs.length≤64:=fun o=>NjO hT16 o;obtain⟨tb,htb⟩:∃ tb,l'.all (etB cd)=tb:=⟨_,rfl⟩;rw[htb]at htr;simp only[htb]at hgr;obtain⟨R,hR⟩:∃ R,Nd6 (NcF ck cd l').2 cd.O.length=R:=⟨_,rfl⟩;obtain⟨S,hS⟩:∃ S,Nd6 (NcF ck cd l2).2 cd.O.length=S:=⟨_,rfl⟩;rw[hR]at hr1 hR64;rw[hS]at hr2 hS64;simp only[hR,hS]at hgr;rw[show Cd.cs cd=[slV cd.zo cd.O.length (cd.O.flatMap Dc.cs),slV cd.zt cd.T.length (cd.T.flatMap Tx.cs)]from rfl]at *;have hE:=NaO Et.cs_len l;simp only[Nao]
 iterate 2
  (try rw[Z0]);(try simp(maxSteps:=9^7)(disch:=first|omega|rfl|assumption)only[↓Yaa,Yab,Nae,Naa,rA,rB,rC,rD,reduceIte,unP,rE,Nag,Naf])
 refine NaN (fun x=>∃ (A:Nat) (X:Nat),A<x.st.cnt∧(A<X)∧X<x.st.cnt∧x.env.get 1=.fsl l.length (l.flatMap Et.cs)∧x.env.get 3=.ptr A 0∧x.env.get 5=.ptr X 0∧x.st.get A=some (.cells [slV cd.zo cd.O.length (cd.O.flatMap Dc.cs),slV cd.zt cd.T.length (cd.T.flatMap Tx.cs)] false)∧x.st.get X=some (.cells [.i .i64 x0,.i .i64 x1] false)∧(Top x.st)) ?_ ?_
 ·refine⟨1,9,?_,?_,?_,Zab,Zab,Zab,?_,?_,(by intro q hq;simp only[Z0L_,Naz]at hq;simp(disch:=omega)only[Nas,Nau];rfl)⟩<;>first|with_reducible rfl|with_reducible assumption|exact kA _|exact kX _|omega|(simp only[Z0L_,Naz];omega)|(simp only;omega)|assumption|rfl|(simp;omega)|(simp;done)|(simp(disch:=omega)only[Nas,Nau,Yaf];first|done|with_reducible rfl|with_reducible assumption)
 rintro⟨env,⟨sto,c⟩⟩ ⟨A,X,bA,oX,bX,g1,g3,g5,kA,kX,ht⟩;try simp only at bA bX g1 g3 g5 ht
 replace kA:∀ n',St.get ⟨sto,n'⟩ A=some (.cells [slV cd.zo cd.O.length (cd.O.flatMap Dc.cs),slV cd.zt cd.T.length (cd.T.flatMap Tx.cs)] false):=fun _=>kA;replace kX:∀ n',St.get ⟨sto,n'⟩ X=some (.cells [.i .i64 x0,.i .i64 x1] false):=fun _=>kX;cases gb with
 |true =>
   iterate 6
    (try rw[Z0]);(try simp(maxSteps:=9^7)(disch:=first|omega|rfl|assumption)only[↓Yaa,Yab,Nae,Naa,rA,rB,rC,rD,reduceIte,unP,rE,g1,g3,g5,kA,kX,gG,aw,Nag,Naf])
   exact⟨nofun,_,rfl,by simp only[NaI,Yad,if_true]⟩
 |false =>
   iterate 5
    (try rw[Z0]);(try simp(maxSteps:=9^7)(disch:=first|omega|rfl|assumption)only[↓Yaa,Yab,Nae,Naa,rA,rB,rC,rD,reduceIte,unP,rE,g1,g3,g5,kA,kX,gG,aw,Nag,Naf,hmin,hsl,gK])
   obtain⟨o1,ho1⟩:∃ o1,slV cd.zo cd.O.length (cd.O.flatMap Dc.cs)=o1:=⟨_,rfl⟩;obtain⟨o2,ho2⟩:∃ o2,slV cd.zt cd.T.length (cd.T.flatMap Tx.cs)=o2:=⟨_,rfl⟩;have hdg:∀ st,Go.Pe.deep st 12 (.agg [o1,o2])=some (.agg [o1,o2]):=fun st=>by
    have:=NbI (st:=st) (cd:=cd);unfold Cd.cs at this;rw[ho1,ho2]at this;exact this
   have hkl0:∀ (st:St) (n:Nat) (cs:List PV) (u:Int),keysL st [.agg [o1,o2],.fsl n cs,.i .i64 u]=[]:=fun st n cs u=>by
    rw[←ho1,←ho2];unfold slV;split<;>split<;>rfl
   simp only[ho1,ho2]at hr1 hr2 htr hs1 hs2 kA;rw[ho1,ho2];refine Nh0 (Na2 (hdg _) rfl) hr1 (NiB R) (NiA R) (Nen R) Zad ?_;rintro v8 ⟨sto1,c1⟩ own1 key1 cnt1 fr1;simp only at cnt1;subst cnt1;have ht1:Top ⟨sto1,c+152⟩:=fun q hq=>by simp only at hq;exact(fr1 q Zaa).trans (ht q Zad)
   have kA1:St.get ⟨sto1,c+152⟩ A=some (.cells [o1,o2] false):=(fr1 A Zaa).trans (kA _);refine NaN (fun x=>∃ (V8:PV),x.env.get 1=.fsl l'.length (l'.flatMap Et.cs)∧A<x.st.cnt∧X<x.st.cnt∧x.env.get 3=.ptr A 0∧x.env.get 7=.i .i64 (k:Int)∧x.env.get 8=V8∧x.st.get A=some (.cells [o1,o2] false)∧(Top x.st)∧(Own x.st 2 V8 R.length (R.flatMap Nem))) ?_ ?_
   ·refine⟨v8,?_,?_,?_,?_,?_,?_,(by exact kA1),ht1,own1⟩<;>first|with_reducible rfl|with_reducible assumption|(simp[Yad,g1,g3,g5]<;>omega)|omega|(simp only[Z0L_,Naz];omega)|(simp only;omega)
   clear bA bX g1 g3 g5 kA kX ht;rintro⟨env,⟨sto,c⟩⟩ ⟨V8,g1,bA,bX,g3,g7,g8,kA,ht,h8⟩;try simp only at g1 bA bX g3 g7 g8 ht h8
   replace kA:∀ n',St.get ⟨sto,n'⟩ A=some (.cells [o1,o2] false):=fun _=>kA;try simp only at bA bX
   iterate 2
    (try rw[Z0]);(try simp(maxSteps:=9^7)(disch:=first|omega|rfl|assumption)only[↓Yaa,Yab,Nae,Naa,rA,rB,rC,rD,reduceIte,unP,rE,g1,g3,g7,g8,kA,hto])
   refine Njt (Na2 (hdg _) rfl) hr2 (NiB S) (NiA S) (Nen S) Zad ?_;rintro v35 ⟨sto1,c1⟩ own2 key2 cnt2 fr2;simp only at cnt2;subst cnt2;have hlv2:=own2.len;have h8':=h8.move (st':=⟨sto1,c+56⟩) Zad fun q hq hlt=>fr2 q (by simp only at hlt;omega);have ht2:Top ⟨sto1,c+56⟩:=fun q hq=>by simp only at hq;exact(fr2 q Zaa).trans (ht q Zad)
   have kA2:St.get ⟨sto1,c+56⟩ A=some (.cells [o1,o2] false):=(fr2 A Zaa).trans (kA _);(try rw[Z0]);(try simp(maxSteps:=9^7)(disch:=first|omega|rfl|assumption)only[↓Yaa,Yab,Nae,Naa,rA,rB,rC,rD,reduceIte,unP,rE,g1,g3,g7,g8,kA,hlv2]);refine Z9 (k:=S.length - 0) (fun m x=>∃ (j:Nat),m=S.length - j∧x.env.get 1=.fsl l'.length (l'.flatMap Et.cs)∧A<x.st.cnt∧X<x.st.cnt∧x.env.get 3=.ptr A 0∧x.env.get 7=.i .i64 (k:Int)∧x.env.get 8=V8∧x.st.get A=some (.cells [o1,o2] false)∧(Top x.st)∧(Own x.st 2 V8 R.length (R.flatMap Nem))∧x.env.get 35=v35∧x.env.get 36=.i .i64 (S.length:Int)∧x.env.get 37=.i .i64 (j:Int)∧(j≤S.length)∧(Own x.st 2 v35 S.length (S.flatMap Nem))) ?_ ?_ Zaa
   ·clear g1 bA bX g3 g7 g8 kA ht h8;rintro m ⟨env,⟨sto,c⟩⟩ ⟨j,rfl,g1,bA,bX,g3,g7,g8,kA,ht,h8,g35,g36,g37,hj,h35⟩;try simp only at g1 bA bX g3 g7 g8 ht h8 g35 g36 g37 h35
    replace kA:∀ n',St.get ⟨sto,n'⟩ A=some (.cells [o1,o2] false):=fun _=>kA;try simp only at bA bX
    by_cases hjl:j<S.length
    ·rcases id h35 with⟨_,h0,_⟩|⟨q,rfl,gq,lq,bq⟩
     ·omega
     try simp only at bq
     have kq:∀ n',St.get ⟨sto,n'⟩ q=_:=fun _=>gq;have hrt:=NiC hjl;have hrn:=Nen S;obtain⟨r,hr⟩:∃ r,S[j]=r:=⟨_,rfl⟩;rw[hr]at hrt;have hmem:r∈S:=hr▸List.getElem_mem hjl;obtain⟨hrk,hrin⟩:=hgr r hmem
     iterate 5
      (try rw[Z0]);(try simp(maxSteps:=9^7)(disch:=first|omega|rfl|assumption)only[↓Yaa,Yab,Nae,Naa,rA,rB,rC,rD,reduceIte,unP,rE,g1,g3,g7,g8,kA,g35,g36,g37,kq,hrt,hrn,Naw])
     refine NaN (fun x=>∃ (T10:Nat),x.env.get 1=.fsl l'.length (l'.flatMap Et.cs)∧A<x.st.cnt∧X<x.st.cnt∧x.env.get 3=.ptr A 0∧x.env.get 7=.i .i64 (k:Int)∧x.env.get 8=V8∧x.st.get A=some (.cells [o1,o2] false)∧(Top x.st)∧(Own x.st 2 V8 R.length (R.flatMap Nem))∧x.env.get 35=.rsl q 2 0 S.length∧x.env.get 36=.i .i64 (S.length:Int)∧x.env.get 37=.i .i64 (j:Int)∧(Own x.st 2 (.rsl q 2 0 S.length) S.length (S.flatMap Nem))∧(X<T10)∧T10<x.st.cnt∧x.env.get 10=.ptr T10 0∧x.env.get 11=.b false∧x.st.get T10=some (.cells [.i .i64 (r.1:Int),.i .i64 (r.2:Int)] false)) ?_ ?_
     ·refine⟨c+24,?_,?_,?_,?_,?_,?_,?_,(by intro u hu;(try simp only[Z0L_,Naz]at hu);(try simp only at hu);simp(disch:=omega)only[Nas,Nau];exact ht u (by simp only;omega)),(h8.move (by(try simp only[Z0L_]);(try simp only);omega) fun u hu hlt=>by(try simp only at hlt);simp(disch:=omega)only[Nas,Nau];rfl),?_,?_,?_,(h35.move (by(try simp only[Z0L_]);(try simp only);omega) fun u hu hlt=>by(try simp only at hlt);simp(disch:=omega)only[Nas,Nau];rfl),?_,?_,?_,?_,?_⟩<;>first|with_reducible rfl|with_reducible assumption|exact kA _|exact kT10 _|(simp[Yad,g1,g3,g7,g8,g35,g36,g37]<;>omega)|omega|(simp only[Z0L_,Naz];omega)|(simp only;omega)|(simp(disch:=omega)only[Nas,Nau,Yaf,kA];first|done|with_reducible rfl|with_reducible assumption)|assumption|rfl|(simp;omega)|(simp;done)
     clear g1 bA bX g3 g7 g8 kA ht h8 g35 g36 g37 h35;rintro⟨env,⟨sto,c⟩⟩ ⟨T10,g1,bA,bX,g3,g7,g8,kA,ht,h8,g35,g36,g37,h35,oT10,bT10,g10,g11,kT10⟩;try simp only at g1 bA bX g3 g7 g8 ht h8 g35 g36 g37 h35 bT10 g10 g11
     replace kA:∀ n',St.get ⟨sto,n'⟩ A=some (.cells [o1,o2] false):=fun _=>kA;replace kT10:∀ n',St.get ⟨sto,n'⟩ T10=some (.cells [.i .i64 (r.1:Int),.i .i64 (r.2:Int)] false):=fun _=>kT10;try simp only at bA bX bT10
     refine NaW (fun x=>x.env.get 1=.fsl l'.length (l'.flatMap Et.cs)∧A<x.st.cnt∧X<x.st.cnt∧x.env.get 3=.ptr A 0∧x.env.get 7=.i .i64 (k:Int)∧x.env.get 8=V8∧x.st.get A=some (.cells [o1,o2] false)∧(Top x.st)∧(Own x.st 2 V8 R.length (R.flatMap Nem))∧x.env.get 35=.rsl q 2 0 S.length∧x.env.get 36=.i .i64 (S.length:Int)∧x.env.get 37=.i .i64 (j:Int)∧(Own x.st 2 (.rsl q 2 0 S.length) S.length (S.flatMap Nem))∧T10<x.st.cnt∧x.env.get 10=.ptr T10 0∧x.env.get 11=.b (R.any (r==·))∧x.st.get T10=some (.cells [.i .i64 (r.1:Int),.i .i64 (r.2:Int)] false)) ?_ ?_
     ·intro K1 hK1;have hl8:=h8.len;(try rw[Z0]);(try simp(maxSteps:=9^7)(disch:=first|omega|rfl|assumption)only[↓Yaa,Yab,Nae,Naa,rA,rB,rC,rD,reduceIte,unP,rE,g1,g3,g7,g8,kA,g35,g36,g37,g10,g11,kT10,hl8]);refine Z9 (k:=R.length - 0) (fun m x=>∃ (i:Nat),m=R.length - i∧x.env.get 1=.fsl l'.length (l'.flatMap Et.cs)∧A<x.st.cnt∧X<x.st.cnt∧x.env.get 3=.ptr A 0∧x.env.get 7=.i .i64 (k:Int)∧x.env.get 8=V8∧x.st.get A=some (.cells [o1,o2] false)∧(Top x.st)∧(Own x.st 2 V8 R.length (R.flatMap Nem))∧x.env.get 35=.rsl q 2 0 S.length∧x.env.get 36=.i .i64 (S.length:Int)∧x.env.get 37=.i .i64 (j:Int)∧(Own x.st 2 (.rsl q 2 0 S.length) S.length (S.flatMap Nem))∧T10<x.st.cnt∧x.env.get 10=.ptr T10 0∧x.env.get 11=.b ((R.take i).any (r==·))∧x.st.get T10=some (.cells [.i .i64 (r.1:Int),.i .i64 (r.2:Int)] false)∧x.env.get 41=V8∧x.env.get 42=.i .i64 (R.length:Int)∧x.env.get 43=.i .i64 (i:Int)∧(i≤R.length)) ?_ ?_ Zaa
      ·clear g1 bA bX g3 g7 g8 kA ht h8 g35 g36 g37 h35 bT10 g10 g11 kT10;rintro m ⟨env,⟨sto,c⟩⟩ ⟨i,rfl,g1,bA,bX,g3,g7,g8,kA,ht,h8,g35,g36,g37,h35,bT10,g10,g11,kT10,g41,g42,g43,hi⟩;try simp only at g1 bA bX g3 g7 g8 ht h8 g35 g36 g37 h35 bT10 g10 g11 g41 g42 g43
       replace kA:∀ n',St.get ⟨sto,n'⟩ A=some (.cells [o1,o2] false):=fun _=>kA;replace kT10:∀ n',St.get ⟨sto,n'⟩ T10=some (.cells [.i .i64 (r.1:Int),.i .i64 (r.2:Int)] false):=fun _=>kT10;try simp only at bA bX bT10
       by_cases hil:i<R.length
       ·rcases id h8 with⟨_,h0,_⟩|⟨q8,rfl,gq8,lq8,bq8⟩
        ·omega
        try simp only at bq8
        have kq8:∀ n',St.get ⟨sto,n'⟩ q8=_:=fun _=>gq8;have hrt8:=NiC hil;have hrn8:=Nen R;have hq:=NnA r R[i];have hnx:(R.take (i+1)).any (r==·)=((R.take i).any (r==·)||(r==R[i])):=by
         rw[List.take_succ_eq_append_getElem hil,List.any_append];simp
        by_cases hfl:(R.take i).any (r==·)=true
        ·rw[hfl]at g11
         iterate 6
          (try rw[Z0]);(try simp(maxSteps:=9^7)(disch:=first|omega|rfl|assumption)only[↓Yaa,Yab,Nae,Naa,rA,rB,rC,rD,reduceIte,unP,rE,g1,g3,g7,g8,kA,g35,g36,g37,g10,g11,kT10,g41,g42,g43,kq8,hrt8,hrn8,Naw])
         exact⟨R.length - (i+1),by omega,i+1,rfl,(by intro u hu;(try simp only[Z0L_,Naz]at hu);(try simp only at hu);simp(disch:=omega)only[Nas,Nau];exact ht u (by simp only;omega)),h8.move Zad (fun u hu hlt=>by(try simp only at hlt);simp(disch:=omega)only[Nas,Nau];rfl),h35.move Zad (fun u hu hlt=>by(try simp only at hlt);simp(disch:=omega)only[Nas,Nau];rfl),by rw[hnx,hfl];rfl,rfl,by omega⟩
        ·rw[Bool.eq_false_iff.2 hfl]at g11
         iterate 6
          (try rw[Z0]);(try simp(maxSteps:=9^7)(disch:=first|omega|rfl|assumption)only[↓Yaa,Yab,Nae,Naa,rA,rB,rC,rD,reduceIte,unP,rE,g1,g3,g7,g8,kA,g35,g36,g37,g10,g11,kT10,g41,g42,g43,kq8,hrt8,hrn8,Naw,hq])
         exact⟨R.length - (i+1),by omega,i+1,rfl,(by intro u hu;(try simp only[Z0L_,Naz]at hu);(try simp only at hu);simp(disch:=omega)only[Nas,Nau];exact ht u (by simp only;omega)),h8.move Zad (fun u hu hlt=>by(try simp only at hlt);simp(disch:=omega)only[Nas,Nau];rfl),h35.move Zad (fun u hu hlt=>by(try simp only at hlt);simp(disch:=omega)only[Nas,Nau];rfl),by rw[hnx,Bool.eq_false_iff.2 hfl];simp,rfl,by omega⟩
       ·obtain rfl:i=R.length:=by omega
        rw[List.take_length]at g11
        iterate 5
         (try rw[Z0]);(try simp(maxSteps:=9^7)(disch:=first|omega|rfl|assumption)only[↓Yaa,Yab,Nae,Naa,rA,rB,rC,rD,reduceIte,unP,rE,g1,g3,g7,g8,kA,g35,g36,g37,g10,g11,kT10,g41,g42,g43])
        refine hK1 _ ⟨?_,?_,?_,?_,?_,?_,?_,(ht.le Zaa),(h8.move Zad fun _ _ _=>rfl),?_,?_,?_,(h35.move Zad fun _ _ _=>rfl),?_,?_,?_,?_⟩<;>first|with_reducible rfl|with_reducible assumption|exact kA _|exact kT10 _|(simp[Yad,g1,g3,g7,g8,g35,g36,g37,g10,g11,g41,g42,g43]<;>omega)|omega|(simp only[Z0L_,Naz];omega)|(simp only;omega)|(simp(disch:=omega)only[Nas,Nau,Yaf,kA,kT10];first|done|with_reducible rfl|with_reducible assumption)
      ·skip
       refine⟨0,rfl,?_,?_,?_,?_,?_,?_,?_,(ht.le Zaa),(h8.move Zad fun _ _ _=>rfl),?_,?_,?_,(h35.move Zad fun _ _ _=>rfl),?_,?_,(by simp[Yad,g11]),?_,?_,?_,?_,?_⟩<;>first|with_reducible rfl|with_reducible assumption|exact kA _|exact kT10 _|(simp[Yad,g1,g3,g7,g8,g35,g36,g37,g10,g11]<;>omega)|omega|(simp only[Z0L_,Naz];omega)|(simp only;omega)|(simp(disch:=omega)only[Nas,Nau,Yaf,kA,kT10];first|done|with_reducible rfl|with_reducible assumption)|assumption|rfl|(simp;omega)|(simp;done)
     clear g1 bA bX g3 g7 g8 kA ht h8 g35 g36 g37 h35 bT10 g10 g11 kT10;rintro⟨env,⟨sto,c⟩⟩ ⟨g1,bA,bX,g3,g7,g8,kA,ht,h8,g35,g36,g37,h35,bT10,g10,g11,kT10⟩;try simp only at g1 bA bX g3 g7 g8 ht h8 g35 g36 g37 h35 bT10 g10 g11
     replace kA:∀ n',St.get ⟨sto,n'⟩ A=some (.cells [o1,o2] false):=fun _=>kA;replace kT10:∀ n',St.get ⟨sto,n'⟩ T10=some (.cells [.i .i64 (r.1:Int),.i .i64 (r.2:Int)] false):=fun _=>kT10;try simp only at bA bX bT10
     have gT:∀ (st:St) (key:Nat),Nar (Nan cfg (NaM cfg (F+50)) 8) false st key [.agg [o1,o2],.fsl l'.length (l'.flatMap Et.cs)]=some (.b tb,st):=fun st key=>NaX (Na2 (hdg _) rfl) htr rfl rfl;have hgd:tb=true→R.any (r==·)=true:=fun h=>NnT (hrin h).1;refine NaW (fun x=>x.env.get 1=.fsl l'.length (l'.flatMap Et.cs)∧A<x.st.cnt∧X<x.st.cnt∧x.env.get 3=.ptr A 0∧x.env.get 7=.i .i64 (k:Int)∧x.env.get 8=V8∧x.st.get A=some (.cells [o1,o2] false)∧(Top x.st)∧(Own x.st 2 V8 R.length (R.flatMap Nem))∧x.env.get 35=.rsl q 2 0 S.length∧x.env.get 36=.i .i64 (S.length:Int)∧x.env.get 37=.i .i64 (j:Int)∧(Own x.st 2 (.rsl q 2 0 S.length) S.length (S.flatMap Nem))∧T10<x.st.cnt∧x.env.get 10=.ptr T10 0∧x.st.get T10=some (.cells [.i .i64 (r.1:Int),.i .i64 (r.2:Int)] false)) ?_ ?_
     ·intro K2 hK2;cases tb with
      |false =>
        iterate 4
         (try rw[Z0]);(try simp(maxSteps:=9^7)(disch:=first|omega|rfl|assumption)only[↓Yaa,Yab,Nae,Naa,rA,rB,rC,rD,reduceIte,unP,rE,g1,g3,g7,g8,kA,g35,g36,g37,g10,g11,kT10,gT])
        refine hK2 _ ⟨?_,?_,?_,?_,?_,?_,?_,(ht.le Zaa),(h8.move Zad fun _ _ _=>rfl),?_,?_,?_,(h35.move Zad fun _ _ _=>rfl),?_,?_,?_⟩<;>first|with_reducible rfl|with_reducible assumption|exact kA _|exact kT10 _|(simp[Yad,g1,g3,g7,g8,g35,g36,g37,g10,g11]<;>omega)|omega|(simp only[Z0L_,Naz];omega)|(simp only;omega)|(simp(disch:=omega)only[Nas,Nau,Yaf,kA,kT10];first|done|with_reducible rfl|with_reducible assumption)
      |true =>
        rw[hgd rfl]at g11
        iterate 4
         (try rw[Z0]);(try simp(maxSteps:=9^7)(disch:=first|omega|rfl|assumption)only[↓Yaa,Yab,Nae,Naa,rA,rB,rC,rD,reduceIte,unP,rE,g1,g3,g7,g8,kA,g35,g36,g37,g10,g11,kT10,gT])
        refine hK2 _ ⟨?_,?_,?_,?_,?_,?_,?_,(ht.le Zaa),(h8.move Zad fun _ _ _=>rfl),?_,?_,?_,(h35.move Zad fun _ _ _=>rfl),?_,?_,?_⟩<;>first|with_reducible rfl|with_reducible assumption|exact kA _|exact kT10 _|(simp[Yad,g1,g3,g7,g8,g35,g36,g37,g10,g11]<;>omega)|omega|(simp only[Z0L_,Naz];omega)|(simp only;omega)|(simp(disch:=omega)only[Nas,Nau,Yaf,kA,kT10];first|done|with_reducible rfl|with_reducible assumption)
     clear g1 bA bX g3 g7 g8 kA ht h8 g35 g36 g37 h35 bT10 g10 g11 kT10;rintro⟨env,⟨sto,c⟩⟩ ⟨g1,bA,bX,g3,g7,g8,kA,ht,h8,g35,g36,g37,h35,bT10,g10,kT10⟩;try simp only at g1 bA bX g3 g7 g8 ht h8 g35 g36 g37 h35 bT10 g10
     replace kA:∀ n',St.get ⟨sto,n'⟩ A=some (.cells [o1,o2] false):=fun _=>kA;replace kT10:∀ n',St.get ⟨sto,n'⟩ T10=some (.cells [.i .i64 (r.1:Int),.i .i64 (r.2:Int)] false):=fun _=>kT10;obtain⟨s,hs⟩:∃ s,(NcF ck cd l').1 (r.1:Int)=s:=⟨_,rfl⟩;have h1:=hs1 (r.1:Int);have h2:=hs2 (r.1:Int);have hs64:=hsl64 (r.1:Int);rw[hs]at h1 hs64;have gX:∀ (st:St) (key:Nat),Nar (Nan cfg (NaM cfg (F+50)) 12) false st key [.agg (snC s (NbF s.Rs)),.agg (snC s (NbF s.Rs))]=some (.b true,st):=fun st key=>NaX (Na2 Nh8 Nh8) (NkS (hc.fn _ _ (by kernel_rfl)) hxs (hc.fn _ _ (by kernel_rfl)) hxi (fuel:=F+48) Zaa Zaa) rfl rfl;have gS1:∀ (st:St) (key:Nat),Nar (Nan cfg (NaM cfg (F+50)) 10) false st key [.agg [o1,o2],.fsl l'.length (l'.flatMap Et.cs),.i .i64 (r.1:Int)]=some (.agg (snC s (NbF s.Rs)),st):=fun st key=>Nfy (Ncw (hdg _) rfl rfl) h1 (hkl0 _ _ _ _) fun _=>rfl;refine Nfv hok ht ?_;rw[Z0];have nn:∀ u:Nat,u∉([]:List Nat):=fun _=>List.not_mem_nil;have hnn:∀ d n',St.get ⟨sto,n'⟩ (c+d)=none:=fun d _=>ht (c+d) Zad;have sm2:PV.same Nbu (.agg [o1,o2]) (.agg [o1,o2])=true:=(by rw[←ho1,←ho2];exact NkU _ _ _ _ _ _);refine Nes (NcN hok _) (NcX hok _).2 [] (by rfl) (ns:=[false,false,false,false,false,false,false,false,false,false,false,true,true,true,true,false,false,false,false]) (by rfl) ht ?_;cases tb with
     |false =>
       (first|rw[Naq]|rw[Nam]);(try simp(maxSteps:=9^7)(disch:=first|omega|rfl|assumption)only[↓Yaa,Yac,Nae,Naa,rA,rB,rC,rD,reduceIte,unP,Xl,rE,NaD,Nay,NaB,Naj,Nai,Nal,Nak,g1,g3,kA,gT,Nbq,Nbr]);(first|rw[Naq]|rw[Nam]);(try simp(maxSteps:=9^7)(disch:=first|omega|rfl|assumption)only[↓Yaa,Yac,Nae,Naa,rA,rB,rC,rD,reduceIte,unP,Xl,rE,NaD,Nay,NaB,Naj,Nai,Nal,Nak,g1,g3,kA,gT,Nbq,Nbr]);(first|rw[Naq]|rw[Nam]);(try simp(maxSteps:=9^7)(disch:=first|omega|rfl|assumption)only[↓Yaa,Yac,Nae,Naa,rA,rB,rC,rD,reduceIte,unP,Xl,rE,NaD,Nay,NaB,Naj,Nai,Nal,Nak,g1,g3,kA,gT,Nbq,Nbr]);(first|rw[Naq]|rw[Nam]);(try simp(maxSteps:=9^7)(disch:=first|omega|rfl|assumption)only[↓Yaa,Yac,Nae,Naa,rA,rB,rC,rD,reduceIte,unP,Xl,rE,NaD,Nay,NaB,Naj,Nai,Nal,Nak,g1,g3,kA,gT,Nbq,Nbr]);(first|rw[Naq]|rw[Nam]);(try simp(maxSteps:=9^7)(disch:=first|omega|rfl|assumption)only[↓Yaa,Yac,Nae,Naa,rA,rB,rC,rD,reduceIte,unP,Xl,rE,NaD,Nay,NaB,Naj,Nai,Nal,Nak,g1,g3,kA,gT,Nbq,Nbr]);(first|rw[Naq]|rw[Nam]);(try simp(maxSteps:=9^7)(disch:=first|omega|rfl|assumption)only[↓Yaa,Yac,Nae,Naa,rA,rB,rC,rD,reduceIte,unP,Xl,rE,NaD,Nay,NaB,Naj,Nai,Nal,Nak,g1,g3,kA,gT,Nbq,Nbr]);(first|rw[Naq]|rw[Nam]);(try simp(maxSteps:=9^7)(disch:=first|omega|rfl|assumption)only[↓Yaa,Yac,Nae,Naa,rA,rB,rC,rD,reduceIte,unP,Xl,rE,NaD,Nay,NaB,Naj,Nai,Nal,Nak,g1,g3,kA,gT,Nbq,Nbr]);(first|rw[Naq]|rw[Nam]);(try simp(maxSteps:=9^7)(disch:=first|omega|rfl|assumption)only[↓Yaa,Yac,Nae,Naa,rA,rB,rC,rD,reduceIte,unP,Xl,rE,NaD,Nay,NaB,Naj,Nai,Nal,Nak,g1,g3,kA,gT,Nbq,Nbr]);(first|rw[Naq]|rw[Nam]);(try simp(maxSteps:=9^7)(disch:=first|omega|rfl|assumption)only[↓Yaa,Yac,Nae,Naa,rA,rB,rC,rD,reduceIte,unP,Xl,rE,NaD,Nay,NaB,Naj,Nai,Nal,Nak,g1,g3,kA,gT,Nbq,Nbr]);(first|rw[Naq]|rw[Nam]);(try simp(maxSteps:=9^7)(disch:=first|omega|rfl|assumption)only[↓Yaa,Yac,Nae,Naa,rA,rB,rC,rD,reduceIte,unP,Xl,rE,NaD,Nay,NaB,Naj,Nai,Nal,Nak,g1,g3,kA,gT,Nbq,Nbr]);(first|rw[Naq]|rw[Nam]);(try simp(maxSteps:=9^7)(disch:=first|omega|rfl|assumption)only[↓Yaa,Yac,Nae,Naa,rA,rB,rC,rD,reduceIte,unP,Xl,rE,NaD,Nay,NaB,Naj,Nai,Nal,Nak,g1,g3,kA,gT,Nbq,Nbr]);(first|rw[Naq]|rw[Nam]);(try simp(maxSteps:=9^7)(disch:=first|omega|rfl|assumption)only[↓Yaa,Yac,Nae,Naa,rA,rB,rC,rD,reduceIte,unP,Xl,rE,NaD,Nay,NaB,Naj,Nai,Nal,Nak,g1,g3,kA,gT,Nbq,Nbr]);(first|rw[Naq]|rw[Nam]);(try simp(maxSteps:=9^7)(disch:=first|omega|rfl|assumption)only[↓Yaa,Yac,Nae,Naa,rA,rB,rC,rD,reduceIte,unP,Xl,rE,NaD,Nay,NaB,Naj,Nai,Nal,Nak,g1,g3,kA,gT,Nbq,Nbr]);(first|rw[Naq]|rw[Nam]);(try simp(maxSteps:=9^7)(disch:=first|omega|rfl|assumption)only[↓Yaa,Yac,Nae,Naa,rA,rB,rC,rD,reduceIte,unP,Xl,rE,NaD,Nay,NaB,Naj,Nai,Nal,Nak,g1,g3,kA,gT,Nbq,Nbr]);(first|rw[Naq]|rw[Nam]);(try simp(maxSteps:=9^7)(disch:=first|omega|rfl|assumption)only[↓Yaa,Yac,Nae,Naa,rA,rB,rC,rD,reduceIte,unP,Xl,rE,NaD,Nay,NaB,Naj,Nai,Nal,Nak,g1,g3,kA,gT,Nbq,Nbr]);(first|rw[Naq]|rw[Nam]);(try simp(maxSteps:=9^7)(disch:=first|omega|rfl|assumption)only[↓Yaa,Yac,Nae,Naa,rA,rB,rC,rD,reduceIte,unP,Xl,rE,NaD,Nay,NaB,Naj,Nai,Nal,Nak,g1,g3,kA,gT,Nbq,Nbr]);(first|rw[Naq]|rw[Nam]);(try simp(maxSteps:=9^7)(disch:=first|omega|rfl|assumption)only[↓Yaa,Yac,Nae,Naa,rA,rB,rC,rD,reduceIte,unP,Xl,rE,NaD,Nay,NaB,Naj,Nai,Nal,Nak,g1,g3,kA,gT,Nbq,Nbr]);(first|rw[Naq]|rw[Nam]);(try simp(maxSteps:=9^7)(disch:=first|omega|rfl|assumption)only[↓Yaa,Yac,Nae,Naa,rA,rB,rC,rD,reduceIte,unP,Xl,rE,NaD,Nay,NaB,Naj,Nai,Nal,Nak,g1,g3,kA,gT,Nbq,Nbr]);(first|rw[Naq]|rw[Nam]);(try simp(maxSteps:=9^7)(disch:=first|omega|rfl|assumption)only[↓Yaa,Yac,Nae,Naa,rA,rB,rC,rD,reduceIte,unP,Xl,rE,NaD,Nay,NaB,Naj,Nai,Nal,Nak,g1,g3,kA,gT,Nbq,Nbr]);refine⟨⟨nn _,nofun⟩,NaA rfl,Nbg (nn _),NaA rfl,by rw[Nay _ _ _ _ _ _ _ rfl];trivial,by rw[Nai _ _ _ _ _ _ _ rfl];exact fun _ _ _=>rfl,Nbg (nn _),NaA rfl,Nbg (nn _),NaA rfl,?_⟩;rw[Net]
       iterate 4
        (try rw[Z0]);(try simp(maxSteps:=9^7)(disch:=first|omega|rfl|assumption)only[↓Yaa,Yab,Nae,Naa,rA,rB,rC,rD,reduceIte,unP,rE,g1,g3,g7,g8,kA,g35,g36,g37,g10,kT10])
       intro ht2;exact⟨S.length - (j+1),by omega,j+1,rfl,ht2.le Zaa,h8.move Zad (fun _ _ _=>rfl),rfl,by omega,h35.move Zad (fun _ _ _=>rfl)⟩
     |true =>
       rw[(hrin rfl).2,hs]at h2;have gS2:∀ (st:St) (key:Nat),Nar (Nan cfg (NaM cfg (F+50)) 10) false st key [.agg [o1,o2],.fsl l2.length (l2.flatMap Et.cs),.i .i64 (r.1:Int)]=some (.agg (snC s (NbF s.Rs)),st):=fun st key=>Nfy (Ncw (hdg _) rfl rfl) h2 (hkl0 _ _ _ _) fun _=>rfl;(first|rw[Naq]|rw[Nam]);(try simp(maxSteps:=9^7)(disch:=first|omega|rfl|assumption)only[↓Yaa,Yac,Nae,Naa,rA,rB,rC,rD,reduceIte,unP,Xl,rE,NaD,Nay,NaB,Naj,Nai,Nal,Nak,g1,g3,g7,g10,kA,kT10,gT,Nbq,Nbr,gS1,gS2,gX,hto]);(first|rw[Naq]|rw[Nam]);(try simp(maxSteps:=9^7)(disch:=first|omega|rfl|assumption)only[↓Yaa,Yac,Nae,Naa,rA,rB,rC,rD,reduceIte,unP,Xl,rE,NaD,Nay,NaB,Naj,Nai,Nal,Nak,g1,g3,g7,g10,kA,kT10,gT,Nbq,Nbr,gS1,gS2,gX,hto]);(first|rw[Naq]|rw[Nam]);(try simp(maxSteps:=9^7)(disch:=first|omega|rfl|assumption)only[↓Yaa,Yac,Nae,Naa,rA,rB,rC,rD,reduceIte,unP,Xl,rE,NaD,Nay,NaB,Naj,Nai,Nal,Nak,g1,g3,g7,g10,kA,kT10,gT,Nbq,Nbr,gS1,gS2,gX,hto]);(first|rw[Naq]|rw[Nam]);(try simp(maxSteps:=9^7)(disch:=first|omega|rfl|assumption)only[↓Yaa,Yac,Nae,Naa,rA,rB,rC,rD,reduceIte,unP,Xl,rE,NaD,Nay,NaB,Naj,Nai,Nal,Nak,g1,g3,g7,g10,kA,kT10,gT,Nbq,Nbr,gS1,gS2,gX,hto]);(first|rw[Naq]|rw[Nam]);(try simp(maxSteps:=9^7)(disch:=first|omega|rfl|assumption)only[↓Yaa,Yac,Nae,Naa,rA,rB,rC,rD,reduceIte,unP,Xl,rE,NaD,Nay,NaB,Naj,Nai,Nal,Nak,g1,g3,g7,g10,kA,kT10,gT,Nbq,Nbr,gS1,gS2,gX,hto]);(first|rw[Naq]|rw[Nam]);(try simp(maxSteps:=9^7)(disch:=first|omega|rfl|assumption)only[↓Yaa,Yac,Nae,Naa,rA,rB,rC,rD,reduceIte,unP,Xl,rE,NaD,Nay,NaB,Naj,Nai,Nal,Nak,g1,g3,g7,g10,kA,kT10,gT,Nbq,Nbr,gS1,gS2,gX,hto]);(first|rw[Naq]|rw[Nam]);(try simp(maxSteps:=9^7)(disch:=first|omega|rfl|assumption)only[↓Yaa,Yac,Nae,Naa,rA,rB,rC,rD,reduceIte,unP,Xl,rE,NaD,Nay,NaB,Naj,Nai,Nal,Nak,g1,g3,g7,g10,kA,kT10,gT,Nbq,Nbr,gS1,gS2,gX,hto]);(first|rw[Naq]|rw[Nam]);(try simp(maxSteps:=9^7)(disch:=first|omega|rfl|assumption)only[↓Yaa,Yac,Nae,Naa,rA,rB,rC,rD,reduceIte,unP,Xl,rE,NaD,Nay,NaB,Naj,Nai,Nal,Nak,g1,g3,g7,g10,kA,kT10,gT,Nbq,Nbr,gS1,gS2,gX,hto]);(first|rw[Naq]|rw[Nam]);(try simp(maxSteps:=9^7)(disch:=first|omega|rfl|assumption)only[↓Yaa,Yac,Nae,Naa,rA,rB,rC,rD,reduceIte,unP,Xl,rE,NaD,Nay,NaB,Naj,Nai,Nal,Nak,g1,g3,g7,g10,kA,kT10,gT,Nbq,Nbr,gS1,gS2,gX,hto]);(first|rw[Naq]|rw[Nam]);(try simp(maxSteps:=9^7)(disch:=first|omega|rfl|assumption)only[↓Yaa,Yac,Nae,Naa,rA,rB,rC,rD,reduceIte,unP,Xl,rE,NaD,Nay,NaB,Naj,Nai,Nal,Nak,g1,g3,g7,g10,kA,kT10,gT,Nbq,Nbr,gS1,gS2,gX,hto]);(first|rw[Naq]|rw[Nam]);(try simp(maxSteps:=9^7)(disch:=first|omega|rfl|assumption)only[↓Yaa,Yac,Nae,Naa,rA,rB,rC,rD,reduceIte,unP,Xl,rE,NaD,Nay,NaB,Naj,Nai,Nal,Nak,g1,g3,g7,g10,kA,kT10,gT,Nbq,Nbr,gS1,gS2,gX,hto]);(first|rw[Naq]|rw[Nam]);(try simp(maxSteps:=9^7)(disch:=first|omega|rfl|assumption)only[↓Yaa,Yac,Nae,Naa,rA,rB,rC,rD,reduceIte,unP,Xl,rE,NaD,Nay,NaB,Naj,Nai,Nal,Nak,g1,g3,g7,g10,kA,kT10,gT,Nbq,Nbr,gS1,gS2,gX,hto]);(first|rw[Naq]|rw[Nam]);(try simp(maxSteps:=9^7)(disch:=first|omega|rfl|assumption)only[↓Yaa,Yac,Nae,Naa,rA,rB,rC,rD,reduceIte,unP,Xl,rE,NaD,Nay,NaB,Naj,Nai,Nal,Nak,g1,g3,g7,g10,kA,kT10,gT,Nbq,Nbr,gS1,gS2,gX,hto]);(first|rw[Naq]|rw[Nam]);(try simp(maxSteps:=9^7)(disch:=first|omega|rfl|assumption)only[↓Yaa,Yac,Nae,Naa,rA,rB,rC,rD,reduceIte,unP,Xl,rE,NaD,Nay,NaB,Naj,Nai,Nal,Nak,g1,g3,g7,g10,kA,kT10,gT,Nbq,Nbr,gS1,gS2,gX,hto]);(first|rw[Naq]|rw[Nam]);(try simp(maxSteps:=9^7)(disch:=first|omega|rfl|assumption)only[↓Yaa,Yac,Nae,Naa,rA,rB,rC,rD,reduceIte,unP,Xl,rE,NaD,Nay,NaB,Naj,Nai,Nal,Nak,g1,g3,g7,g10,kA,kT10,gT,Nbq,Nbr,gS1,gS2,gX,hto]);(first|rw[Naq]|rw[Nam]);(try simp(maxSteps:=9^7)(disch:=first|omega|rfl|assumption)only[↓Yaa,Yac,Nae,Naa,rA,rB,rC,rD,reduceIte,unP,Xl,rE,NaD,Nay,NaB,Naj,Nai,Nal,Nak,g1,g3,g7,g10,kA,kT10,gT,Nbq,Nbr,gS1,gS2,gX,hto]);(first|rw[Naq]|rw[Nam]);(try simp(maxSteps:=9^7)(disch:=first|omega|rfl|assumption)only[↓Yaa,Yac,Nae,Naa,rA,rB,rC,rD,reduceIte,unP,Xl,rE,NaD,Nay,NaB,Naj,Nai,Nal,Nak,g1,g3,g7,g10,kA,kT10,gT,Nbq,Nbr,gS1,gS2,gX,hto]);(first|rw[Naq]|rw[Nam]);(try simp(maxSteps:=9^7)(disch:=first|omega|rfl|assumption)only[↓Yaa,Yac,Nae,Naa,rA,rB,rC,rD,reduceIte,unP,Xl,rE,NaD,Nay,NaB,Naj,Nai,Nal,Nak,g1,g3,g7,g10,kA,kT10,gT,Nbq,Nbr,gS1,gS2,gX,hto]);(first|rw[Naq]|rw[Nam]);(try simp(maxSteps:=9^7)(disch:=first|omega|rfl|assumption)only[↓Yaa,Yac,Nae,Naa,rA,rB,rC,rD,reduceIte,unP,Xl,rE,NaD,Nay,NaB,Naj,Nai,Nal,Nak,g1,g3,g7,g10,kA,kT10,gT,Nbq,Nbr,gS1,gS2,gX,hto]);refine⟨⟨nn _,nofun⟩,NaA rfl,Nbg (nn _),NaA rfl,by rw[Nay _ _ _ _ _ _ _ rfl];trivial,by rw[Nai _ _ _ _ _ _ _ rfl];exact fun _ _ _=>rfl,Nbg (nn _),NaA rfl,⟨nn _,nofun⟩,NaA rfl,Nbg (nn _),NaA rfl,Nbg (nn _),NaA rfl,Nbg (nn _),NaA rfl,Nbg (nn _),NaA rfl,⟨nn _,nofun⟩,NaA rfl,by rw[Nay _ _ _ _ _ _ _ rfl];trivial,by rw[Nai _ _ _ _ _ _ _ rfl];exact fun _ _ _=>rfl,⟨nn _,fun _ k o h=>by cases h;exact⟨by omega,nn _⟩⟩,Na5 rfl sm2 (hnn 88 _),by rw[NaB _ _ _ _ _ _ _ rfl rfl];exact nn _,Na5 rfl (PV.same_fslR _ _) (hnn 96 _),by rw[NaB _ _ _ _ _ _ _ rfl rfl];exact nn _,Na5 rfl (Ngm _ _) (hnn 104 _),⟨nn _,fun _ k o h=>by cases h;exact⟨by omega,nn _⟩⟩,Na5 rfl (NkT _ _) (hnn 112 _),by rw[Nay _ _ _ _ _ _ _ rfl];trivial,by rw[Nai _ _ _ _ _ _ _ rfl];exact fun _ _ _=>rfl,by rw[Nay _ _ _ _ _ _ _ rfl];trivial,by rw[Nai _ _ _ _ _ _ _ rfl];exact fun _ _ _=>rfl,Nbg (nn _),NaA rfl,Nbg (nn _),NaA rfl,?_⟩;rw[Net]
       iterate 4
        (try rw[Z0]);(try simp(maxSteps:=9^7)(disch:=first|omega|rfl|assumption)only[↓Yaa,Yab,Nae,Naa,rA,rB,rC,rD,reduceIte,unP,rE,g1,g3,g7,g8,kA,g35,g36,g37,g10,kT10])
       intro ht2;exact⟨S.length - (j+1),by omega,j+1,rfl,ht2.le Zaa,h8.move Zad (fun _ _ _=>rfl),rfl,by omega,h35.move Zad (fun _ _ _=>rfl)⟩
    ·skip
     iterate 5
      (try rw[Z0]);(try simp(maxSteps:=9^7)(disch:=first|omega|rfl|assumption)only[↓Yaa,Yab,Nae,Naa,rA,rB,rC,rD,reduceIte,unP,rE,g1,g3,g7,g8,kA,g35,g36,g37,aw])
     exact⟨nofun,_,rfl,by simp only[NaI,Yad,if_true]⟩
   ·skip
    refine⟨0,rfl,?_,?_,?_,?_,?_,?_,(by exact kA2),(ht2.le Zaa),(h8'.move Zad fun _ _ _=>rfl),?_,?_,?_,?_,(own2.move Zad fun _ _ _=>rfl)⟩<;>first|with_reducible rfl|with_reducible assumption|(simp[Yad,g1,g3,g7,g8]<;>omega)|omega|(simp only[Z0L_,Naz];omega)|(simp only;omega)|assumption|rfl|(simp;omega)|(simp;done)
theorem Nj1(f:Nat)(z0:List PV)(i0:(NjD f).Is z0)(n1:Nat)(z1:List PV)(l1:z1.length=n1 * etSh.width)(b1:n1≤reachBytes)(i1:∀ j,j<n1→etSh.Is ((z1.drop (j * etSh.width)).take etSh.width))(z2:List PV)(i2:(Sh.cons (.i .i64) (.cons (.i .i64) .nil)).Is z2):∃ cd hwf fuel,evP (Nfr cd hwf) fuel 6 [.agg z0,.fsl n1 z1,.agg z2]=some (.b true):=by
 obtain⟨cd,rfl,hwf⟩:=Nrg f z0 i0;obtain⟨l,hl,hn,hw⟩:=NhH (f:=Et.cs) (Q:=Et.wf) (w:=5) n1 z1 l1 (fun j hj=>Nri _ (i1 j hj));obtain⟨h0,h1,h2⟩:=i2;simp only[Sh.width]at h0 h1 h2;obtain⟨x0,e0,-⟩:=Ncp h0;obtain⟨x1,e1,-⟩:=Ncp h1;simp only[Sh.Is]at h2;rw[h2]at e1;rw[e0,e1,hn,←hl];obtain⟨fuel,hev⟩:=Nn4 hwf (l:=l) Zaa (x0:=x0) (x1:=x1);exact⟨cd,hwf,fuel,hev⟩
end
end Go.Pe
