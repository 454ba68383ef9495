/-
 EpochSame: the law, walked. No condition.
-/
import Derived.Test.YtafdphmhbnjfaaaGreatDoorZPeTbl
import Derived.Test.YtafdphmhbnjfaaaGreatDoorZEpoT
set_option linter.unusedVariables false
set_option linter.unusedSimpArgs false
set_option maxRecDepth 100000
open Nat renaming reduceAdd → rA,reduceMul → rB,reduceLT → rC,reduceEqDiff → rD,reduceLeDiff → rE
namespace Go.Pe
open Go Go.Am Go.RowKit
noncomputable def m4:MFunc:={ body:=.seq (Qi [Qt 2 (.box (.t 0)),Qt 4 (.mv (.c (.b false)))]) (.seq (.seq (Qi [Qw 8 2 2,Qt 9 (.call 7 false [.l 8])]) (.cond (.t 9) (.seq (Qi [Ql 10 (.call 9 false []),Qm 4 10]) .ret) .skip)) (.seq (Qi [Qa 11 1,Qa 12 1,Ql 13 (.len (.l 12)),Ql 14 (.min (.l 13) [.c (.i .i64 (.ofNat 70))]),Ql 15 (.slice none 5 (.l 11) none (some (.l 14))),Qm 1 15]) (.seq (Qi [Qt 5 (.mv (.c .nsl))]) (.seq (.seq (Qi [Qw 16 2 2,Qa 17 1,Qt 18 (.call 14 false [.l 16,.l 17]),Qt 19 (.len (.t 18)),Qo 20 0]) (.block 0 (.loop (.seq (Qi [Qt 21 (.bin .lss (.t 20) (.t 19))]) (.seq (.cond (.t 21) .skip (.exit 0)) (.seq (.block 1 (.seq (Qi [Ql 22 (.indexAddr none 3 (.t 18) (.t 20)),Ql 23 (.load true 3 (.l 22)),Qt 7 (.alloc [.i .i64 (.ofNat 0),.i .i64 (.ofNat 0),.i .i64 (.ofNat 0)]),Qn (.store 3 (.t 7) (.l 23))]) (Qi [Qa 24 5,Qg 25 0 7,Qr 26 25,Qg 27 2 7,Qr 28 27,Ql 29 (.build [.i .i64 (.ofNat 0),.i .i64 (.ofNat 0)] [(0,1,.l 26),(1,1,.l 28)]),Ql 30 (.bslice 1 2 [.i .i64 (.ofNat 0),.i .i64 (.ofNat 0)] [(0,2,.l 29)]),Ql 31 (.append 2 16 (.l 24) (.l 30)),Qm 5 31]))) (Qi [Ql 32 (.bin .add (.t 20) (Qk 1)),Qm 20 32]))))))) (.seq (Qi [Qw 33 2 2,Qa 34 1,Ql 35 (.call 13 false [.l 33,.l 34]),Qa 36 5,Ql 37 (.call 15 false [.l 35,.l 36]),Qh 38 37,Qs 39 (.call 9 false []) 38 true,Ql 40 (.pick (.l 38) (.l 39) (.c (.b false))),Qm 4 40]) .ret))))),res:=[.t 4] }
theorem t4:Qx 4=some m4:=by kernel_rfl
noncomputable def tblX4:List (Nat×MFunc):=(4,m4)::tblL
theorem NmN:No0 Go.Proofs.Tryz.prog (Nah Go.Proofs.Tryz.prog []) tblX4:=⟨t4,Ngn⟩
end Go.Pe
set_option maxHeartbeats 8000000
namespace Go.Pe
open Go Go.Am Go.RowKit
noncomputable def Nfs(cd:Cd)(hwf:cd.wf):Cfg:={ fn:=fun f=>Ndx f tblX4,ext:=Nrb cd hwf }
theorem Nh5{cd:Cd}{hwf:cd.wf}{Gl:Gmap}{m:Int}(hg:Gl 0 0=some (.int .i64 m)):CfgOK Go.Proofs.Tryz.prog Gl (Nfs cd hwf):=Nf0 NmN (NnM hg)
theorem Nlw{cd:Cd}{hwf:cd.wf}(f:FuncId)(m:MFunc)(h:Ndx f tblL=some m):(Nfs cd hwf).fn f=some m:=by
 show Ndx f tblX4=some m;by_cases h6:f=4
 ·subst h6;have h0:Ndx 4 tblL=none:=by kernel_rfl
  rw[h0]at h;cases h
 ·have hb:Nat.beq f 4=false:=by
   cases h:Nat.beq f 4 with
   |false=>rfl
   |true=>exact absurd (Nat.eq_of_beq_eq_true h) h6
  show(Bool.rec (motive:=fun _=>Option MFunc) (Ndx f tblL) (some m4) (Nat.beq f 4))=some m;rw[hb];exact h
theorem cfgL4_g{cd:Cd}{hwf:cd.wf}:CfgG (Nfs cd hwf) where
 fn:=Nlw
 jn:=by rfl
 tk:=by rfl
 r1:=by rfl
 r2:=by rfl
 r3:=by rfl
 r4:=by rfl
 r5:=by rfl
 r6:=by rfl
 r7:=by rfl
 r8:=by rfl
 a1:=by rfl
 a2:=by rfl
 a3:=by rfl
 n2:=by rfl
 n3:=by rfl
 n4:=by rfl
theorem Nnv{cd:Cd}{hwf:cd.wf}:CfgE (Nfs cd hwf) where
 toCfgA:=cfgL4_g.toCfgA
 e1:=by rfl
 e2:=by rfl
 e3:=by rfl
 e4:=by rfl
 e5:=by rfl
 e6:=by rfl
 e7:=by rfl
 e8:=by rfl
 e9:=by rfl
 f1:=by rfl
 f2:=by rfl
 f3:=by rfl
 f4:=by rfl
 f5:=by rfl
 f6:=by rfl
theorem NkT{cd:Cd}{l:List Et}{ck:Int}(hl:l.length<1000)(h16:ck=0→cd.T.length≤64):Nfw (Ni3 ck cd l).2 cd.O.length=(Nnf ck cd l).map fun r=>(r.1,r.2.2):=by
 unfold Ni3 Nnf;by_cases h:trV ck cd l=true
 ·rw[if_pos h,if_pos h];have hck:=NiP h;subst hck;exact NkW (NiQ h (h16 rfl)) h hl cd.O.length
 ·rw[if_neg h,if_neg h];unfold Nfw;rw[List.map_nil];exact List.filterMap_eq_nil_iff.2 fun o _=>rfl
theorem Nod{cd:Cd}(hwf:cd.wf){l:List Et}(hl:l.length≤reachBytes):∃ fuel,evP (Nfs cd hwf) fuel 4 [.agg (Cd.cs cd),.fsl l.length (l.flatMap Et.cs)]=some (.b true):=by
 obtain⟨F,hF,hFl⟩:=NmZ cd (l.length+cd.O.length+200);obtain⟨ck,hck0⟩:∃ ck,NqQ cd hwf=ck:=⟨_,rfl⟩;have hok0:=Nnz cd hwf;rw[hck0]at hok0;refine⟨(F+50)+1,NlN rfl rfl (fun _=>rfl) (NaB (by kernel_rfl:(Nfs cd hwf).fn 4=some m4) ?_)⟩;delta m4 Qa Qr Qg Ql Qt Qn Qs Qk Qm Qh Qi Qo Qw;have hc:CfgG (Nfs cd hwf):=cfgL4_g;have hce:CfgE (Nfs cd hwf):=Nnv;have hok:=Nh5 (cd:=cd) (hwf:=hwf) (Gl:=fun _ _=>some (.int .i64 0)) rfl;obtain⟨cfg,hcfg⟩:∃ cfg,Nfs cd hwf=cfg:=⟨_,rfl⟩;have hxk:cfg.ext 47=some (gCk cd hwf):=by rw[←hcfg];rfl
 have hxa:cfg.ext 9=some gTrue:=by rw[←hcfg];rfl
 have hxs:cfg.ext 15=none:=by rw[←hcfg];rfl
 rw[hcfg]at hc hce hok ⊢;have hckr:∀ callE,Nai cfg callE 47 [.agg (Cd.cs cd)]=some (.i .i64 ck):=fun callE=>by
  rw[NbD hxk];unfold gCk;rw[if_pos rfl,hck0]
 obtain⟨hwO,hwT,-,-⟩:=id hwf;have hrb:reachBytes=140737488351232:=rfl;have hT16:ck=0→cd.T.length≤64:=fun h=>by have:=(hok0 h).1.2;omega
 have hO64:ck=0→cd.O.length≤64:=fun h=>by have:=(hok0 h).1.1;omega
 have aw:∀ (st:St) (key:Nat),Nas (Nai cfg (NaI cfg (F+50)) 9) false st key []=some (.b true,st):=fun st key=>NaJ rfl (by rw[NbD hxa];rfl) rfl;obtain⟨gb,hgb⟩:=Nj8 hc (F:=F) (cd:=cd) hwf hF;have gG:∀ (st:St) (key:Nat),Nas (Nai cfg (NaI cfg (F+50)) 7) false st key [.agg [slV cd.zo cd.O.length (cd.O.flatMap Dc.cs),slV cd.zt cd.T.length (cd.T.flatMap Tx.cs)]]=some (.b gb,st):=fun st key=>Na1 (Nbp Nbt) hgb rfl rfl;obtain⟨l',hl'⟩:∃ l',l.take 70=l':=⟨_,rfl⟩;have hlen:l'.length≤70:=by rw[←hl',List.length_take];omega
 have hra:=NkV hok hc.toCfgA (fuel:=F+43) (z:=false) (l:=l') (hckr _) Zaa Zaa Zaa hwO hwT hT16 hO64;have hre:=Nmy hok hce (fuel:=F+38) (z:=false) (l:=l') Zaa Zaa Zaa hckr hwO hwT hT16 hO64;rw[Np0]at hra hre;have hsm:=NkT (l:=l') Zaa hT16;obtain⟨rs,hrs⟩:∃ rs,Nnf ck cd l'=rs:=⟨_,rfl⟩;have hrl:rs.length≤64:=by
  rw[←hrs];unfold Nnf;split
  ·rename_i h;have:=NkU cd l' cd.O.length;have:=hO64 (NiP h);omega
  ·simp
 rw[hsm,hrs]at hre;rw[hrs]at hra;have hmin:=Nsn 70 l;have hsl:=NrJ 70 l;rw[hl']at hmin hsl;rw[show Cd.cs cd=[slV cd.zo cd.O.length (cd.O.flatMap Dc.cs),slV cd.zt cd.T.length (cd.T.flatMap Tx.cs)]from rfl]at *;have hE:=NaH Et.cs_len l;simp only[Nal];(try rw[Z0]);(try simp(maxSteps:=9^7)(disch:=first|omega|rfl|assumption)only[↓Yaa,Yab,Nae,Naa,rA,rB,rC,rD,reduceIte,unP,rE,Nag,Naf]);refine NaF (fun x=>∃ (A:Nat),A<x.st.cnt∧x.env.get 1=.fsl l.length (l.flatMap Et.cs)∧x.env.get 2=.ptr A 0∧x.st.get A=some (.cells [slV cd.zo cd.O.length (cd.O.flatMap Dc.cs),slV cd.zt cd.T.length (cd.T.flatMap Tx.cs)] false)) ?_ ?_
 ·refine⟨1,?_,Zab,Zab,?_⟩<;>first|with_reducible rfl|with_reducible assumption|exact kA _|omega|(simp only[Z0L_,Naw];omega)|(simp only;omega)|(simp(disch:=omega)only[Nap,Naq,Yaf];first|done|with_reducible rfl|with_reducible assumption)
 rintro⟨env,⟨sto,c⟩⟩ ⟨A,bA,g1,g2,kA⟩;try simp only at bA g1 g2
 replace kA:∀ n',St.get ⟨sto,n'⟩ A=some (.cells [slV cd.zo cd.O.length (cd.O.flatMap Dc.cs),slV cd.zt cd.T.length (cd.T.flatMap Tx.cs)] false):=fun _=>kA;cases gb with
 |true =>
   iterate 6
    (try rw[Z0]);(try simp(maxSteps:=9^7)(disch:=first|omega|rfl|assumption)only[↓Yaa,Yab,Nae,Naa,rA,rB,rC,rD,reduceIte,unP,rE,g1,g2,kA,gG,aw,Nag,Naf])
   exact⟨nofun,_,rfl,by simp only[NaC,Yad,if_true]⟩
 |false =>
   iterate 4
    (try rw[Z0]);(try simp(maxSteps:=9^7)(disch:=first|omega|rfl|assumption)only[↓Yaa,Yab,Nae,Naa,rA,rB,rC,rD,reduceIte,unP,rE,g1,g2,kA,gG,aw,Nag,Naf,hmin,hsl])
   obtain⟨qs,hqs⟩:∃ qs,(rs.map fun r=>(r.1,r.2.2))=qs:=⟨_,rfl⟩;have hql:qs.length=rs.length:=(by rw[←hqs,List.length_map]);rw[hqs]at hre;obtain⟨o1,ho1⟩:∃ o1,slV cd.zo cd.O.length (cd.O.flatMap Dc.cs)=o1:=⟨_,rfl⟩;obtain⟨o2,ho2⟩:∃ o2,slV cd.zt cd.T.length (cd.T.flatMap Tx.cs)=o2:=⟨_,rfl⟩;have hdg:∀ st,Go.Pe.deep st 12 (.agg [o1,o2])=some (.agg [o1,o2]):=fun st=>by
    have:=Nbt (st:=st) (cd:=cd);unfold Cd.cs at this;rw[ho1,ho2]at this;exact this
   rw[ho1,ho2]at hra hre kA;refine NaF (fun x=>A<x.st.cnt∧x.env.get 1=.fsl l'.length (l'.flatMap Et.cs)∧x.env.get 2=.ptr A 0∧x.env.get 5=.nsl∧x.st.get A=some (.cells [o1,o2] false)) ?_ ?_
   ·refine⟨?_,?_,?_,?_,(kA _)⟩<;>first|with_reducible rfl|with_reducible assumption|omega|(simp only[Z0L_,Naw];omega)|(simp only;omega)|(simp[Yad,g1,g2]<;>omega)
   clear bA g1 g2 kA;rintro⟨env,⟨sto,c⟩⟩ ⟨bA,g1,g2,g5,kA⟩;try simp only at bA g1 g2 g5
   replace kA:∀ n',St.get ⟨sto,n'⟩ A=some (.cells [o1,o2] false):=fun _=>kA;try simp only at bA
   refine NaT (fun x=>∃ (w:PV),A<x.st.cnt∧x.env.get 1=.fsl l'.length (l'.flatMap Et.cs)∧x.env.get 2=.ptr A 0∧x.env.get 5=w∧x.st.get A=some (.cells [o1,o2] false)∧(Own x.st 2 w qs.length (qs.flatMap NdZ))) ?_ ?_
   ·intro K1 hK1
    iterate 2
     (try rw[Z0]);(try simp(maxSteps:=9^7)(disch:=first|omega|rfl|assumption)only[↓Yaa,Yab,Nae,Naa,rA,rB,rC,rD,reduceIte,unP,rE,g1,g2,g5,kA])
    refine NfW (Na5 (hdg _) rfl) hra (Nmw rs) (NoC rs) (NiG rs) Zad ?_;intro v st1 own1 key1 cnt1 fr1;obtain⟨sto1,c1⟩:=st1;simp only at cnt1;subst cnt1;have hlv:=own1.len;have kA1:∀ n',St.get ⟨sto1,n'⟩ A=_:=fun n'=>(fr1 A Zaa).trans (kA _);(try rw[Z0]);(try simp(maxSteps:=9^7)(disch:=first|omega|rfl|assumption)only[↓Yaa,Yab,Nae,Naa,rA,rB,rC,rD,reduceIte,unP,rE,g1,g2,g5,kA,hlv]);refine Z9 (k:=rs.length - 0) (fun m x=>∃ (i:Nat) (w:PV),m=rs.length - i∧x.env.get 1=.fsl l'.length (l'.flatMap Et.cs)∧x.env.get 2=.ptr A 0∧x.env.get 5=w∧x.env.get 18=v∧x.env.get 19=.i .i64 (rs.length:Int)∧x.env.get 20=.i .i64 (i:Int)∧A<x.st.cnt∧x.st.get A=some (.cells [o1,o2] false)∧(i≤rs.length)∧(Own x.st 3 v rs.length (rs.flatMap rcC))∧((∀ k,k∈keyOf v→A<k))∧(Own x.st 2 w i ((qs.take i).flatMap NdZ))∧((∀ k,k∈keyOf w→A<k∧k∉keyOf v))) ?_ ?_ Zaa
    ·clear bA g1 g2 g5 kA;rintro m ⟨env,⟨sto,c⟩⟩ ⟨i,w,rfl,g1,g2,g5,g18,g19,g20,bA,kA,hi,hv,hvA,ho,hwA⟩;try simp only at g1 g2 g5 g18 g19 g20 bA hv ho
     replace kA:∀ n',St.get ⟨sto,n'⟩ A=some (.cells [o1,o2] false):=fun _=>kA;try simp only at bA
     by_cases hil:i<rs.length
     ·rcases id hv with⟨rfl,h0,_⟩|⟨q,rfl,gq,lq,bq⟩
      ·omega
      try simp only at bq
      have kq:∀ n',St.get ⟨sto,n'⟩ q=_:=fun _=>gq;have hrt:=NoE hil;have hrn:=NiG rs;have hqi:qs[i]'Zaa=(rs[i].1,rs[i].2.2):=(by simp[←hqs]);have lt':∀ k,k∈keyOf w→k<c:=fun k hk=>ho.lt k hk
      iterate 6
       (try rw[Z0]);(try simp(maxSteps:=9^7)(disch:=first|omega|rfl|assumption)only[↓Yaa,Yab,Nae,Naa,rA,rB,rC,rD,reduceIte,unP,rE,g1,g2,g5,g18,g19,g20,kA,kq,hrt,hrn,NaA])
      refine Nch (ho.move (by simp only[Z0L_];omega) fun k hk _=>by have:=lt' k hk;simp(disch:=omega)only[Nap,Naq];rfl) (by simp only[Z0L_];omega) (fun h=>by have:=lt' _ h;omega) rfl Zaa (by unfold NaY;omega) ?_;intro v' st' hown hcnt hkey hj;simp only[Z0L_]at hcnt;have pz:∀ k,k<c→k∉keyOf w→st'.get k=St.get ⟨sto,c⟩ k:=fun k h1 h2=>(hj k Zaa h2).trans (by simp(disch:=omega)only[Nap,Naq];rfl);have nA:A∉keyOf w:=fun h=>by have:=(hwA A h).1;omega
      have nq:q∉keyOf w:=fun h=>(hwA q h).2 (by simp[keyOf]);refine⟨rs.length - (i+1),by omega,i+1,v',rfl,rfl,rfl,by omega,(pz A bA nA).trans (kA _),by omega,.inr ⟨q,rfl,(pz q bq nq).trans gq,lq,by simp only;omega⟩,hvA,?_,fun k hk=>⟨by have:=hkey k hk;omega,fun h=>?_⟩⟩
      ·rw[List.take_succ_eq_append_getElem Zaa,List.flatMap_append,hqi];exact hown.move Zad fun _ _ _=>rfl
      ·have:=hkey k hk;simp only[keyOf,List.mem_singleton]at h;omega
     ·have hin:i=rs.length:=(by omega);subst hin
      iterate 5
       (try rw[Z0]);(try simp(maxSteps:=9^7)(disch:=first|omega|rfl|assumption)only[↓Yaa,Yab,Nae,Naa,rA,rB,rC,rD,reduceIte,unP,rE,g1,g2,g5,g18,g19,g20,kA])
      rw[←hql,List.take_length,hql]at ho;refine hK1 _ ⟨w,?_,?_,?_,?_,?_,(by rw[hql];exact ho.move (by simp only;omega) fun _ _ _=>rfl)⟩<;>first|with_reducible rfl|with_reducible assumption|exact kA _|omega|(simp only[Z0L_,Naw];omega)|(simp only;omega)|(simp[Yad,g1,g2,g5,g18,g19,g20]<;>omega)|(simp(disch:=omega)only[Nap,Naq,Yaf,kA];first|done|with_reducible rfl|with_reducible assumption)
    ·skip
     refine⟨0,.nsl,rfl,?_,?_,?_,?_,?_,?_,?_,(kA1 _),?_,(own1.move Zad fun _ _ _=>rfl),(fun k hk=>by have:=key1 k hk;omega),(Own.nil _ _),(fun k hk=>by simp[keyOf]at hk)⟩<;>first|with_reducible rfl|with_reducible assumption|(simp[Yad,g1,g2,g5]<;>omega)|omega|(simp only[Z0L_,Naw];omega)|(simp only;omega)|assumption|rfl|(simp;omega)|(simp;done)
   clear bA g1 g2 g5 kA;rintro⟨env,⟨sto,c⟩⟩ ⟨w,bA,g1,g2,g5,kA,ho⟩;try simp only at bA g1 g2 g5 ho
   replace kA:∀ n',St.get ⟨sto,n'⟩ A=some (.cells [o1,o2] false):=fun _=>kA;(try rw[Z0]);(try simp(maxSteps:=9^7)(disch:=first|omega|rfl|assumption)only[↓Yaa,Yab,Nae,Naa,rA,rB,rC,rD,reduceIte,unP,rE,g1,g2,g5,kA]);refine NfW (Na5 (hdg _) rfl) hre (Nmv qs) (Nmt qs) (Nmu qs) Zad ?_;intro v st1 own1 key1 cnt1 fr1;obtain⟨sto1,c1⟩:=st1;simp only at cnt1;subst cnt1;obtain⟨z1,d1⟩:=NkL own1 rfl;obtain⟨z2,d2⟩:=NkL (ho.move (st':=⟨sto1,c+72⟩) Zad fun k hk hlt=>by simp only at hlt;exact fr1 k Zaa) rfl;have hsr:=Nk4 (cfg:=cfg) (rs:=qs) (z:=z1) (z':=z2) (hc.fn _ _ (by kernel_rfl)) hxs (fuel:=F+49) Zaa Zaa;refine NfV (Na5 d1 d2) hsr rfl rfl ?_
   iterate 3
    (try rw[Z0]);(try simp(maxSteps:=9^7)(disch:=first|omega|rfl|assumption)only[↓Yaa,Yab,Nae,Naa,rA,rB,rC,rD,reduceIte,unP,rE,g1,g2,g5,kA,aw])
   exact⟨nofun,_,rfl,by simp only[NaC,Yad,if_true]⟩
theorem NmD(f:Nat)(z0:List PV)(i0:(NjI f).Is z0)(n1:Nat)(z1:List PV)(l1:z1.length=n1 * etSh.width)(b1:n1≤reachBytes)(i1:∀ j,j<n1→etSh.Is ((z1.drop (j * etSh.width)).take etSh.width)):∃ cd hwf fuel,evP (Nfs cd hwf) fuel 4 [.agg z0,.fsl n1 z1]=some (.b true):=by
 obtain⟨cd,rfl,hwf⟩:=Nrv f z0 i0;obtain⟨l,hl,hn,hw⟩:=NhJ (f:=Et.cs) (Q:=Et.wf) (w:=5) n1 z1 l1 (fun j hj=>Nrx _ (i1 j hj));rw[hn,←hl];obtain⟨fuel,hev⟩:=Nod hwf (l:=l) Zaa;exact⟨cd,hwf,fuel,hev⟩
end Go.Pe
