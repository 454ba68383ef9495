/-
 The kit: copies of programs: walked. No condition.
-/
import Derived.Test.YtjnofhibldppoaaGreatZCpyB
set_option linter.unusedVariables false
set_option linter.unusedSimpArgs false
set_option maxHeartbeats 8000000
open Nat renaming reduceAdd → rB,reduceMul → rC,reduceLT → rD,reduceEqDiff → rE,reduceLeDiff → rF
namespace Go.Pe
open Go Go.Am Go.RowKit
def Td.cp(t:Td):Td:=⟨t.S,true,Sms.cp t.B,t.R⟩
theorem NiP(l:List Td):((l.flatMap Td.cs).all PV.flat)=true:=by
 rw[List.all_eq_true];intro p hp;obtain⟨e,-,he⟩:=List.mem_flatMap.1 hp;simp only[Td.cs,List.mem_cons,List.not_mem_nil,or_false]at he;rcases he with rfl|rfl|rfl<;>first|rfl|exact Nbd _ _ _
theorem Njp{st:St}{f:Nat}{v:PV}{l:List Td}{n:Nat}(h:Own st 3 v n (l.flatMap Td.cs))(hn:n=l.length):∃ z,Go.Pe.deep st (f+2) v=some (slV z l.length (l.flatMap Td.cs)):=by
 subst hn;rcases h with⟨rfl,h0,h1⟩|⟨k,rfl,h1,h2,_⟩
 ·exact⟨true,by rw[h0];rfl⟩
 ·exact⟨false,by rw[Nk3];exact NgL h1 h2 (NiP l)⟩
theorem NmM{x:Now}{t F:Nat}{a b:PV}(h1:x.env.get t=.ptr F 0)(h2:x.st.get F=some (.cells [a,b] false)):mapO (Neq x) [.cell t true 2]=some [.agg [a,b]]:=by
 simp only[mapO,Neq,h1,Nb6,h2,Nb7];rfl
theorem NlJ{cfg:Cfg}(hf:cfg.fn 6=some m6){fuel:Nat}{p:Pg}(hfu:p.T.length+2≤fuel)(hl:p.T.length≤100000)(hD:p.D.length≤100000)
 (hB:∀ t∈p.T,Naj cfg (NaC cfg fuel) 12 [slV t.z t.B.length (Sms.cs t.B)]=some (slV true (Sms.cp t.B).length (Sms.cs (Sms.cp t.B)))) :
 ∃ r st',NaC cfg (fuel+1) 6 [.agg (Pg.cs p)] { sto:=.leaf,cnt:=1 }=some (r,st')∧∃ z1 z2,Na5 st' r=some (.agg (Pg.cs ⟨z1,p.D,z2,p.T.map Td.cp⟩)):=by
 refine NaA hf ?_;delta m6 Qa Qr Qg Ql Qt Qn Qk Qm Qi Qo Qw Pg.cs;have lD:=NaD p.zd p.D.length (p.D.flatMap Dc.cs);have lT:=NaD p.zt p.T.length (p.T.flatMap Td.cs);have hDf:=NaR Dc.cs_len p.D;have hT:=NaR Td.cs_len p.T;obtain⟨X,hX⟩:∃ X:PV→St→Prop,X=fun r st'=>∃ z1 z2,Na5 st' r=some (.agg (Pg.cs ⟨z1,p.D,z2,p.T.map Td.cp⟩)):=⟨_,rfl⟩
 have hX':∀ r st',(∃ z1 z2,Na5 st' r=some (.agg (Pg.cs ⟨z1,p.D,z2,p.T.map Td.cp⟩)))=X r st':=fun _ _=>by rw[hX]
 unfold Pg.cs at hX';simp only at hX';simp only[hX'];simp only[Nai];(try rw[Z0]);(try simp(maxSteps:=9^7)(disch:=first|omega|rfl|assumption)only[↓Yaa,Yab,Nae,Naa,rB,rC,rD,rE,reduceIte,unP,rF,Nag,Naf]);have cD:∀ st:St,cellsOf st 5 (slV p.zd p.D.length (p.D.flatMap Dc.cs))=some (p.D.length,p.D.flatMap Dc.cs):=fun st=>by
  unfold slV;split
  ·rename_i h;have:p.D=[]:=List.eq_nil_of_length_eq_zero h.2;rw[this];rfl
  ·exact NlA st p.D
 (try rw[Z0]);(try simp(maxSteps:=9^7)(disch:=first|omega|rfl|assumption)only[↓Yaa,Yab,Nae,Naa,rB,rC,rD,rE,reduceIte,unP,rF,Nag,Naf,cD,Npx]);refine NeI (cs:=[]) (.inr ⟨17,rfl,Yaf _ _ _,rfl,by simp only[Naz];omega⟩:Own _ 5 (.rsl 17 5 0 0) 0 []) Zai (by simp[keyOf]) hDf Zaa (by unfold maxBytes;omega) ?_;intro v1 st1 ow1 cn1 ky1 fr1;simp only[Naz]at cn1;rw[Nat.zero_add,Zap]at ow1;obtain⟨hv1c,hv1o⟩:=Ncc ow1;have k1:∀ q,q∈keyOf v1→q=41:=ky1;have gP1:st1.get 1=some (.cells [slV p.zd p.D.length (p.D.flatMap Dc.cs),slV p.zt p.T.length (p.T.flatMap Td.cs)] false):=by
  rw[fr1 1 Zaa (by simp[keyOf])];simp(disch:=omega)only[NaP,NaV,Yaf]
 have gR1:st1.get 9=some (.cells [.nsl,.nsl] false):=by
  rw[fr1 9 Zaa (by simp[keyOf])];simp(disch:=omega)only[NaP,NaV,Yaf]
 obtain⟨sto1,c1⟩:=st1;simp only at cn1;subst cn1;refine⟨⟨by rw[hv1c];rfl,by rw[hv1c];simp[hv1o]⟩,⟨by rw[hv1c];rfl,by rw[hv1c];simp only[Zaq,Zap,List.all_cons,List.all_nil,hv1o,Bool.and_true,Bool.true_and];rfl⟩,?_⟩;refine NaL (fun x=>∃ (P:Nat) (R:Nat) (Q:Nat),P<x.st.cnt∧(P<R)∧R<x.st.cnt∧(R<Q)∧Q<x.st.cnt∧x.env.get 1=.ptr P 0∧x.env.get 2=.ptr R 0∧x.env.get 3=.ptr Q 0∧x.st.get P=some (.cells [slV p.zd p.D.length (p.D.flatMap Dc.cs),slV p.zt p.T.length (p.T.flatMap Td.cs)] false)∧x.st.get R=some (.cells [.nsl,.nsl] false)∧x.st.get Q=some (.cells [v1,.nsl] false)∧(Own x.st 5 v1 p.D.length (p.D.flatMap Dc.cs))∧((∀ q,q∈keyOf v1→R<q∧q<Q))) ?_ ?_
 ·exact⟨1,9,57,Zab,Zad,Zab,Zad,Zab,Zac,Zac,Zac,(by simp(disch:=omega)only[NaP,NaV];exact gP1),(by simp(disch:=omega)only[NaP,NaV];exact gR1),(by rw[Yaf,hv1c]<;>rfl),(ow1.move Zai fun q hq _=>by have:=k1 q hq;simp(disch:=omega)only[NaP,NaV]<;>rfl),(fun q hq=>by have:=k1 q hq;omega)⟩
 rintro⟨env,⟨sto,c⟩⟩ ⟨P,R,Q,bP,oR,bR,oQ,bQ,g1,g2,g3,kP,kR,kQ,ho1,kv1⟩;try simp only at bP bR bQ g1 g2 g3 ho1
 replace kP:∀ n',St.get ⟨sto,n'⟩ P=some (.cells [slV p.zd p.D.length (p.D.flatMap Dc.cs),slV p.zt p.T.length (p.T.flatMap Td.cs)] false):=fun _=>kP;replace kR:∀ n',St.get ⟨sto,n'⟩ R=some (.cells [.nsl,.nsl] false):=fun _=>kR;replace kQ:∀ n',St.get ⟨sto,n'⟩ Q=some (.cells [v1,.nsl] false):=fun _=>kQ;have htl:∀ i,(p.T.map Td.cp).take i=(p.T.take i).map Td.cp:=fun i=>by rw[List.map_take]
 refine NaQ (fun x=>P<x.st.cnt∧R<x.st.cnt∧x.env.get 1=.ptr P 0∧x.env.get 2=.ptr R 0∧x.env.get 3=.ptr Q 0∧x.st.get P=some (.cells [slV p.zd p.D.length (p.D.flatMap Dc.cs),slV p.zt p.T.length (p.T.flatMap Td.cs)] false)∧x.st.get R=some (.cells [.nsl,.nsl] false)∧(Own x.st 5 v1 p.D.length (p.D.flatMap Dc.cs))∧(∃ v2,x.st.get Q=some (.cells [v1,v2] false)∧Own x.st 3 v2 p.T.length ((p.T.map Td.cp).flatMap Td.cs)∧∀ q,q∈keyOf v2→Q<q)) ?_ ?_
 ·intro K1 hK1
  iterate 2
   (try rw[Z0]);(try simp(maxSteps:=9^7)(disch:=first|omega|rfl|assumption)only[↓Yaa,Yab,Nae,Naa,rB,rC,rD,rE,reduceIte,unP,rF,g1,g2,g3,kP,kR,kQ])
  refine Z9 (k:=p.T.length - 0) (fun m x=>∃ (i:Nat) (v2:PV),m=p.T.length - i∧P<x.st.cnt∧R<x.st.cnt∧Q<x.st.cnt∧x.env.get 1=.ptr P 0∧x.env.get 2=.ptr R 0∧x.env.get 3=.ptr Q 0∧x.st.get P=some (.cells [slV p.zd p.D.length (p.D.flatMap Dc.cs),slV p.zt p.T.length (p.T.flatMap Td.cs)] false)∧x.st.get R=some (.cells [.nsl,.nsl] false)∧x.st.get Q=some (.cells [v1,v2] false)∧(Own x.st 5 v1 p.D.length (p.D.flatMap Dc.cs))∧x.env.get 4=.i .i64 (i:Int)∧(i≤p.T.length)∧(Own x.st 3 v2 i (((p.T.map Td.cp).take i).flatMap Td.cs))∧((∀ q,q∈keyOf v2→Q<q))) ?_ ?_ Zaa
  ·clear bP bR bQ g1 g2 g3 kP kR kQ ho1;rintro m ⟨env,⟨sto,c⟩⟩ ⟨i,v2,rfl,bP,bR,bQ,g1,g2,g3,kP,kR,kQ,ho1,g4,hi,ho2,kv2⟩;try simp only at bP bR bQ g1 g2 g3 ho1 g4 ho2
   replace kP:∀ n',St.get ⟨sto,n'⟩ P=some (.cells [slV p.zd p.D.length (p.D.flatMap Dc.cs),slV p.zt p.T.length (p.T.flatMap Td.cs)] false):=fun _=>kP;replace kR:∀ n',St.get ⟨sto,n'⟩ R=some (.cells [.nsl,.nsl] false):=fun _=>kR;replace kQ:∀ n',St.get ⟨sto,n'⟩ Q=some (.cells [v1,v2] false):=fun _=>kQ;by_cases hil:i<p.T.length
   ·obtain⟨t,he⟩:∃ t,p.T[i]=t:=⟨_,rfl⟩;have hld:=fun st=>NhG (st:=st) hil;simp only[he]at hld;have hsp:=fun z cs=>Nan (z:=z) (cs:=cs) hil;have lT2:NdI (.fsl p.T.length (p.T.flatMap Td.cs))=some (.i .i64 (p.T.length:Int)):=rfl;have gB:∀ (st:St) (key:Nat),Nam (Naj cfg (NaC cfg fuel) 12) false st key [slV t.z t.B.length (Sms.cs t.B)]=some (slV true (Sms.cp t.B).length (Sms.cs (Sms.cp t.B)),st):=fun st key =>
     Nal Zam (hB t (he▸List.getElem_mem hil)) (by unfold slV;split<;>rfl)
    have lv1:∀ q,q∈keyOf v1→q<c:=fun q hq=>ho1.lt q hq;have lv2:∀ q,q∈keyOf v2→q<c:=fun q hq=>ho2.lt q hq;have hv2c:=(Ncc ho2).1;have hv2o:=(Ncc ho2).2
    iterate 4
     (try rw[Z0]);(try simp(maxSteps:=9^7)(disch:=first|omega|rfl|assumption)only[↓Yaa,Yab,Nae,Naa,rB,rC,rD,rE,reduceIte,unP,rF,g1,g2,g3,kP,kR,kQ,g4,hsp,lT2,lT,hT,hld,Nag,Naf])
    refine NaL (fun x=>∃ (B:Nat),P<x.st.cnt∧R<x.st.cnt∧Q<x.st.cnt∧x.env.get 1=.ptr P 0∧x.env.get 2=.ptr R 0∧x.env.get 3=.ptr Q 0∧x.st.get P=some (.cells [slV p.zd p.D.length (p.D.flatMap Dc.cs),slV p.zt p.T.length (p.T.flatMap Td.cs)] false)∧x.st.get R=some (.cells [.nsl,.nsl] false)∧x.st.get Q=some (.cells [v1,v2] false)∧(Own x.st 5 v1 p.D.length (p.D.flatMap Dc.cs))∧x.env.get 4=.i .i64 (i:Int)∧(Own x.st 3 v2 i (((p.T.map Td.cp).take i).flatMap Td.cs))∧(Q<B)∧B<x.st.cnt∧x.env.get 5=.ptr B 0∧x.st.get B=some (.cells [.s t.S,slV t.z t.B.length (Sms.cs t.B),.i .i64 t.R] false)∧((∀ q,q∈keyOf v1∨q∈keyOf v2→q<B))) ?_ ?_
    ·refine⟨c+80,Zab,Zab,Zab,?_,?_,?_,(by simp(disch:=omega)only[NaP,NaV];exact kP _),(by simp(disch:=omega)only[NaP,NaV];exact kR _),(by simp(disch:=omega)only[NaP,NaV];exact kQ _),(ho1.move Zai fun q hq _=>by have:=lv1 q hq;simp(disch:=omega)only[NaP,NaV]<;>rfl),?_,(ho2.move Zai fun q hq _=>by have:=lv2 q hq;simp(disch:=omega)only[NaP,NaV]<;>rfl),Zad,Zab,?_,(by rw[Yaf]),(fun q hq=>by rcases hq with hq|hq<;>(first|(have:=lv1 q hq;omega)|(have:=lv2 q hq;omega)))⟩<;>first|with_reducible rfl|with_reducible assumption|(simp[Yad,g1,g2,g3,g4]<;>omega)
    clear bP bR bQ g1 g2 g3 kP kR kQ ho1 g4 ho2;rintro⟨env,⟨sto,c⟩⟩ ⟨B,bP,bR,bQ,g1,g2,g3,kP,kR,kQ,ho1,g4,ho2,oB,bB,g5,kB,kvB⟩;try simp only at bP bR bQ g1 g2 g3 ho1 g4 ho2 bB g5
    replace kP:∀ n',St.get ⟨sto,n'⟩ P=some (.cells [slV p.zd p.D.length (p.D.flatMap Dc.cs),slV p.zt p.T.length (p.T.flatMap Td.cs)] false):=fun _=>kP;replace kR:∀ n',St.get ⟨sto,n'⟩ R=some (.cells [.nsl,.nsl] false):=fun _=>kR;replace kQ:∀ n',St.get ⟨sto,n'⟩ Q=some (.cells [v1,v2] false):=fun _=>kQ;replace kB:∀ n',St.get ⟨sto,n'⟩ B=some (.cells [.s t.S,slV t.z t.B.length (Sms.cs t.B),.i .i64 t.R] false):=fun _=>kB;have hq1:∀ q,q∈keyOf v1→q<B:=fun q h=>kvB q (Or.inl h);have hq2:∀ q,q∈keyOf v2→q<B:=fun q h=>kvB q (Or.inr h);(try rw[Z0]);(try simp(maxSteps:=9^7)(disch:=first|omega|rfl|assumption)only[↓Yaa,Yab,Nae,Naa,rB,rC,rD,rE,reduceIte,unP,rF,g1,g2,g3,kP,kR,kQ,g4,g5,kB,gB,Nag,Naf]);(try rw[Z0]);(try simp(maxSteps:=9^7)(disch:=first|omega|rfl|assumption)only[↓Yaa,Yab,Nae,Naa,rB,rC,rD,rE,reduceIte,unP,rF,g1,g2,g3,kP,kR,kQ,g4,g5,kB,Nag,Naf,Nct,List.length_cons,List.length_nil]);rw[show([.s t.S,slV true (Sms.cp t.B).length (Sms.cs (Sms.cp t.B)),.i .i64 t.R]:List PV)=(Td.cp t).cs from rfl];refine NeI (n:=i) (cs:=((p.T.map Td.cp).take i).flatMap Td.cs) (news:=(Td.cp t).cs) (m:=1) (ho2.move Zai fun q hq _=>by have:=hq2 q hq;simp(disch:=omega)only[NaP,NaV]<;>rfl) Zai (fun h=>by have:=hq2 _ h;omega) rfl Zaa (by unfold maxBytes;omega) ?_;rintro v' ⟨sto',c'⟩ hown hcnt hkey hj;simp only[Naz]at hcnt;subst hcnt;obtain⟨hv3c,hv3o⟩:=Ncc hown;have pz:∀ q o,q<B→q∉keyOf v2→(∀ n',St.get ⟨sto,n'⟩ q=o)→∀ n',St.get ⟨sto',n'⟩ q=o:=fun q o a b h n'=>(hj q Zaa b).trans (by simp(disch:=omega)only[NaP,NaV];exact h _);have zP:=pz P _ Zaa (fun h=>by have:=kv2 _ h;omega) kP;have zR:=pz R _ Zaa (fun h=>by have:=kv2 _ h;omega) kR;have zQ:=pz Q _ Zaa (fun h=>by have:=kv2 _ h;omega) kQ;have hat:((p.T.map Td.cp).take (i+1)).flatMap Td.cs=((p.T.map Td.cp).take i).flatMap Td.cs++(Td.cp t).cs:=by
     rw[List.take_succ_eq_append_getElem (by rw[List.length_map];omega),List.flatMap_append,List.getElem_map,he];simp
    rw[←hat]at hown
    iterate 3
     (try rw[Z0]);(try simp(maxSteps:=9^7)(disch:=first|omega|rfl|assumption)only[↓Yaa,Yab,Nae,Naa,rB,rC,rD,rE,reduceIte,unP,rF,g1,g2,g3,kP,kR,kQ,g4,g5,kB,zP,zR,zQ,hv3c,hv3o])
    refine⟨p.T.length - (i+1),by omega,i+1,v',?_⟩
    repeat' apply And.intro
    all_goals first|rfl|omega|exact kv1|(intro q hq;have:=hkey q hq;omega)|rw[Nan hil]|exact ho1.move Zae (fun q hq _=>by have:=(kv1 q hq).2;simp(disch:=omega)only[NaP,NaV];exact pz q _ (hq1 q hq) (fun h=>by have:=kv2 q h;omega) (fun _=>rfl) _)|exact hown.move Zae (fun q hq _=>by have:=hkey q hq;simp(disch:=omega)only[NaP,NaV]<;>rfl)
   ·obtain rfl:i=p.T.length:=by omega
    rw[List.take_of_length_le (by rw[List.length_map];omega)]at ho2
    iterate 6
     (try rw[Z0]);(try simp(maxSteps:=9^7)(disch:=first|omega|rfl|assumption)only[↓Yaa,Yab,Nae,Naa,rB,rC,rD,rE,reduceIte,unP,rF,g1,g2,g3,kP,kR,kQ,g4,lT])
    refine hK1 _ ⟨Zab,Zab,?_,?_,?_,?_,?_,(ho1.cnt Zaa),⟨v2,kQ _,ho2.cnt Zaa,kv2⟩⟩<;>first|with_reducible rfl|with_reducible assumption|exact kP _|exact kR _|(simp[Yad,g1,g2,g3,g4]<;>omega)|(simp(disch:=omega)only[NaP,NaV,Yaf,kP,kR,kQ];first|done|with_reducible rfl|with_reducible assumption)
  ·skip
   refine⟨0,.nsl,rfl,Zab,Zab,Zab,?_,?_,?_,?_,?_,?_,(ho1.cnt Zaa),?_,Zad,(by rw[List.take_zero];exact Own.nil _ _),(fun q h=>by simp[keyOf]at h)⟩<;>first|with_reducible rfl|with_reducible assumption|exact kP _|exact kR _|exact kQ _|(simp[Yad,g1,g2,g3]<;>omega)|(simp(disch:=omega)only[NaP,NaV,Yaf,kP,kR,kQ];first|done|with_reducible rfl|with_reducible assumption)
 clear bP bR bQ g1 g2 g3 kP kR kQ ho1;rintro⟨env,⟨sto,c⟩⟩ ⟨bP,bR,g1,g2,g3,kP,kR,ho1,qv⟩;try simp only at bP bR g1 g2 g3 ho1 qv
 replace kP:∀ n',St.get ⟨sto,n'⟩ P=some (.cells [slV p.zd p.D.length (p.D.flatMap Dc.cs),slV p.zt p.T.length (p.T.flatMap Td.cs)] false):=fun _=>kP;replace kR:∀ n',St.get ⟨sto,n'⟩ R=some (.cells [.nsl,.nsl] false):=fun _=>kR;obtain⟨v2,kQ,ho2,kv2⟩:=qv;replace kQ:∀ n',St.get ⟨sto,n'⟩ Q=_:=fun _=>kQ;obtain⟨hv2c,hv2o⟩:=Ncc ho2
 iterate 2
  (try rw[Z0]);(try simp(maxSteps:=9^7)(disch:=first|omega|rfl|assumption)only[↓Yaa,Yab,Nae,Naa,rB,rC,rD,rE,reduceIte,unP,rF,g1,g2,g3,kP,kR,kQ,hv1c,hv1o,hv2c,hv2o])
 subst hX;refine⟨nofun,_,NmM (by exact g2) (by rw[Yaf]),?_⟩;simp only[Nay];have hoA:=((ho1.cnt (c':=c+16) Zaa).put (k:=R) (o:=some (.cells [v1,v2] false)) (fun h=>by have:=(kv1 _ h).1;omega));have hoB:=((ho2.cnt (c':=c+16) Zaa).put (k:=R) (o:=some (.cells [v1,v2] false)) (fun h=>by have:=kv2 _ h;omega));obtain⟨z1,hz1⟩:=Njo (f:=9) hoA rfl;obtain⟨z2,hz2⟩:=Njp (f:=9) hoB (by rw[List.length_map]);refine⟨z1,z2,?_⟩;show Go.Pe.deep _ 12 (.agg [v1,v2])=_;exact NjW hz1 hz2
end Go.Pe
