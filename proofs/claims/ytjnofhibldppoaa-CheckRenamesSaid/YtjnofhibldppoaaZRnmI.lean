/-
 CheckRenames: the law, walked. No condition.
-/
import Derived.Test.YtjnofhibldppoaaZRnmG
set_option linter.unusedVariables false
set_option linter.unusedSimpArgs false
set_option maxHeartbeats 16000000
open Nat renaming reduceAdd → rB,reduceMul → rC,reduceLT → rD,reduceEqDiff → rE,reduceLeDiff → rF
namespace Go.Pe
open Go Go.Am Go.RowKit
theorem Njf{p:Pg}(hwf:p.wf){n:Int}(hn0:0≤n∧n<256):∃ fuel,evP cfgRk fuel 7 [.agg (Pg.cs p),.i .u8 n]=some (.b true):=by
 obtain⟨F,hF⟩:∃ F,Tds.size p.T+p.D.length=F:=⟨_,rfl⟩;have hr:=Nnl;have hok:=NhU (Gl:=fun _ _=>some (.int .i64 0)) rfl;have ho:NaC [.agg (Pg.cs p),.i .u8 n]=([.agg (Pg.cs p),.i .u8 n],{ sto:=.leaf,cnt:=1 }):=by
  unfold Pg.cs slV;split<;>split<;>rfl
 refine⟨(2 * F+200)+1,Nlt rfl ho (fun _=>rfl) (Nax (by kernel_rfl:cfgRk.fn 7=some m7) ?_)⟩;delta m7 Qa Qr Qf Qg Ql Qt Qn Qs Qk Qm Qh Qi Qo Qw;have hx1:cfgRk.ext 35=none:=by rfl
 have hx2:cfgRk.ext 21=none:=by rfl
 have hx3:cfgRk.ext 8=none:=by rfl
 have hx4:cfgRk.ext 19=none:=by rfl
 have hx5:cfgRk.ext 9=none:=by rfl
 have hxa:cfgRk.ext 10=some gAwakeR:=by rfl
 have hxs:cfgRk.ext 34=some (NjX 100000):=by rfl
 have hxr:cfgRk.ext 20=some (gRn 100000):=by rfl
 have hf1:cfgRk.fn 19=some m19:=NhT _ _ (by kernel_rfl);obtain⟨cfg,hcfg⟩:∃ cfg,cfgRk=cfg:=⟨_,rfl⟩;rw[hcfg]at hr hok hx1 hx2 hx3 hx4 hx5 hxa hxs hxr hf1 ⊢;have hwf0:=hwf;have hTl:=Tds.len_le p.T;have lD:=NaF p.zd p.D.length (p.D.flatMap Dc.cs);have lT:=NaF p.zt p.T.length (p.T.flatMap Td.cs);have hDf:=NaM Dc.cs_len p.D;have hTf:=NaM Td.cs_len p.T;have aw:∀ (st:St) (key:Nat),Nam (Nak cfg (Nay cfg (2 * F+200)) 10) false st key []=some (.b true,st):=fun st key=>Nal rfl (by rw[Nav hxa];rfl) rfl;have awq:Nak cfg (Nay cfg (2 * F+200)) 10 []=some (.b true):=by rw[Nav hxa];rfl
 obtain⟨H,hH⟩:∃ H,NmK 60 1500 p=H:=⟨_,rfl⟩;have gH:∀ (st:St) (key:Nat),Nam (Nak cfg (Nay cfg (2 * F+200)) 8) false st key [.agg [slV p.zd p.D.length (p.D.flatMap Dc.cs),slV p.zt p.T.length (p.T.flatMap Td.cs)],.i .i64 ((60:Nat):Int),.i .i64 ((1500:Nat):Int)]=some (.b H,st):=fun st key =>
  NaH (Nlr (NcN _ _) rfl rfl) (Nar hx3 (NhE _ _ _ _) (fun _=>rfl) (by
   have:=NnT hr.toCfgM hx1 hx2 (lv:=60) (many:=1500) Zaa Zaa hwf0 (q:=2 * F+198) Zaa (st:={ sto:=.leaf,cnt:=1 });rw[hH]at this;exact this)) rfl rfl
 simp only[Naj];unfold Pg.cs;(try rw[Z0]);(try simp(maxSteps:=9^7)(disch:=first|omega|rfl|assumption)only[↓Yaa,Yab,Nae,Naa,rB,rC,rD,rE,reduceIte,unP,rF,Nag,Naf]);cases H with
 |true =>
   iterate 3
    (try rw[Z0]);(try simp(maxSteps:=9^7)(disch:=first|omega|rfl|assumption)only[↓Yaa,Yab,Nae,Naa,rB,rC,rD,rE,reduceIte,unP,rF,gH,aw])
   exact⟨nofun,_,rfl,by simp only[Nau,Yad,if_true]⟩
 |false =>
 have hb:=Npr hH;obtain⟨hsD,hsT⟩:=Ni1 hH;have gR:∀ (st:St) (key:Nat),Nam (Nak cfg (Nay cfg (2 * F+200)) 18) false st key [.agg [slV p.zd p.D.length (p.D.flatMap Dc.cs),slV p.zt p.T.length (p.T.flatMap Td.cs)]]=some (.b (Njo p),st):=fun st key =>
  NaH (NaR (NcN _ _)) (Nar hr.rc (NcU _ _) (fun _=>rfl) (NkK hr (p:=p) (q:=2 * F+196) Zaa Zaa)) rfl rfl
 cases hrt:Njo p with
 |false =>
   iterate 3
    (try rw[Z0]);(try simp(maxSteps:=9^7)(disch:=first|omega|rfl|assumption)only[↓Yaa,Yab,Nae,Naa,rB,rC,rD,rE,reduceIte,unP,rF,gH,gR,hrt,aw,Bool.not_false])
   exact⟨nofun,_,rfl,by simp only[Nau,Yad,if_true]⟩
 |true =>
 iterate 2
  (try rw[Z0]);(try simp(maxSteps:=9^7)(disch:=first|omega|rfl|assumption)only[↓Yaa,Yab,Nae,Naa,rB,rC,rD,rE,reduceIte,unP,rF,gH,gR,hrt,Bool.not_true])
 refine NaL (fun x=>∃ (P:Nat),P<x.st.cnt∧x.env.get 1=.i .u8 n∧x.env.get 2=.ptr P 0∧x.st.get P=some (.cells [slV p.zd p.D.length (p.D.flatMap Dc.cs),slV p.zt p.T.length (p.T.flatMap Td.cs)] false)∧(Top x.st)) ?_ ?_
 ·exact⟨1,Zab,Zah,Zah,(by simp only[NaG,Yaf]),(Top.putN (c:=17) (fun k _=>rfl) Zaa Zaa)⟩
 rintro⟨env,⟨sto,c⟩⟩ ⟨P,bP,g1,g2,kP,ht⟩;try simp only at bP g1 g2 ht
 replace kP:∀ n',St.get ⟨sto,n'⟩ P=some (.cells [slV p.zd p.D.length (p.D.flatMap Dc.cs),slV p.zt p.T.length (p.T.flatMap Td.cs)] false):=fun _=>kP;refine NaT (fun x=>∃ (mo:List UInt8),x.env.get 2=.ptr P 0∧x.st.get P=some (.cells [slV p.zd p.D.length (p.D.flatMap Dc.cs),slV p.zt p.T.length (p.T.flatMap Td.cs)] false)∧P<x.st.cnt∧x.env.get 5=.s mo∧(NcH mo)∧(Top x.st)) ?_ ?_
 ·intro K1 hK1;refine Ngr hok ht ?_;have h3:n % 3=0∨n % 3=1∨n % 3=2:=by omega
  have e3:(((3:Nat):Int)=0)=False:=by simp
  rcases h3 with h3|h3|h3
  ·have hk:n.tmod ((3:Nat):Int)=((0:Nat):Int):=(by rw[Int.tmod_eq_emod_of_nonneg hn0.1];exact h3);(try rw[Z0]);(try simp(maxSteps:=9^7)(disch:=first|omega|rfl|assumption)only[↓Yaa,Yab,Nae,Naa,rB,rC,rD,rE,reduceIte,unP,rF,g1,g2,kP,e3,hk]);intro ht2;refine hK1 _ ⟨[95],?_,(by rw[Yae (by omega)];exact kP _),Zab,?_,(.inl rfl),ht2⟩<;>first|with_reducible rfl|with_reducible assumption|(simp[Yad,g1,g2]<;>omega)
  ·have hk:n.tmod ((3:Nat):Int)=((1:Nat):Int):=(by rw[Int.tmod_eq_emod_of_nonneg hn0.1];exact h3);(try rw[Z0]);(try simp(maxSteps:=9^7)(disch:=first|omega|rfl|assumption)only[↓Yaa,Yab,Nae,Naa,rB,rC,rD,rE,reduceIte,unP,rF,g1,g2,kP,e3,hk]);intro ht2;refine hK1 _ ⟨[48],?_,(by rw[Yae (by omega)];exact kP _),Zab,?_,(.inr (.inl rfl)),ht2⟩<;>first|with_reducible rfl|with_reducible assumption|(simp[Yad,g1,g2]<;>omega)
  ·have hk:n.tmod ((3:Nat):Int)=((2:Nat):Int):=(by rw[Int.tmod_eq_emod_of_nonneg hn0.1];exact h3);(try rw[Z0]);(try simp(maxSteps:=9^7)(disch:=first|omega|rfl|assumption)only[↓Yaa,Yab,Nae,Naa,rB,rC,rD,rE,reduceIte,unP,rF,g1,g2,kP,e3,hk]);intro ht2;refine hK1 _ ⟨[120,57],?_,(by rw[Yae (by omega)];exact kP _),Zab,?_,(.inr (.inr rfl)),ht2⟩<;>first|with_reducible rfl|with_reducible assumption|(simp[Yad,g1,g2]<;>omega)
 clear bP g1 g2 kP ht;rintro⟨env,⟨sto,c⟩⟩ ⟨mo,g2,kP,bP,g5,hm,ht⟩;try simp only at g2 bP g5 ht
 replace kP:∀ n',St.get ⟨sto,n'⟩ P=some (.cells [slV p.zd p.D.length (p.D.flatMap Dc.cs),slV p.zt p.T.length (p.T.flatMap Td.cs)] false):=fun _=>kP;have hm2:mo.length≤2:=by rcases hm with rfl|rfl|rfl<;>simp
 refine NaT (fun x=>∃ (I:Nat) (v1:PV) (v2:PV),x.env.get 2=.ptr P 0∧x.st.get P=some (.cells [slV p.zd p.D.length (p.D.flatMap Dc.cs),slV p.zt p.T.length (p.T.flatMap Td.cs)] false)∧P<x.st.cnt∧x.env.get 5=.s mo∧(Top x.st)∧(P<I)∧I<x.st.cnt∧x.env.get 6=.ptr I 0∧x.st.get I=some (.cells [v1,v2] false)∧(Own x.st 5 v1 p.D.length (p.D.flatMap Dc.cs))∧(Own x.st 3 v2 p.T.length ((p.T.map Td.cp).flatMap Td.cs))∧((∀ q,q∈keyOf v1→I<q))∧((∀ q,q∈keyOf v2→I<q∧q∉keyOf v1))) ?_ ?_
 ·intro K2 hK2;refine Ngr hok ht ?_;(try rw[Z0]);(try simp(maxSteps:=9^7)(disch:=first|omega|rfl|assumption)only[↓Yaa,Yab,Nae,Naa,rB,rC,rD,rE,reduceIte,unP,rF,g2,kP,g5,hx4]);refine Nd0 (NjE (cfg:=cfg) hf1 (fuel:=2 * F+199) (p:=p) Zaa Zaa Zaa (fun t ht=>by
   have htm:=Tds.size_mem ht;have hd:=Sms.dp_szR t.B;rw[Nav hxs];exact NeV Zaa Zaa)) ?_
  rintro r1 ⟨sto1,c1⟩ ⟨v1,v2,rfl,o1,o2,fr,kv1,kv2,hle⟩;simp only at fr kv1 kv2 hle;obtain⟨hv1c,hv1o⟩:=Nb2 o1;obtain⟨hv2c,hv2o⟩:=Nb2 o2;(try rw[Z0]);(try simp(maxSteps:=9^7)(disch:=first|omega|rfl|assumption)only[↓Yaa,Yab,Nae,Naa,rB,rC,rD,rE,reduceIte,unP,rF,g2,kP,g5,hv1c,hv1o,hv2c,hv2o]);intro ht2;refine hK2 _ ⟨c+16,v1,v2,?_,(by rw[Yae (by omega),Yae (by omega)];exact(fr P (by omega)).trans (kP _)),Zab,?_,ht2,Zac,Zab,?_,(by exact Yaf _ _ _),((o1.put (fun h=>by have:=kv1 _ h;omega)).put (fun h=>by have:=kv1 _ h;omega)),((o2.put (fun h=>by have:=(kv2 _ h).1;omega)).put (fun h=>by have:=(kv2 _ h).1;omega)),(fun q hq=>by have:=kv1 q hq;omega),(fun q hq=>⟨by have:=(kv2 q hq).1;omega,(kv2 q hq).2⟩)⟩<;>first|with_reducible rfl|with_reducible assumption|(simp[Yad,g2,g5]<;>omega)
 clear g2 kP bP g5 ht;rintro⟨env,⟨sto,c⟩⟩ ⟨I,v1,v2,g2,kP,bP,g5,ht,oI,bI,g6,kI,ho1,ho2,q1,q2⟩;try simp only at g2 bP g5 ht bI g6 ho1 ho2
 replace kP:∀ n',St.get ⟨sto,n'⟩ P=some (.cells [slV p.zd p.D.length (p.D.flatMap Dc.cs),slV p.zt p.T.length (p.T.flatMap Td.cs)] false):=fun _=>kP;replace kI:∀ n',St.get ⟨sto,n'⟩ I=some (.cells [v1,v2] false):=fun _=>kI;refine NaT (fun x=>x.env.get 2=.ptr P 0∧x.st.get P=some (.cells [slV p.zd p.D.length (p.D.flatMap Dc.cs),slV p.zt p.T.length (p.T.flatMap Td.cs)] false)∧P<x.st.cnt∧x.env.get 5=.s mo∧(Top x.st)∧I<x.st.cnt∧x.env.get 6=.ptr I 0∧x.st.get I=some (.cells [v1,v2] false)∧(Own x.st 5 v1 p.D.length ((p.D.map (Dc.rn mo)).flatMap Dc.cs))∧(Own x.st 3 v2 p.T.length ((p.T.map Td.cp).flatMap Td.cs))) ?_ ?_
 ·intro K3 hK3
  iterate 2
   (try rw[Z0]);(try simp(maxSteps:=9^7)(disch:=first|omega|rfl|assumption)only[↓Yaa,Yab,Nae,Naa,rB,rC,rD,rE,reduceIte,unP,rF,g2,kP,g5,g6,kI,ho1.len])
  refine Z9 (k:=p.D.length - 0) (fun m x=>∃ (i:Nat),m=p.D.length - i∧x.env.get 2=.ptr P 0∧x.env.get 5=.s mo∧x.env.get 6=.ptr I 0∧x.env.get 26=.i .i64 (p.D.length:Int)∧x.env.get 27=.i .i64 (i:Int)∧x.st.get P=some (.cells [slV p.zd p.D.length (p.D.flatMap Dc.cs),slV p.zt p.T.length (p.T.flatMap Td.cs)] false)∧x.st.get I=some (.cells [v1,v2] false)∧I<x.st.cnt∧(P<I)∧(Own x.st 5 v1 p.D.length (((p.D.take i).map (Dc.rn mo)++p.D.drop i).flatMap Dc.cs))∧(Own x.st 3 v2 p.T.length ((p.T.map Td.cp).flatMap Td.cs))∧(Top x.st)∧(i≤p.D.length)) ?_ ?_ Zaa
  ·clear g2 kP bP g5 ht bI g6 kI ho1 ho2;rintro m ⟨env,⟨sto,c⟩⟩ ⟨i,rfl,g2,g5,g6,g26,g27,kP,kI,bI,oI,ho1,ho2,ht,hi⟩;try simp only at g2 g5 g6 g26 g27 bI ho1 ho2 ht
   replace kP:∀ n',St.get ⟨sto,n'⟩ P=some (.cells [slV p.zd p.D.length (p.D.flatMap Dc.cs),slV p.zt p.T.length (p.T.flatMap Td.cs)] false):=fun _=>kP;replace kI:∀ n',St.get ⟨sto,n'⟩ I=some (.cells [v1,v2] false):=fun _=>kI;by_cases hil:i<p.D.length
   ·obtain⟨d,he⟩:∃ d,p.D[i]=d:=⟨_,rfl⟩;have hdm:d∈p.D:=he▸List.getElem_mem hil;have hd1:=hsD d hdm;rcases ho1 with⟨-,h0,-⟩|⟨L,rfl,hkL,hlL,hltL⟩
    ·omega
    rw[List.drop_eq_getElem_cons hil,he,List.flatMap_append,List.flatMap_cons]at hkL hlL;obtain⟨A0,hA0⟩:∃ A0,((p.D.take i).map (Dc.rn mo)).flatMap Dc.cs=A0:=⟨_,rfl⟩;obtain⟨Z,hZ⟩:∃ Z,(p.D.drop (i+1)).flatMap Dc.cs=Z:=⟨_,rfl⟩;have lA0:A0.length=i * 5:=(by rw[←hA0,NaM Dc.cs_len,List.length_map,List.length_take];congr 1;omega);rw[hA0,hZ]at hkL hlL;obtain⟨CS,hCS⟩:∃ CS,A0++(d.cs++Z)=CS:=⟨_,rfl⟩;have hCl:i * 5+5≤CS.length:=(by rw[←hCS,List.length_append,List.length_append,Dc.cs_len];omega);have t1:(i * 5+2≤CS.length)=True:=eq_true Zaa;have t3:(i * 5+4≤CS.length)=True:=eq_true Zaa;have d1:List.take 1 (List.drop (i * 5+1) CS)=[.s d.S]:=(by rw[←hCS];exact Nfc lA0 rfl);have d3:List.take 1 (List.drop (i * 5+3) CS)=[.s d.O]:=(by rw[←hCS];exact Nfc lA0 rfl);obtain⟨CS1,hCS1⟩:∃ CS1,A0++(d.cs.set 1 (.s (d.S++mo))++Z)=CS1:=⟨_,rfl⟩;have s1:CS.take (i * 5+1)++[.s (d.S++mo)]++CS.drop (i * 5+2)=CS1:=(by rw[←hCS,←hCS1];exact NdX lA0 (by rw[Dc.cs_len];omega));have hCl1:i * 5+5≤CS1.length:=(by rw[←hCS1,List.length_append,List.length_append,List.length_set,Dc.cs_len];omega);have t13:(i * 5+4≤CS1.length)=True:=eq_true Zaa;have d13:List.take 1 (List.drop (i * 5+3) CS1)=[.s d.O]:=(by rw[←hCS1];exact Nfc lA0 rfl);have s3:CS1.take (i * 5+3)++[.s (d.O++mo)]++CS1.drop (i * 5+4)=A0++((d.cs.set 1 (.s (d.S++mo))).set 3 (.s (d.O++mo))++Z):=(by rw[←hCS1];exact NdX lA0 (by rw[List.length_set,Dc.cs_len];omega));rw[hCS]at hkL hlL;have kV:∀ n',St.get ⟨sto,n'⟩ L=some (.cells CS false):=fun _=>hkL;simp only at hltL;have kI1:I<L:=q1 L (by simp[keyOf]);have nL2:L∉keyOf v2:=fun h=>(q2 L h).2 (by simp[keyOf]);have hnx:((p.D.take (i+1)).map (Dc.rn mo)++p.D.drop (i+1)).flatMap Dc.cs=A0++((d.rn mo).cs++Z):=by
     rw[List.take_succ_eq_append_getElem hil,he,List.map_append,List.flatMap_append,List.flatMap_append,hA0,hZ,List.append_assoc];simp
    have hlen2:(A0++((d.rn mo).cs++Z)).length=p.D.length * 5:=by
     rw[←hlL,←hCS,List.length_append,List.length_append,List.length_append,List.length_append,Dc.cs_len,Dc.cs_len]
    iterate 2
     (try rw[Z0]);(try simp(maxSteps:=9^7)(disch:=first|omega|rfl|assumption)only[↓Yaa,Yab,Nae,Naa,rB,rC,rD,rE,reduceIte,unP,rF,g2,g5,g6,g26,g27,kP,kI])
    refine Ndx fun K9 hK9=>?_;have hK':∀ x':Now,(x'.env.get 2=.ptr P 0∧x'.env.get 5=.s mo∧x'.env.get 6=.ptr I 0∧x'.env.get 26=.i .i64 (p.D.length:Int)∧x'.env.get 27=.i .i64 (i:Int)∧x'.st.get P=some (.cells [slV p.zd p.D.length (p.D.flatMap Dc.cs),slV p.zt p.T.length (p.T.flatMap Td.cs)] false)∧x'.st.get I=some (.cells [.rsl L 5 0 p.D.length,v2] false)∧x'.st.get L=some (.cells (A0++((d.rn mo).cs++Z)) false)∧L<x'.st.cnt∧Own x'.st 3 v2 p.T.length ((p.T.map Td.cp).flatMap Td.cs)∧Top x'.st)→K9 x':=by
     clear g2 g5 g6 g26 g27 kP kI ho2 ht hkL bI hltL;rintro⟨env,⟨sto,c⟩⟩ ⟨g2,g5,g6,g26,g27,kP,kI,kL,hLc,ho2,ht⟩;simp only at g2 g5 g6 g26 g27 hLc;refine hK9 _ ?_
     iterate 2
      (try rw[Z0]);(try simp(maxSteps:=9^7)(disch:=first|omega|rfl|assumption)only[↓Yaa,Yab,Nae,Naa,rB,rC,rD,rE,reduceIte,unP,rF,g2,g5,g6,g26,g27,kP,kI])
     exact⟨p.D.length - (i+1),by omega,i+1,rfl,rfl,kP,kI,.inr ⟨L,rfl,by rw[hnx];exact kL,by rw[hnx];exact hlen2,by simp only;omega⟩,ho2.cnt Zaa,ht.le Zaa,by omega⟩
    clear hK9
    iterate 2
     (try rw[Z0]);(try simp(maxSteps:=9^7)(disch:=first|omega|rfl|assumption)only[↓Yaa,Yab,Nae,Naa,rB,rC,rD,rE,reduceIte,unP,rF,g2,g5,g6,g26,g27,kP,kI])
    refine NaT (fun x=>x.env.get 2=.ptr P 0∧x.env.get 5=.s mo∧x.env.get 6=.ptr I 0∧x.env.get 7=.i .i64 (i:Int)∧x.env.get 26=.i .i64 (p.D.length:Int)∧x.env.get 27=.i .i64 (i:Int)∧x.st.get P=some (.cells [slV p.zd p.D.length (p.D.flatMap Dc.cs),slV p.zt p.T.length (p.T.flatMap Td.cs)] false)∧x.st.get I=some (.cells [.rsl L 5 0 p.D.length,v2] false)∧L<x.st.cnt∧x.st.get L=some (.cells CS false)∧(Own x.st 3 v2 p.T.length ((p.T.map Td.cp).flatMap Td.cs))∧(Top x.st)) ?_ ?_
    ·intro K4 hK4;have kV:∀ n',St.get ⟨sto,n'⟩ L=some (.cells CS false):=fun _=>hkL;have hsum:IntKind.i64.wrap ((d.S.length:Int)+(d.O.length:Int))=(d.S.length:Int)+(d.O.length:Int):=NaD _ ⟨by omega,by omega⟩;by_cases h80:(80:Int)<(d.S.length:Int)+(d.O.length:Int)
     ·skip
      iterate 2
       (try rw[Z0]);(try simp(maxSteps:=9^7)(disch:=first|omega|rfl|assumption)only[↓Yaa,Yab,Nae,Naa,rB,rC,rD,rE,reduceIte,unP,rF,g2,g5,g6,g26,g27,kP,kI,kV,t1,t3,d1,d3,hsum,h80,aw])
      exact⟨nofun,_,rfl,by simp only[Nau,Yad,if_true]⟩
     ·skip
      iterate 2
       (try rw[Z0]);(try simp(maxSteps:=9^7)(disch:=first|omega|rfl|assumption)only[↓Yaa,Yab,Nae,Naa,rB,rC,rD,rE,reduceIte,unP,rF,g2,g5,g6,g26,g27,kP,kI,kV,t1,t3,d1,d3,hsum,h80])
      refine hK4 _ ⟨?_,?_,?_,?_,?_,?_,?_,?_,Zab,hkL,(ho2.cnt Zag),(ht.le Zag)⟩<;>first|with_reducible rfl|with_reducible assumption|exact kP _|exact kI _|(simp[Yad,g2,g5,g6,g26,g27]<;>omega)|(simp(disch:=omega)only[NaG,NaN,Yaf,kP,kI];first|done|with_reducible rfl|with_reducible assumption)
    clear g2 g5 g6 g26 g27 kP kI bI ho2 ht;rintro⟨env,⟨sto,c⟩⟩ ⟨g2,g5,g6,g7,g26,g27,kP,kI,bL,kL,ho2,ht⟩;try simp only at g2 g5 g6 g7 g26 g27 bL ho2 ht
    replace kP:∀ n',St.get ⟨sto,n'⟩ P=some (.cells [slV p.zd p.D.length (p.D.flatMap Dc.cs),slV p.zt p.T.length (p.T.flatMap Td.cs)] false):=fun _=>kP;replace kI:∀ n',St.get ⟨sto,n'⟩ I=some (.cells [.rsl L 5 0 p.D.length,v2] false):=fun _=>kI;replace kL:∀ n',St.get ⟨sto,n'⟩ L=some (.cells CS false):=fun _=>kL;refine NaT (fun x=>x.env.get 2=.ptr P 0∧x.env.get 5=.s mo∧x.env.get 6=.ptr I 0∧x.env.get 7=.i .i64 (i:Int)∧x.env.get 26=.i .i64 (p.D.length:Int)∧x.env.get 27=.i .i64 (i:Int)∧x.st.get P=some (.cells [slV p.zd p.D.length (p.D.flatMap Dc.cs),slV p.zt p.T.length (p.T.flatMap Td.cs)] false)∧x.st.get I=some (.cells [.rsl L 5 0 p.D.length,v2] false)∧L<x.st.cnt∧x.st.get L=some (.cells CS1 false)∧(Own x.st 3 v2 p.T.length ((p.T.map Td.cp).flatMap Td.cs))∧(Top x.st)) ?_ ?_
    ·intro K5 hK5;have hS4:d.S.length+mo.length<9223372036854775807:=(by omega);(try rw[Z0]);(try simp(maxSteps:=9^7)(disch:=first|omega|rfl|assumption)only[↓Yaa,Yab,Nae,Naa,rB,rC,rD,rE,reduceIte,unP,rF,g2,g5,g6,g7,g26,g27,kP,kI,kL,t1,t3,d1,d3,hS4]);refine hK5 _ ⟨?_,?_,?_,?_,?_,?_,(by rw[Yae (by omega)];exact kP _),(by rw[Yae (by omega)];exact kI _),Zab,(by rw[Yaf,s1]),((ho2.cnt (c':=c+88) Zaa).put nL2),((ht.le (c':=c+88) Zaa).put Zag)⟩<;>first|with_reducible rfl|with_reducible assumption|(simp[Yad,g2,g5,g6,g7,g26,g27]<;>omega)
    clear g2 g5 g6 g7 g26 g27 kP kI bL kL ho2 ht;rintro⟨env,⟨sto,c⟩⟩ ⟨g2,g5,g6,g7,g26,g27,kP,kI,bL,kL,ho2,ht⟩;try simp only at g2 g5 g6 g7 g26 g27 bL ho2 ht
    replace kP:∀ n',St.get ⟨sto,n'⟩ P=some (.cells [slV p.zd p.D.length (p.D.flatMap Dc.cs),slV p.zt p.T.length (p.T.flatMap Td.cs)] false):=fun _=>kP;replace kI:∀ n',St.get ⟨sto,n'⟩ I=some (.cells [.rsl L 5 0 p.D.length,v2] false):=fun _=>kI;replace kL:∀ n',St.get ⟨sto,n'⟩ L=some (.cells CS1 false):=fun _=>kL;cases hO:d.O==([]:List UInt8)with
    |true =>
      have hO2:d.O=[]:=(by simpa using hO);have hrn:CS1=A0++((d.rn mo).cs++Z):=by
       rw[←hCS1]
       congr 2
       unfold Dc.rn Dc.cs;rw[hO2,Nek];rfl
      iterate 3
       (try rw[Z0]);(try simp(maxSteps:=9^7)(disch:=first|omega|rfl|assumption)only[↓Yaa,Yab,Nae,Naa,rB,rC,rD,rE,reduceIte,unP,rF,g2,g5,g6,g7,g26,g27,kP,kI,kL,t13,d13,hO,Bool.not_true])
      exact hK' _ ⟨by simp[Yad,g2],by simp[Yad,g5],by simp[Yad,g6],by simp[Yad,g26],by simp[Yad,g27],kP _,kI _,by rw[←hrn];exact kL _,by first|omega|(simp only;omega),ho2.cnt Zag,ht.le Zag⟩
    |false =>
      have hO2:d.O≠[]:=(by simpa using hO);have hO4:d.O.length+mo.length<9223372036854775807:=(by omega);have hrn:A0++((d.cs.set 1 (.s (d.S++mo))).set 3 (.s (d.O++mo))++Z)=A0++((d.rn mo).cs++Z):=by
       congr 2
       unfold Dc.rn Dc.cs;rw[NdP hO2];rfl
      iterate 3
       (try rw[Z0]);(try simp(maxSteps:=9^7)(disch:=first|omega|rfl|assumption)only[↓Yaa,Yab,Nae,Naa,rB,rC,rD,rE,reduceIte,unP,rF,g2,g5,g6,g7,g26,g27,kP,kI,kL,t13,d13,hO,Bool.not_false,hO4])
      exact hK' _ ⟨by simp[Yad,g2],by simp[Yad,g5],by simp[Yad,g6],by simp[Yad,g26],by simp[Yad,g27],by rw[Yae Zaa];exact kP _,by rw[Yae Zaa];exact kI _,by rw[Yaf,s3,hrn],by simp only[Naz];omega,(ho2.cnt Zaa).put nL2,(ht.le Zaa).put Zag⟩
   ·have e1:p.D.take i=p.D:=List.take_of_length_le Zaa;have e2:p.D.drop i=[]:=List.drop_of_length_le Zaa;rw[e1,e2,List.append_nil]at ho1
    iterate 6
     (try rw[Z0]);(try simp(maxSteps:=9^7)(disch:=first|omega|rfl|assumption)only[↓Yaa,Yab,Nae,Naa,rB,rC,rD,rE,reduceIte,unP,rF,g2,g5,g6,g26,g27,kP,kI])
    refine hK3 _ ⟨?_,?_,Zab,?_,(ht.le Zag),Zab,?_,?_,(ho1.cnt Zag),(ho2.cnt Zag)⟩<;>first|with_reducible rfl|with_reducible assumption|exact kP _|exact kI _|(simp[Yad,g2,g5,g6,g26,g27]<;>omega)|(simp(disch:=omega)only[NaG,NaN,Yaf,kP,kI];first|done|with_reducible rfl|with_reducible assumption)
  ·skip
   refine⟨0,rfl,?_,?_,?_,?_,?_,?_,?_,Zab,Zac,(by rw[List.take_zero,List.drop_zero];exact ho1.cnt (by first|omega|(simp only;omega))),(ho2.cnt Zag),(ht.le Zag),Zac⟩<;>first|with_reducible rfl|with_reducible assumption|exact kP _|exact kI _|(simp[Yad,g2,g5,g6]<;>omega)|(simp(disch:=omega)only[NaG,NaN,Yaf,kP,kI];first|done|with_reducible rfl|with_reducible assumption)
 clear g2 kP bP g5 ht bI g6 kI ho1 ho2;rintro⟨env,⟨sto,c⟩⟩ ⟨g2,kP,bP,g5,ht,bI,g6,kI,ho1,ho2⟩;try simp only at g2 bP g5 ht bI g6 ho1 ho2
 replace kP:∀ n',St.get ⟨sto,n'⟩ P=some (.cells [slV p.zd p.D.length (p.D.flatMap Dc.cs),slV p.zt p.T.length (p.T.flatMap Td.cs)] false):=fun _=>kP;replace kI:∀ n',St.get ⟨sto,n'⟩ I=some (.cells [v1,v2] false):=fun _=>kI;refine NaT (fun x=>x.env.get 2=.ptr P 0∧x.st.get P=some (.cells [slV p.zd p.D.length (p.D.flatMap Dc.cs),slV p.zt p.T.length (p.T.flatMap Td.cs)] false)∧P<x.st.cnt∧x.env.get 5=.s mo∧(Top x.st)∧I<x.st.cnt∧x.env.get 6=.ptr I 0∧x.st.get I=some (.cells [v1,v2] false)∧(Own x.st 5 v1 p.D.length ((p.D.map (Dc.rn mo)).flatMap Dc.cs))∧(Own x.st 3 v2 p.T.length ((p.T.map (Td.rn mo)).flatMap Td.cs))) ?_ ?_
 ·intro K6 hK6
  iterate 2
   (try rw[Z0]);(try simp(maxSteps:=9^7)(disch:=first|omega|rfl|assumption)only[↓Yaa,Yab,Nae,Naa,rB,rC,rD,rE,reduceIte,unP,rF,g2,kP,g5,g6,kI,ho2.len])
  refine Z9 (k:=p.T.length - 0) (fun m x=>∃ (i:Nat),m=p.T.length - i∧x.env.get 2=.ptr P 0∧x.env.get 5=.s mo∧x.env.get 6=.ptr I 0∧x.env.get 77=.i .i64 (p.T.length:Int)∧x.env.get 78=.i .i64 (i:Int)∧x.st.get P=some (.cells [slV p.zd p.D.length (p.D.flatMap Dc.cs),slV p.zt p.T.length (p.T.flatMap Td.cs)] false)∧x.st.get I=some (.cells [v1,v2] false)∧I<x.st.cnt∧(P<I)∧(Own x.st 5 v1 p.D.length ((p.D.map (Dc.rn mo)).flatMap Dc.cs))∧(Own x.st 3 v2 p.T.length (((p.T.take i).map (Td.rn mo)++(p.T.drop i).map Td.cp).flatMap Td.cs))∧(Top x.st)∧(i≤p.T.length)) ?_ ?_ Zaa
  ·clear g2 kP bP g5 ht bI g6 kI ho1 ho2;rintro m ⟨env,⟨sto,c⟩⟩ ⟨i,rfl,g2,g5,g6,g77,g78,kP,kI,bI,oI,ho1,ho2,ht,hi⟩;try simp only at g2 g5 g6 g77 g78 bI ho1 ho2 ht
   replace kP:∀ n',St.get ⟨sto,n'⟩ P=some (.cells [slV p.zd p.D.length (p.D.flatMap Dc.cs),slV p.zt p.T.length (p.T.flatMap Td.cs)] false):=fun _=>kP;replace kI:∀ n',St.get ⟨sto,n'⟩ I=some (.cells [v1,v2] false):=fun _=>kI;by_cases hil:i<p.T.length
   ·obtain⟨t,he⟩:∃ t,p.T[i]=t:=⟨_,rfl⟩;have htm:t∈p.T:=he▸List.getElem_mem hil;have hts:=Tds.size_mem htm;have hdt:=Sms.dp_szR t.B;rcases ho2 with⟨-,h0,-⟩|⟨L,rfl,hkL,hlL,hltL⟩
    ·omega
    simp only at hltL;rw[List.drop_eq_getElem_cons hil,he,List.map_cons,List.flatMap_append,List.flatMap_cons]at hkL hlL;obtain⟨A0,hA0⟩:∃ A0,((p.T.take i).map (Td.rn mo)).flatMap Td.cs=A0:=⟨_,rfl⟩;obtain⟨Z,hZ⟩:∃ Z,((p.T.drop (i+1)).map Td.cp).flatMap Td.cs=Z:=⟨_,rfl⟩;have lA0:A0.length=i * 3:=(by rw[←hA0,NaM Td.cs_len,List.length_map,List.length_take];congr 1;omega);rw[hA0,hZ]at hkL hlL;obtain⟨CS,hCS⟩:∃ CS,A0++((Td.cp t).cs++Z)=CS:=⟨_,rfl⟩;have hCl:i * 3+3≤CS.length:=(by rw[←hCS,List.length_append,List.length_append,Td.cs_len];omega);have t1:(i * 3+2≤CS.length)=True:=eq_true Zaa;have d1:List.take 1 (List.drop (i * 3+1) CS)=[slV true (Sms.cp t.B).length (Sms.cs (Sms.cp t.B))]:=(by rw[←hCS];exact Nfc lA0 rfl);have s1:CS.take (i * 3+1)++[slV true (Sms.rn mo t.B).length (Sms.cs (Sms.rn mo t.B))]++CS.drop (i * 3+2)=A0++((Td.rn mo t).cs++Z):=(by rw[←hCS];exact NdX lA0 (by rw[Td.cs_len];omega));have hnx:((p.T.take (i+1)).map (Td.rn mo)++(p.T.drop (i+1)).map Td.cp).flatMap Td.cs=A0++((Td.rn mo t).cs++Z):=by
     rw[List.take_succ_eq_append_getElem hil,he,List.map_append,List.flatMap_append,List.flatMap_append,hA0,hZ,List.append_assoc];simp
    have hlen2:(A0++((Td.rn mo t).cs++Z)).length=p.T.length * 3:=by
     rw[←hlL,List.length_append,List.length_append,List.length_append,List.length_append,Td.cs_len,Td.cs_len]
    rw[hCS]at hkL hlL;have kI1:I<L:=(q2 L (by simp[keyOf])).1;have nL1:L∉keyOf v1:=(q2 L (by simp[keyOf])).2;have kL:∀ n',St.get ⟨sto,n'⟩ L=some (.cells CS false):=fun _=>hkL;have gN:∀ (st:St) (key:Nat),Nam (Nak cfg (Nay cfg (2 * F+200)) 20) false st key [slV true (Sms.cp t.B).length (Sms.cs (Sms.cp t.B)),.s mo]=some (slV true (Sms.rn mo t.B).length (Sms.cs (Sms.rn mo t.B)),st):=fun st key=>Nal (by simp only[List.all_cons,List.all_nil,Nbr,Bool.true_and];rfl) (by rw[Nav hxr];exact Nj1 (by omega) (by omega) (hsT t htm) hm2) (Ngf _ _ _)
    iterate 2
     (try rw[Z0]);(try simp(maxSteps:=9^7)(disch:=first|omega|rfl|assumption)only[↓Yaa,Yab,Nae,Naa,rB,rC,rD,rE,reduceIte,unP,rF,g2,g5,g6,g77,g78,kP,kI])
    refine Ndx fun K9 hK9=>?_
    iterate 2
     (try rw[Z0]);(try simp(maxSteps:=9^7)(disch:=first|omega|rfl|assumption)only[↓Yaa,Yab,Nae,Naa,rB,rC,rD,rE,reduceIte,unP,rF,g2,g5,g6,g77,g78,kP,kI])
    have ht':Top ⟨sto,c+24⟩:=ht.le Zaa;refine Ngr hok ht' ?_;obtain⟨c1,hc1⟩:∃ c1,c+24=c1:=⟨_,rfl⟩;rw[hc1]at ht' ⊢;refine Njr (NbZ hok _) (NdC hok _).2 [L] (by rfl) (ns:=[true,true,true,false,false,false,false,false,false,false,false,false,false,false]) (by rfl) ht' ?_;have kn:∀ d,c1+d∉[L]:=fun d h=>by
     simp only[List.mem_cons,List.not_mem_nil,or_false]at h;omega
    have nI:I∉[L]:=fun h=>by
     simp only[List.mem_cons,List.not_mem_nil,or_false]at h;omega
    have hnn:∀ d n',St.get ⟨sto,n'⟩ (c1+d)=none:=fun d _=>ht' (c1+d) Zae;(first|rw[Nbh]|rw[NaY]);(try simp(maxSteps:=9^7)(disch:=first|omega|rfl|assumption)only[↓Yaa,Yac,Nae,Naa,rB,rC,rD,rE,reduceIte,unP,Xl,rF,Nca,NbR,NbQ,Na6,Na7,Na8,Na9,g5,g6,kI,kL,NbU,NbV,cut?,t1,d1,gN]);(first|rw[Nbh]|rw[NaY]);(try simp(maxSteps:=9^7)(disch:=first|omega|rfl|assumption)only[↓Yaa,Yac,Nae,Naa,rB,rC,rD,rE,reduceIte,unP,Xl,rF,Nca,NbR,NbQ,Na6,Na7,Na8,Na9,g5,g6,kI,kL,NbU,NbV,cut?,t1,d1,gN]);(first|rw[Nbh]|rw[NaY]);(try simp(maxSteps:=9^7)(disch:=first|omega|rfl|assumption)only[↓Yaa,Yac,Nae,Naa,rB,rC,rD,rE,reduceIte,unP,Xl,rF,Nca,NbR,NbQ,Na6,Na7,Na8,Na9,g5,g6,kI,kL,NbU,NbV,cut?,t1,d1,gN]);(first|rw[Nbh]|rw[NaY]);(try simp(maxSteps:=9^7)(disch:=first|omega|rfl|assumption)only[↓Yaa,Yac,Nae,Naa,rB,rC,rD,rE,reduceIte,unP,Xl,rF,Nca,NbR,NbQ,Na6,Na7,Na8,Na9,g5,g6,kI,kL,NbU,NbV,cut?,t1,d1,gN]);(first|rw[Nbh]|rw[NaY]);(try simp(maxSteps:=9^7)(disch:=first|omega|rfl|assumption)only[↓Yaa,Yac,Nae,Naa,rB,rC,rD,rE,reduceIte,unP,Xl,rF,Nca,NbR,NbQ,Na6,Na7,Na8,Na9,g5,g6,kI,kL,NbU,NbV,cut?,t1,d1,gN]);(first|rw[Nbh]|rw[NaY]);(try simp(maxSteps:=9^7)(disch:=first|omega|rfl|assumption)only[↓Yaa,Yac,Nae,Naa,rB,rC,rD,rE,reduceIte,unP,Xl,rF,Nca,NbR,NbQ,Na6,Na7,Na8,Na9,g5,g6,kI,kL,NbU,NbV,cut?,t1,d1,gN]);(first|rw[Nbh]|rw[NaY]);(try simp(maxSteps:=9^7)(disch:=first|omega|rfl|assumption)only[↓Yaa,Yac,Nae,Naa,rB,rC,rD,rE,reduceIte,unP,Xl,rF,Nca,NbR,NbQ,Na6,Na7,Na8,Na9,g5,g6,kI,kL,NbU,NbV,cut?,t1,d1,gN]);(first|rw[Nbh]|rw[NaY]);(try simp(maxSteps:=9^7)(disch:=first|omega|rfl|assumption)only[↓Yaa,Yac,Nae,Naa,rB,rC,rD,rE,reduceIte,unP,Xl,rF,Nca,NbR,NbQ,Na6,Na7,Na8,Na9,g5,g6,kI,kL,NbU,NbV,cut?,t1,d1,gN]);(first|rw[Nbh]|rw[NaY]);(try simp(maxSteps:=9^7)(disch:=first|omega|rfl|assumption)only[↓Yaa,Yac,Nae,Naa,rB,rC,rD,rE,reduceIte,unP,Xl,rF,Nca,NbR,NbQ,Na6,Na7,Na8,Na9,g5,g6,kI,kL,NbU,NbV,cut?,t1,d1,gN]);(first|rw[Nbh]|rw[NaY]);(try simp(maxSteps:=9^7)(disch:=first|omega|rfl|assumption)only[↓Yaa,Yac,Nae,Naa,rB,rC,rD,rE,reduceIte,unP,Xl,rF,Nca,NbR,NbQ,Na6,Na7,Na8,Na9,g5,g6,kI,kL,NbU,NbV,cut?,t1,d1,gN]);(first|rw[Nbh]|rw[NaY]);(try simp(maxSteps:=9^7)(disch:=first|omega|rfl|assumption)only[↓Yaa,Yac,Nae,Naa,rB,rC,rD,rE,reduceIte,unP,Xl,rF,Nca,NbR,NbQ,Na6,Na7,Na8,Na9,g5,g6,kI,kL,NbU,NbV,cut?,t1,d1,gN]);refine⟨by rw[NbQ _ _ _ _ _ _ _ rfl rfl];exact kn 0,Ngd rfl (Ndg _ _) (hnn 0 _),⟨kn 8,fun _ k o h=>by cases h;exact⟨by omega,nI⟩⟩,Ngd rfl (Nez _ _ _ _) (hnn 8 _),by rw[NbQ _ _ _ _ _ _ _ rfl rfl];exact kn 16,Ngd rfl (Ngh _ _) (hnn 16 _),Ne7 (kn 24),NbT rfl,⟨kn 32,nofun⟩,NbT rfl,Ne7 (kn 40),NbT rfl,Ne7 (kn 48),NbT rfl,Ne7 (kn 56),NbT rfl,⟨kn 64,nofun⟩,NbT rfl,Ne7 (kn 72),NbT rfl,by rw[NbR _ _ _ _ _ _ _ rfl];trivial,by rw[Na7 _ _ _ _ _ _ _ rfl];exact fun _ _ _=>rfl,?_⟩;(first|rw[Nbh]|rw[NaY]);(try simp(maxSteps:=9^7)(disch:=first|omega|rfl|assumption)only[↓Yaa,Yac,Nae,Naa,rB,rC,rD,rE,reduceIte,unP,Xl,rF,Nca,NbR,NbQ,Na6,Na7,Na8,Na9,kL,NiH,NiI,Nag,Naf,t1,s1]);(first|rw[Nbh]|rw[NaY]);(try simp(maxSteps:=9^7)(disch:=first|omega|rfl|assumption)only[↓Yaa,Yac,Nae,Naa,rB,rC,rD,rE,reduceIte,unP,Xl,rF,Nca,NbR,NbQ,Na6,Na7,Na8,Na9,kL,NiH,NiI,Nag,Naf,t1,s1]);(first|rw[Nbh]|rw[NaY]);(try simp(maxSteps:=9^7)(disch:=first|omega|rfl|assumption)only[↓Yaa,Yac,Nae,Naa,rB,rC,rD,rE,reduceIte,unP,Xl,rF,Nca,NbR,NbQ,Na6,Na7,Na8,Na9,kL,NiH,NiI,Nag,Naf,t1,s1]);refine⟨Ne7 (kn 88),NbT rfl,Ne7 (kn 96),NbT rfl,by rw[NbR _ _ _ _ _ _ _ rfl];trivial,by rw[Na7 _ _ _ _ _ _ _ rfl];exact fun q a b=>Yae (fun e=>b (by rw[←e];simp)),?_⟩;rw[Nne];(try rw[Z0]);(try simp(maxSteps:=9^7)(disch:=first|omega|rfl|assumption)only[↓Yaa,Yab,Nae,Naa,rB,rC,rD,rE,reduceIte,unP,rF,g2,g5,g6,g77,g78,kP,kI]);intro ht2;refine hK9 _ ?_
    iterate 2
     (try rw[Z0]);(try simp(maxSteps:=9^7)(disch:=first|omega|rfl|assumption)only[↓Yaa,Yab,Nae,Naa,rB,rC,rD,rE,reduceIte,unP,rF,g2,g5,g6,g77,g78,kP,kI])
    exact⟨p.T.length - (i+1),by omega,i+1,rfl,rfl,ho1.move Zae (fun q hq _=>Yae (fun e=>nL1 (e▸hq))),.inr ⟨L,rfl,by rw[hnx];exact Yaf _ _ _,by rw[hnx];exact hlen2,by simp only;omega⟩,ht2.le (show c1+112≤c1+128 by omega),by omega⟩
   ·have e1:p.T.take i=p.T:=List.take_of_length_le Zaa;have e2:p.T.drop i=[]:=List.drop_of_length_le Zaa;rw[e1,e2,List.map_nil,List.append_nil]at ho2
    iterate 6
     (try rw[Z0]);(try simp(maxSteps:=9^7)(disch:=first|omega|rfl|assumption)only[↓Yaa,Yab,Nae,Naa,rB,rC,rD,rE,reduceIte,unP,rF,g2,g5,g6,g77,g78,kP,kI])
    refine hK6 _ ⟨?_,?_,Zab,?_,(ht.le Zag),Zab,?_,?_,(ho1.cnt Zag),(ho2.cnt Zag)⟩<;>first|with_reducible rfl|with_reducible assumption|exact kP _|exact kI _|(simp[Yad,g2,g5,g6,g77,g78]<;>omega)|(simp(disch:=omega)only[NaG,NaN,Yaf,kP,kI];first|done|with_reducible rfl|with_reducible assumption)
  ·skip
   refine⟨0,rfl,?_,?_,?_,?_,?_,?_,?_,Zab,Zac,(ho1.cnt Zag),(by rw[List.take_zero,List.drop_zero];exact ho2.cnt (by first|omega|(simp only;omega))),(ht.le Zag),Zac⟩<;>first|with_reducible rfl|with_reducible assumption|exact kP _|exact kI _|(simp[Yad,g2,g5,g6]<;>omega)|(simp(disch:=omega)only[NaG,NaN,Yaf,kP,kI];first|done|with_reducible rfl|with_reducible assumption)
 clear g2 kP bP g5 ht bI g6 kI ho1 ho2;rintro⟨env,⟨sto,c⟩⟩ ⟨g2,kP,bP,g5,ht,bI,g6,kI,ho1,ho2⟩;try simp only at g2 bP g5 ht bI g6 ho1 ho2
 replace kP:∀ n',St.get ⟨sto,n'⟩ P=some (.cells [slV p.zd p.D.length (p.D.flatMap Dc.cs),slV p.zt p.T.length (p.T.flatMap Td.cs)] false):=fun _=>kP;replace kI:∀ n',St.get ⟨sto,n'⟩ I=some (.cells [v1,v2] false):=fun _=>kI;obtain⟨z1,hz1⟩:=Njc (f:=9) (l:=p.D.map (Dc.rn mo)) (ho1.cnt (c':=c+72) Zaa) (by rw[List.length_map]);obtain⟨z2,hz2⟩:=Njd (f:=9) (l:=p.T.map (Td.rn mo)) (ho2.cnt (c':=c+72) Zaa) (by rw[List.length_map]);obtain⟨R,hR⟩:∃ R,Nd3 p=R:=⟨_,rfl⟩;have hTs:=Tds.rn_size mo p.T;have gC1:Nak cfg (Nay cfg (2 * F+200)) 9 [.agg (Pg.cs ⟨z1,p.D.map (Dc.rn mo),z2,p.T.map (Td.rn mo)⟩)]=some (.agg [.i .i64 R.1,.i .i64 R.2]) :=
  Nar hx5 (NcU _ _) (fun _=>rfl) (by
   have:=NhX hr.toCfgM (p:=⟨z1,p.D.map (Dc.rn mo),z2,p.T.map (Td.rn mo)⟩) (q:=2 * F+197) (st:={ sto:=.leaf,cnt:=1 }) (by simp only[hTs,List.length_map];omega) (by simp only[hTs,List.length_map];omega);rw[NjB hm z1 z2 (fun d hd=>⟨by have:=hsD d hd;omega,by have:=hsD d hd;omega⟩) hsT hrt,hR]at this;exact this)
 have gC2:Nak cfg (Nay cfg (2 * F+200)) 9 [.agg (Pg.cs p)]=some (.agg [.i .i64 R.1,.i .i64 R.2]) :=
  Nar hx5 (NcU _ _) (fun _=>rfl) (by
   have:=NhX hr.toCfgM (p:=p) (q:=2 * F+197) (st:={ sto:=.leaf,cnt:=1 }) Zaa Zaa;rw[hR]at this;exact this)
 unfold Pg.cs at gC1 gC2;simp only at gC1;have hq:Nhg [(0,0),(1,0)] [.i .i64 R.1,.i .i64 R.2] [.i .i64 R.1,.i .i64 R.2]=some true:=by simp[Nhg,eq1]
 (try rw[Z0]);(try simp(maxSteps:=9^7)(disch:=first|omega|rfl|assumption)only[↓Yaa,Yab,Nae,Naa,rB,rC,rD,rE,reduceIte,unP,rF,g2,kP,g5,g6,kI]);refine NbJ (NaR (NjK hz1 hz2)) gC1 rfl rfl ?_;(try rw[Z0]);(try simp(maxSteps:=9^7)(disch:=first|omega|rfl|assumption)only[↓Yaa,Yab,Nae,Naa,rB,rC,rD,rE,reduceIte,unP,rF,g2,kP,g5,g6,kI]);refine NbJ (NaR (NcN _ _)) gC2 rfl rfl ?_;(try rw[Z0]);(try simp(maxSteps:=9^7)(disch:=first|omega|rfl|assumption)only[↓Yaa,Yab,Nae,Naa,rB,rC,rD,rE,reduceIte,unP,rF,g2,kP,g5,g6,kI,hq]);refine NbJ (show Nbk _ []=some []from rfl) awq rfl rfl ?_
 iterate 2
  (try rw[Z0]);(try simp(maxSteps:=9^7)(disch:=first|omega|rfl|assumption)only[↓Yaa,Yab,Nae,Naa,rB,rC,rD,rE,reduceIte,unP,rF,g2,kP,g5,g6,kI])
 exact⟨nofun,_,rfl,by simp only[Nau,Yad,if_true]⟩
theorem NhH(f:Nat)(cs:List PV)(h:(NkB f).Is cs)(n:Int)(hn:(Lit.int .u8 n).wf=true):∃ fuel,evP cfgRk fuel 7 [.agg cs,.i .u8 n]=some (.b true):=by
 obtain⟨p,rfl,hwf⟩:=Nrr f cs h;refine Njf hwf ?_;simp[Lit.wf,IntKind.min,IntKind.max,IntKind.signed,IntKind.bits]at hn;omega
end Go.Pe
