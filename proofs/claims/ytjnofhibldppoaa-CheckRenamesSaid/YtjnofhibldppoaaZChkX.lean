/-
 Trees: may a program be? No condition.
-/
import Derived.Test.YtjnofhibldppoaaZChkV
set_option linter.unusedVariables false
set_option linter.unusedSimpArgs false
set_option maxHeartbeats 8000000
open Nat renaming reduceAdd → rB,reduceMul → rC,reduceLT → rD,reduceEqDiff → rE,reduceLeDiff → rF
namespace Go.Pe
open Go Go.Am Go.RowKit
def Dc.ok(d:Dc):Bool:=Ngn d.K.toNat d.S d.N d.O
def NmC(ask b r:Bool):Bool:=if b=true then true else if ask=true then !r else false
def Ndj(ask:Bool):List Dc→Bool→Bool
 |[],b=>b
 |d::r,b=>Ndj ask r (NmC ask b d.ok)
def Nhd(ask:Bool):List Td→Nat×Bool→Nat×Bool
 |[],w=>w
 |t::r,w=>Nhd ask r (if NmC ask w.2 (NaJ t.S)=true then(w.1,true)else Sms.walk ask t.B 1 (w.1,false))
def Nef(p:Pg):Bool:=if 64<p.D.length then true else decide (16<p.T.length)
def NhG(ask:Bool)(p:Pg)(n:Nat):Nat×Bool:=Nhd ask p.T (n,Ndj ask p.D (Nef p))
def Tds.size:List Td→Nat
 |[]=>0
 |t::r=>Sms.size t.B+1+Tds.size r
theorem Tds.size_mem:∀ {l:List Td}{t:Td},t∈l→Sms.size t.B+1≤Tds.size l
 |[],_,h=>by simp at h
 |a::r,t,h=>by
   rw[Tds.size];rcases List.mem_cons.1 h with rfl|h
   ·omega
   ·have:=Tds.size_mem h;omega
theorem Tds.len_le:∀ l:List Td,l.length≤Tds.size l
 |[]=>by simp
 |a::r=>by
   have:=Tds.len_le r;rw[Tds.size,List.length_cons];omega
theorem Nje{cfg:Cfg}(hc:CfgV cfg){fuel:Nat}{p:Pg}{ask b0:Bool}{n:Nat}{st:St}{k:Nat}(hfu:Tds.size p.T+p.D.length+30≤fuel)(hk:st.get k=some (.cells (wkC ask (n,b0)) false))(hlt:k<st.cnt)(hn:n+Tds.size p.T+p.D.length<1000000000000000) :
 ∃ r st',Nay cfg (fuel+1) 36 [.ptr k 0,.agg (Pg.cs p)] st=some (r,st')∧(r=.b (!(NhG ask p n).2)∧st'.get k=some (.cells (wkC ask (NhG ask p n)) false)∧Keeps k st st'):=by
 refine Nax (hc.fn _ _ (by kernel_rfl):cfg.fn 36=some m36) ?_;delta m36 Qa Qr Qf Qg Qc Ql Qt Qn Qs Qk Qm Qh Qi Qu Qv Qo Pg.cs;have lD:=NaF p.zd p.D.length (p.D.flatMap Dc.cs);have lT:=NaF p.zt p.T.length (p.T.flatMap Td.cs);have hk':∀ n',St.get ⟨st.sto,n'⟩ k=some (.cells (wkC ask (n,b0)) false):=fun _=>hk;unfold wkC at hk';have hD:=NaM Dc.cs_len p.D;have hT:=NaM Td.cs_len p.T;have hTl:=Tds.len_le p.T;simp only[Naj];(try rw[Z0]);(try simp(disch:=first|omega|rfl|assumption)only[↓Yaa,Yab,Nae,Naa,rB,rC,rD,rE,reduceIte,unP,rF,Nag,Naf]);refine Za (fun x=>∃ K:Nat,x.env.get 0=.ptr k 0∧x.env.get 3=.ptr K 0∧K≠k∧K<x.st.cnt∧x.st.get K=some (.cells [slV p.zd p.D.length (p.D.flatMap Dc.cs),slV p.zt p.T.length (p.T.flatMap Td.cs)] false)∧x.st.get k=some (.cells (wkC ask (n,Nef p)) false)∧Keeps k st x.st) ?_ ?_
 ·unfold Nef wkC;by_cases h1:64<p.D.length
  ·rw[if_pos h1];simp(maxSteps:=300000) (disch:=first|omega|rfl|assumption)only[↓Yaa,Yac,Nae,Naa,rB,rC,rD,rE,reduceIte,unP,Xm,rF,hk',lD,lT];exact⟨_,rfl,by omega,by omega,by rw[Yae Zaa,NaG,Yaf],⟨fun j hj hl=>by rw[Yae (Ne.symm hj),NaG,Yae Zaa];rfl,by simp only[Naz];omega⟩⟩
  ·rw[if_neg h1];by_cases h2:16<p.T.length
   ·rw[show decide (16<p.T.length)=true by simpa using h2];simp(maxSteps:=300000) (disch:=first|omega|rfl|assumption)only[↓Yaa,Yac,Nae,Naa,rB,rC,rD,rE,reduceIte,unP,Xm,rF,hk',lD,lT];exact⟨_,rfl,by omega,by omega,by rw[Yae Zaa,NaG,Yaf],⟨fun j hj hl=>by rw[Yae (Ne.symm hj),NaG,Yae Zaa];rfl,by simp only[Naz];omega⟩⟩
   ·rw[show decide (16<p.T.length)=false by simpa using h2];simp(maxSteps:=300000) (disch:=first|omega|rfl|assumption)only[↓Yaa,Yac,Nae,Naa,rB,rC,rD,rE,reduceIte,unP,Xm,rF,hk',lD,lT];exact⟨_,rfl,by omega,by omega,by rw[Yae Zaa,NaG,Yaf],⟨fun j hj hl=>by rw[Yae (Ne.symm hj),NaG,Yae Zaa];rfl,by simp only[Naz];omega⟩⟩
 rintro⟨env,⟨sto,c⟩⟩ ⟨K,g0,g3,hKk,hKc,kK,kk,kp⟩;simp only at g0 g3 hKc;replace kK:∀ n',St.get ⟨sto,n'⟩ K=some (.cells [slV p.zd p.D.length (p.D.flatMap Dc.cs),slV p.zt p.T.length (p.T.flatMap Td.cs)] false):=fun _=>kK;refine Za (fun x=>x.env.get 0=.ptr k 0∧x.env.get 3=.ptr K 0∧K<x.st.cnt∧x.st.get K=some (.cells [slV p.zd p.D.length (p.D.flatMap Dc.cs),slV p.zt p.T.length (p.T.flatMap Td.cs)] false)∧x.st.get k=some (.cells (wkC ask (n,Ndj ask p.D (Nef p))) false)∧Keeps k st x.st) ?_ ?_
 ·skip
  iterate 2
   (try rw[Z0]);(try simp(disch:=first|omega|rfl|assumption)only[↓Yaa,Yab,Nae,Naa,rB,rC,rD,rE,reduceIte,unP,rF,g0,g3,kK,lD])
  refine Z9 (k:=p.D.length - 0) (fun m x=>∃ (i:Nat) (b:Bool),m=p.D.length - i∧i≤p.D.length∧Ndj ask (p.D.drop i) b=Ndj ask p.D (Nef p)∧x.env.get 0=.ptr k 0∧x.env.get 3=.ptr K 0∧x.env.get 23=slV p.zd p.D.length (p.D.flatMap Dc.cs)∧x.env.get 24=.i .i64 (p.D.length:Int)∧x.env.get 25=.i .i64 (i:Int)∧K<x.st.cnt∧x.st.get K=some (.cells [slV p.zd p.D.length (p.D.flatMap Dc.cs),slV p.zt p.T.length (p.T.flatMap Td.cs)] false)∧x.st.get k=some (.cells (wkC ask (n,b)) false)∧Keeps k st x.st) ?_ ?_ Zaa
  ·clear g0 g3 kK kk kp hKc;rintro m ⟨env,⟨sto,c⟩⟩ ⟨i,b,rfl,hi,hob,g0,g3,g23,g24,g25,hKc,kK,kk,kp⟩;simp only at g0 g3 g23 g24 g25 hKc;have hkc:k<c:=(by have:=kp.c;simp only at this;omega);by_cases hil:i<p.D.length
   ·rw[Nas hil]at g23;obtain⟨e,he⟩:∃ e,p.D[i]=e:=⟨_,rfl⟩;have hld:=fun st=>Nhw (st:=st) hil;simp only[he]at hld;rw[List.drop_eq_getElem_cons hil,he,Ndj]at hob;have kO:∀ (st:St) (key:Nat),Nam (Nak cfg (Nay cfg fuel) 45) false st key [.agg [.i .u8 (e.K.toNat:Int),.s e.S,.i .i64 e.N,.s e.O,.i .i64 e.R]]=some (.b e.ok,st):=fun st key=>by
     obtain⟨q,rfl⟩:∃ q,fuel=q+1:=⟨fuel - 1,by omega⟩;exact NaH (NaR rfl) (Nar hc.x9 rfl (fun _=>rfl) (Nkl hc.toCfgT Zaa)) rfl rfl
    have kk':∀ n',St.get ⟨sto,n'⟩ k=some (.cells [.i .i64 (n:Int),.b ask,.b b] false):=fun _=>kk;have h5:st.cnt≤c:=kp.c;clear hk' hD hT lD lT;cases hb:b with
    |true =>
      rw[hb]at kk'
      iterate 4
       (try rw[Z0]);(try simp(disch:=first|omega|rfl|assumption)only[↓Yaa,Yab,Nae,Naa,rB,rC,rD,rE,reduceIte,unP,rF,g0,g3,g23,g24,g25,hld,kk',kO,Bool.not_true])
      refine⟨NaM Dc.cs_len p.D,p.D.length - (i+1),by omega,i+1,_,rfl,by omega,?_,(Nas hil).symm,rfl,kK,rfl,fun j hj hl=>?_,?_⟩
      ·rw[hb]at hob;exact hob
      ·simp(disch:=omega)only[NaG,NaN];exact kp.g j hj hl
      ·simp only[Naz];omega
    |false =>
      rw[hb]at kk';cases ha:ask with
      |true =>
        rw[ha]at kk'
        iterate 4
         (try rw[Z0]);(try simp(disch:=first|omega|rfl|assumption)only[↓Yaa,Yab,Nae,Naa,rB,rC,rD,rE,reduceIte,unP,rF,g0,g3,g23,g24,g25,hld,kk',kO,Bool.not_true])
        refine⟨NaM Dc.cs_len p.D,p.D.length - (i+1),by omega,i+1,_,rfl,by omega,?_,(Nas hil).symm,rfl,kK,rfl,fun j hj hl=>?_,?_⟩
        ·rw[hb,ha]at hob;exact hob
        ·simp(disch:=omega)only[NaG,NaN];exact kp.g j hj hl
        ·simp only[Naz];omega
      |false =>
        rw[ha]at kk'
        iterate 4
         (try rw[Z0]);(try simp(disch:=first|omega|rfl|assumption)only[↓Yaa,Yab,Nae,Naa,rB,rC,rD,rE,reduceIte,unP,rF,g0,g3,g23,g24,g25,hld,kk',kO,Bool.not_true])
        refine⟨NaM Dc.cs_len p.D,p.D.length - (i+1),by omega,i+1,_,rfl,by omega,?_,(Nas hil).symm,rfl,kK,rfl,fun j hj hl=>?_,?_⟩
        ·rw[hb,ha]at hob;exact hob
        ·simp(disch:=omega)only[NaG,NaN];exact kp.g j hj hl
        ·simp only[Naz];omega
   ·have h0:p.D.drop i=[]:=List.drop_of_length_le Zaa;rw[h0,Ndj]at hob
    iterate 3
     (try rw[Z0]);(try simp(disch:=first|omega|rfl|assumption)only[↓Yaa,Yab,Nae,Naa,rB,rC,rD,rE,reduceIte,unP,rF,g0,g3,g23,g24,g25])
    rw[←hob];exact⟨kK,kk,kp.cnt2 Zaa⟩
  ·exact⟨0,Nef p,rfl,by omega,by rw[List.drop_zero],by simp only[Yad,rE,if_false,g0],by simp only[Yad,rE,if_false,g3],by simp only[Yad,rE,if_false,if_true],by simp only[Yad,rE,if_false,if_true],by simp[Yad],by simp only;omega,kK _,kk,kp.cnt2 Zaa⟩
 clear g0 g3 kK kk kp hKc;rintro⟨env,⟨sto,c⟩⟩ ⟨g0,g3,hKc,kK,kk,kp⟩;simp only at g0 g3 hKc;replace kK:∀ n',St.get ⟨sto,n'⟩ K=some (.cells [slV p.zd p.D.length (p.D.flatMap Dc.cs),slV p.zt p.T.length (p.T.flatMap Td.cs)] false):=fun _=>kK;obtain⟨w0,hw0⟩:∃ w0,(n,Ndj ask p.D (Nef p))=w0:=⟨_,rfl⟩;have hw0n:w0.1=n:=by rw[←hw0]
 have hpw:NhG ask p n=Nhd ask p.T w0:=by rw[←hw0];rfl
 rw[hpw];rw[hw0]at kk;refine Za (fun x=>x.env.get 0=.ptr k 0∧x.st.get k=some (.cells (wkC ask (Nhd ask p.T w0)) false)∧Keeps k st x.st) ?_ ?_
 ·skip
  iterate 2
   (try rw[Z0]);(try simp(disch:=first|omega|rfl|assumption)only[↓Yaa,Yab,Nae,Naa,rB,rC,rD,rE,reduceIte,unP,rF,g0,g3,kK,lT])
  refine Z9 (k:=p.T.length - 0) (fun m x=>∃ (i:Nat) (w':Nat×Bool),m=p.T.length - i∧i≤p.T.length∧Nhd ask (p.T.drop i) w'=Nhd ask p.T w0∧w'.1+Tds.size (p.T.drop i)≤n+Tds.size p.T∧x.env.get 0=.ptr k 0∧x.env.get 49=slV p.zt p.T.length (p.T.flatMap Td.cs)∧x.env.get 50=.i .i64 (p.T.length:Int)∧x.env.get 51=.i .i64 (i:Int)∧x.st.get k=some (.cells (wkC ask w') false)∧Keeps k st x.st) ?_ ?_ Zaa
  ·clear g0 g3 kK kk kp hKc;rintro m ⟨env,⟨sto,c⟩⟩ ⟨i,w',rfl,hi,hob,hwn,g0,g49,g50,g51,kk,kp⟩;simp only at g0 g49 g50 g51;have h5:st.cnt≤c:=kp.c;by_cases hil:i<p.T.length
   ·rw[Nas hil]at g49;obtain⟨e,he⟩:∃ e,p.T[i]=e:=⟨_,rfl⟩;have hld:=fun st=>Nhx (st:=st) hil;simp only[he]at hld;have hdr:=List.drop_eq_getElem_cons hil;rw[he]at hdr;rw[hdr,Nhd]at hob;rw[hdr,Tds.size]at hwn;have hsm:=Tds.size_mem (l:=p.T) (t:=e) (he▸List.getElem_mem hil);have kN:∀ (st:St) (key:Nat),Nam (Nak cfg (Nay cfg fuel) 46) false st key [.s e.S]=some (.b (NaJ e.S),st):=fun st key=>Nal rfl (Nex hc.toCfgC hc.x1 Zaa _) rfl;clear hk' hD lD lT;obtain⟨n1,b1⟩:=w';simp only at hob hwn;have kk':∀ n',St.get ⟨sto,n'⟩ k=some (.cells [.i .i64 (n1:Int),.b ask,.b b1] false):=fun _=>kk
    iterate 3
     (try rw[Z0]);(try simp(disch:=first|omega|rfl|assumption)only[↓Yaa,Yab,Nae,Naa,rB,rC,rD,rE,reduceIte,unP,rF,g0,g49,g50,g51,hld,hT,Nag,Naf])
    (try rw[Z0]);(try simp(disch:=first|omega|rfl|assumption)only[↓Yaa,Yab,Nae,Naa,rB,rC,rD,rE,reduceIte,unP,rF,g49,g51,hld,Nag,Naf]);refine⟨hT,?_⟩;have hkc:k<c:=(by have:=kp.c;simp only at this;omega);have hne:¬ (c+24=k):=(by omega);refine Za (fun x=>x.env.get 0=.ptr k 0∧x.env.get 8=.ptr (c+24) 0∧x.env.get 49=.fsl p.T.length (p.T.flatMap Td.cs)∧x.env.get 50=.i .i64 (p.T.length:Int)∧x.env.get 51=.i .i64 (i:Int)∧x.st.get k=some (.cells [.i .i64 (n1:Int),.b ask,.b (NmC ask b1 (NaJ e.S))] false)∧x.st.get (c+24)=some (.cells [.s e.S,slV e.z e.B.length (Sms.cs e.B),.i .i64 e.R] false)∧Keeps k st x.st∧c+32≤x.st.cnt) ?_ ?_
    ·unfold NmC;cases b1 with
     |true =>
       (try rw[Z0]);(try simp(disch:=first|omega|rfl|assumption)only[↓Yaa,Yab,Nae,Naa,rB,rC,rD,rE,reduceIte,unP,rF,g0,g49,g50,g51,kk',kN,Bool.not_true]);exact⟨fun j hj hl=>by simp(disch:=omega)only[NaG,NaN];exact kp.g j hj hl,by simp only[Naz];omega⟩
     |false =>
       cases ask with
       |true =>
         (try rw[Z0]);(try simp(disch:=first|omega|rfl|assumption)only[↓Yaa,Yab,Nae,Naa,rB,rC,rD,rE,reduceIte,unP,rF,g0,g49,g50,g51,kk',kN,Bool.not_true]);exact⟨fun j hj hl=>by simp(disch:=omega)only[NaG,NaN];exact kp.g j hj hl,by simp only[Naz];omega⟩
       |false =>
         (try rw[Z0]);(try simp(disch:=first|omega|rfl|assumption)only[↓Yaa,Yab,Nae,Naa,rB,rC,rD,rE,reduceIte,unP,rF,g0,g49,g50,g51,kk',kN,Bool.not_true]);exact⟨fun j hj hl=>by simp(disch:=omega)only[NaG,NaN];exact kp.g j hj hl,by simp only[Naz];omega⟩
    ·clear g0 g49 g50 g51 kk kk' kp;obtain⟨b2,hb2⟩:∃ b2,NmC ask b1 (NaJ e.S)=b2:=⟨_,rfl⟩;rw[hb2]at hob ⊢;clear hb2;rintro⟨env,⟨sto,c2⟩⟩ ⟨g0,g8,g49,g50,g51,kk,ke,kp,hc2⟩;simp only at g0 g8 g49 g50 g51 hc2;have kk':∀ n',St.get ⟨sto,n'⟩ k=some (.cells [.i .i64 (n1:Int),.b ask,.b b2] false):=fun _=>kk;have ke':∀ n',St.get ⟨sto,n'⟩ (c+24)=_:=fun _=>ke;cases b2 with
     |true =>
       rw[if_pos rfl]at hob
       iterate 4
        (try rw[Z0]);(try simp(disch:=first|omega|rfl|assumption)only[↓Yaa,Yab,Nae,Naa,rB,rC,rD,rE,reduceIte,unP,rF,g0,g8,g49,g50,g51,kk',Bool.not_true])
       exact⟨p.T.length - (i+1),by omega,i+1,(n1,true),rfl,by omega,hob,by simp only;omega,(Nas hil).symm,rfl,rfl,kp.cnt2 (by have:=kp.c;simp only at this ⊢;omega)⟩
     |false =>
       rw[if_neg Zaf]at hob
       iterate 3
        (try rw[Z0]);(try simp(disch:=first|omega|rfl|assumption)only[↓Yaa,Yab,Nae,Naa,rB,rC,rD,rE,reduceIte,unP,rF,g0,g8,g49,g50,g51,kk',ke',Bool.not_false,hc.y3])
       obtain⟨q,rfl⟩:∃ q,fuel=q+1:=⟨fuel - 1,by omega⟩;refine Nd0 (Nmp hc q e.B e.z 1 ask (n1,false) _ k Zaa (kk' _) Zae Zae Zaa) ?_;rintro r4 ⟨sto6,c6⟩ ⟨kk6,kp6⟩;have hc6:=kp6.c;simp only at hc6;have kpW:Keeps k st ⟨sto6,c6⟩:=kp.then kp6 Zaa;have hwn2:=Sms.walk_n ask e.B 1 (n1,false);refine⟨p.T.length - (i+1),by omega,i+1,_,rfl,by omega,hob,?_,(Nas hil).symm,rfl,kk6,kpW.cnt2 Zae⟩;simp only at hwn2 ⊢;omega
   ·have h0:p.T.drop i=[]:=List.drop_of_length_le Zaa;rw[h0,Nhd]at hob
    iterate 3
     (try rw[Z0]);(try simp(disch:=first|omega|rfl|assumption)only[↓Yaa,Yab,Nae,Naa,rB,rC,rD,rE,reduceIte,unP,rF,g0,g49,g50,g51])
    rw[←hob];exact⟨kk,kp.cnt2 Zaa⟩
  ·exact⟨0,w0,rfl,by omega,by rw[List.drop_zero],by rw[List.drop_zero];omega,by simp only[Yad,rE,if_false,g0],by simp only[Yad,rE,if_false,if_true],by simp only[Yad,rE,if_false,if_true],by simp[Yad],kk,kp.cnt2 Zaa⟩
 clear g0 g3 kK kk kp hKc;rintro⟨env,⟨sto,c⟩⟩ ⟨g0,kk,kp⟩;simp only at g0;unfold wkC at kk ⊢;replace kk:∀ n',St.get ⟨sto,n'⟩ k=_:=fun _=>kk
 iterate 2
  (try rw[Z0]);(try simp(disch:=first|omega|rfl|assumption)only[↓Yaa,Yab,Nae,Naa,rB,rC,rD,rE,reduceIte,unP,rF,g0,kk])
 exact⟨nofun,_,rfl,by simp only[Yad,if_true,Nau],kp.cnt2 (by have:=kp.c;simp only at this ⊢;omega)⟩
end Go.Pe
