/-
 Check: what is wrong with a list of statements? No condition.
-/
import Derived.Test.YtjnofhibldppoaaZChkMd
set_option linter.unusedVariables false
set_option linter.unusedSimpArgs false
set_option maxHeartbeats 8000000
open Nat renaming reduceAdd → rB,reduceMul → rC,reduceLT → rD,reduceEqDiff → rE,reduceLeDiff → rF
namespace Go.Pe
open Go Go.Am Go.RowKit
mutual
def Sm.chk(es:List (List UInt8×Nat)):Sm→List (List UInt8)→(Int×Int)×List (List UInt8)
 |.mk k o j i n za a zb b ze e r,ls=>if(NcI es ls (.mk k o j i n za a zb b ze e r)).1=0 then
  (if(Sms.chk es b (NcI es ls (.mk k o j i n za a zb b ze e r)).2).1.1=0 then Sms.chk es e (Sms.chk es b (NcI es ls (.mk k o j i n za a zb b ze e r)).2).2 else Sms.chk es b (NcI es ls (.mk k o j i n za a zb b ze e r)).2)
   else(((NcI es ls (.mk k o j i n za a zb b ze e r)).1,r),(NcI es ls (.mk k o j i n za a zb b ze e r)).2)
def Sms.chk(es:List (List UInt8×Nat)):List Sm→List (List UInt8)→(Int×Int)×List (List UInt8)
 |[],ls=>((0,0),ls)
 |s::t,ls=>if(s.chk es ls).1.1=0 then Sms.chk es t (s.chk es ls).2 else s.chk es ls
end
def inI(es:List (List UInt8×Nat))(s:Sm):Nat→List (List UInt8)→(Int×Int)×List (List UInt8)
 |0,ls=>if(Sms.chk es s.B ls).1.1=0 then Sms.chk es s.E (Sms.chk es s.B ls).2 else Sms.chk es s.B ls
 |1,ls=>Sms.chk es s.E ls
 |_,ls=>((0,0),ls)
theorem Sm.chk_eq(es:List (List UInt8×Nat))(s:Sm)(ls:List (List UInt8)):s.chk es ls=if(NcI es ls s).1=0 then inI es s 0 (NcI es ls s).2 else(((NcI es ls s).1,s.R),(NcI es ls s).2):=by
 cases s;rw[Sm.chk];rfl
mutual
theorem Sm.chk_zero(es:List (List UInt8×Nat)):∀ (s:Sm) (ls:List (List UInt8)),(s.chk es ls).1.1=0→(s.chk es ls).1=(0,0)
 |.mk k o j i n za a zb b ze e r,ls,h=>by
   rw[Sm.chk]at h ⊢;split at h
   ·rename_i h1;rw[if_pos h1];split at h
    ·rename_i h2;rw[if_pos h2];exact Sms.chk_zero es e _ h
    ·rename_i h2;exact absurd h h2
   ·rename_i h1;exact absurd h h1
theorem Sms.chk_zero(es:List (List UInt8×Nat)):∀ (l:List Sm) (ls:List (List UInt8)),(Sms.chk es l ls).1.1=0→(Sms.chk es l ls).1=(0,0)
 |[],ls,h=>by rw[Sms.chk]
 |s::t,ls,h=>by
   rw[Sms.chk]at h ⊢;split at h
   ·rename_i h1;rw[if_pos h1];exact Sms.chk_zero es t _ h
   ·rename_i h1;exact absurd h h1
end
theorem Ncj{x:Now}{t F:Nat}{a b:Int}(h1:x.env.get t=.ptr F 0)(h2:x.st.get F=some (.cells [.i .i64 a,.i .i64 b] false)):mapO (Nej x) [.cell t true 2]=some [.agg [.i .i64 a,.i .i64 b]]:=by
 simp only[mapO,Nej,h1,NbU,h2,NbV];rfl
theorem Nnm{cfg:Cfg}(hc:CfgM cfg){es:List (List UInt8×Nat)}{kp Mk Ml:Nat}(hkl:Ml≠Mk)(hpl:Ml≠kp):∀ (fuel:Nat) (l:List Sm) (z:Bool) (ls:List (List UInt8)) (st:St),Sms.size l+10≤fuel→Sms.size l<1000000000000000→kp<st.cnt→Mk<st.cnt→Ml<st.cnt →
 st.get kp=some (.cells [.mp Mk,.mp Ml] false)→st.get Mk=some (.map (esV es))→st.get Ml=some (.map (lsV ls)) →
 ∃ r st',Nay cfg (fuel+1) 24 [.ptr kp 0,slV z l.length (Sms.cs l)] st=some (r,st')∧(r=.agg [.i .i64 (Sms.chk es l ls).1.1,.i .i64 (Sms.chk es l ls).1.2]∧st'.get Ml=some (.map (lsV (Sms.chk es l ls).2))∧(∀ j,j<st.cnt→j≠Ml→st'.get j=st.get j)∧st.cnt≤st'.cnt):=by
 intro fuel
 induction fuel with
 |zero=>intro l z ls st h;omega
 |succ q ih =>
   intro l z ls st hfu hn hlt hlk hll hk hMk hMl;refine Nax (hc.fn _ _ (by kernel_rfl):cfg.fn 24=some m24) ?_;delta m24 Qa Qr Qg Ql Qt Qn Qk Qm Qi Qo Qw;have hlen:=Sms.len_le l;have hlv:=NaF z l.length (Sms.cs l);obtain⟨R,hR⟩:∃ R,Sms.chk es l ls=R:=⟨_,rfl⟩;rw[hR];simp only[Naj]
   iterate 3
    (try rw[Z0]);(try simp(maxSteps:=9^7)(disch:=first|omega|rfl|assumption)only[↓Yaa,Yab,Nae,Naa,rB,rC,rD,rE,reduceIte,unP,rF,hlv])
   refine Z9 (k:=l.length - 0) (fun m x=>∃ (i:Nat) (l1:List (List UInt8)) (F:Nat),m=l.length - i∧i≤l.length∧Sms.chk es (l.drop i) l1=R∧x.env.get 0=.ptr kp 0∧x.env.get 4=.ptr F 0∧x.env.get 11=slV z l.length (Sms.cs l)∧x.env.get 12=.i .i64 (l.length:Int)∧x.env.get 13=.i .i64 (i:Int)∧st.cnt≤F∧F<x.st.cnt∧x.st.get F=some (.cells [.i .i64 ((0:Nat):Int),.i .i64 ((0:Nat):Int)] false)∧x.st.get Ml=some (.map (lsV l1))∧(∀ j,j<st.cnt→j≠Ml→x.st.get j=st.get j)) ?_ ?_ Zaa
   ·rintro m ⟨env,⟨sto,c⟩⟩ ⟨i,l1,F,rfl,hi,hob,g0,g4,g11,g12,g13,hF,hFc,kF,kL,ko⟩;simp only at g0 g4 g11 g12 g13 hFc;by_cases hil:i<l.length
    ·rw[Nas hil]at g11;have hdr:=List.drop_eq_getElem_cons hil;obtain⟨s,he⟩:∃ s,l[i]=s:=⟨_,rfl⟩;have hld:=fun st=>NeZ (st:=st) hil;simp only[he]at hld;rw[he]at hdr;rw[hdr,Sms.chk]at hob;have hsz:=Sms.len l;have hel:s.size≤Sms.size l:=Sms.size_mem (he▸List.getElem_mem hil);have hes:=Sm.size_eq s;have hlB:=Sms.len_le s.B;have hlE:=Sms.len_le s.E
     iterate 4
      (try rw[Z0]);(try simp(maxSteps:=9^7)(disch:=first|omega|rfl|assumption)only[↓Yaa,Yab,Nae,Naa,rB,rC,rD,rE,reduceIte,unP,rF,g0,g4,g11,g12,g13,hld,hsz,Naf,Nag])
     refine NaL (fun x=>∃ B:Nat,F<B∧x.env.get 0=.ptr kp 0∧x.env.get 4=.ptr F 0∧x.env.get 6=.ptr B 0∧x.env.get 11=.fsl l.length (Sms.cs l)∧x.env.get 12=.i .i64 (l.length:Int)∧x.env.get 13=.i .i64 (i:Int)∧x.st.get B=some (.cells [.i .u8 (s.K.toNat:Int),.i .u8 (s.O.toNat:Int),.s s.J,.s s.I,.i .i64 s.N,slV s.za s.A.length (Exs.cs s.A),slV s.zb s.B.length (Sms.cs s.B),slV s.ze s.E.length (Sms.cs s.E),.i .i64 s.R] false)∧x.st.get F=some (.cells [.i .i64 ((0:Nat):Int),.i .i64 ((0:Nat):Int)] false)∧x.st.get Ml=some (.map (lsV l1))∧(∀ j,j<st.cnt→j≠Ml→x.st.get j=st.get j)∧B<x.st.cnt) ?_ ?_
     ·refine⟨c+24,by omega,by simp[Yad,g0],by simp[Yad,g4],by simp[Yad],by simp[Yad,g11],by simp[Yad,g12],by simp[Yad,g13],by rw[Yaf],?_,?_,fun j hj hm=>?_,by simp only[Naz];omega⟩
      ·simp(disch:=omega)only[NaG,NaN];exact kF
      ·simp(disch:=omega)only[NaG,NaN];exact kL
      ·simp(disch:=omega)only[NaG,NaN];exact ko j hj hm
     clear g0 g4 g11 g12 g13 kF kL ko hFc;rintro⟨env,⟨sto,c2⟩⟩ ⟨B,hFB,g0,g4,g6,g11,g12,g13,kB,kF,kL,ko,hBc⟩;simp only at g0 g4 g6 g11 g12 g13 hBc;have kB':∀ n',St.get ⟨sto,n'⟩ B=_:=fun _=>kB;have kF':∀ n',St.get ⟨sto,n'⟩ F=_:=fun _=>kF;obtain⟨p,hp⟩:∃ p,NcI es l1 s=p:=⟨_,rfl⟩;have hce:=Sm.chk_eq es s l1;rw[hp]at hce;refine NaT (fun x=>p.1=0∧x.env.get 0=.ptr kp 0∧x.env.get 4=.ptr F 0∧x.env.get 6=.ptr B 0∧x.env.get 11=.fsl l.length (Sms.cs l)∧x.env.get 12=.i .i64 (l.length:Int)∧x.env.get 13=.i .i64 (i:Int)∧x.st.get B=some (.cells [.i .u8 (s.K.toNat:Int),.i .u8 (s.O.toNat:Int),.s s.J,.s s.I,.i .i64 s.N,slV s.za s.A.length (Exs.cs s.A),slV s.zb s.B.length (Sms.cs s.B),slV s.ze s.E.length (Sms.cs s.E),.i .i64 s.R] false)∧x.st.get F=some (.cells [.i .i64 ((0:Nat):Int),.i .i64 ((0:Nat):Int)] false)∧x.st.get Ml=some (.map (lsV p.2))∧(∀ j,j<st.cnt→j≠Ml→x.st.get j=st.get j)∧B<x.st.cnt) ?_ ?_
     ·intro K hK;(try rw[Z0]);(try simp(maxSteps:=9^7)(disch:=first|omega|rfl|assumption)only[↓Yaa,Yab,Nae,Naa,rB,rC,rD,rE,reduceIte,unP,rF,g0,g4,g6,g11,g12,g13,kB',hc.z3]);obtain⟨q2,rfl⟩:∃ q2,q=q2+1:=⟨q - 1,by omega⟩;have hst:=Noz hc (es:=es) (ls:=l1) (kp:=kp) (Mk:=Mk) (Ml:=Ml) (q:=q2) (s:=s) (st:=⟨sto,c2+32⟩) Zaa Zaa Zae Zae Zae hkl hpl ((ko kp hlt (Ne.symm hpl)).trans hk) ((ko Mk hlk (Ne.symm hkl)).trans hMk) kL;rw[Sm.cs_eq,hp]at hst;refine Nd0 hst ?_;rintro r1 ⟨sto1,c1⟩ ⟨rfl,kL1,kj,hc1⟩;simp only at hc1 kj;by_cases h0:p.1=0
      ·have b0:(p.1 != Int.ofNat 0)=false:=by rw[h0];rfl
       iterate 3
        (try rw[Z0]);(try simp(maxSteps:=9^7)(disch:=first|omega|rfl|assumption)only[↓Yaa,Yab,Nae,Naa,rB,rC,rD,rE,reduceIte,unP,rF,g0,g4,g6,g11,g12,g13,b0])
       refine hK _ ⟨h0,by simp[Yad,g0],by simp[Yad,g4],by simp[Yad,g6],by simp[Yad,g11],by simp[Yad,g12],by simp[Yad,g13],(kj B Zaa Zaa).trans kB,(kj F Zaa Zaa).trans kF,kL1,fun j hj hm=>(kj j Zaa hm).trans (ko j hj hm),by simp only;omega⟩
      ·have b0:(p.1 != Int.ofNat 0)=true:=(by simpa using h0);have kB1:∀ n',St.get ⟨sto1,n'⟩ B=_:=fun n'=>(kj B Zaa Zaa).trans kB;have kF1:∀ n',St.get ⟨sto1,n'⟩ F=_:=fun n'=>(kj F Zaa Zaa).trans kF;rw[if_neg h0]at hce
       iterate 3
        (try rw[Z0]);(try simp(maxSteps:=9^7)(disch:=first|omega|rfl|assumption)only[↓Yaa,Yab,Nae,Naa,rB,rC,rD,rE,reduceIte,unP,rF,g0,g4,g6,g11,g12,g13,b0,kB1,kF1])
       rw[hce]at hob;rw[if_neg h0]at hob;subst hob;exact⟨nofun,_,Ncj (by simp only[Yad,rE,if_false];exact g4) (by rw[Yaf]),rfl,kL1,fun j hj hm=>by rw[Yae Zaa];exact(kj j Zaa hm).trans (ko j hj hm)⟩
     clear g0 g4 g6 g11 g12 g13 kB kF kL ko hBc kB' kF';rintro⟨env,⟨sto,c3⟩⟩ ⟨hp0,g0,g4,g6,g11,g12,g13,kB,kF,kL,ko,hBc⟩;simp only at g0 g4 g6 g11 g12 g13 hBc;have kB':∀ n',St.get ⟨sto,n'⟩ B=_:=fun _=>kB;rw[if_pos hp0]at hce;rw[hce]at hob
     iterate 2
      (try rw[Z0]);(try simp(maxSteps:=9^7)(disch:=first|omega|rfl|assumption)only[↓Yaa,Yab,Nae,Naa,rB,rC,rD,rE,reduceIte,unP,rF,g0,g4,g6,g11,g12,g13,kB',Nag,Naf])
     refine Z9 (k:=2 - 0) (fun m x=>∃ (u:Nat) (l2:List (List UInt8)),m=2 - u∧u≤2∧inI es s u l2=inI es s 0 p.2∧x.env.get 0=.ptr kp 0∧x.env.get 4=.ptr F 0∧x.env.get 11=.fsl l.length (Sms.cs l)∧x.env.get 12=.i .i64 (l.length:Int)∧x.env.get 13=.i .i64 (i:Int)∧x.env.get 30=.agg [slV s.zb s.B.length (Sms.cs s.B),slV s.ze s.E.length (Sms.cs s.E)]∧x.env.get 31=.i .i64 (u:Int)∧x.st.get F=some (.cells [.i .i64 ((0:Nat):Int),.i .i64 ((0:Nat):Int)] false)∧x.st.get Ml=some (.map (lsV l2))∧(∀ j,j<st.cnt→j≠Ml→x.st.get j=st.get j)∧F<x.st.cnt) ?_ ?_ Zaa
     ·clear g0 g4 g6 g11 g12 g13 kB kF kL ko hBc kB';rintro m ⟨env,⟨sto,c⟩⟩ ⟨u,l2,rfl,hu,hin,g0,g4,g11,g12,g13,g30,g31,kF,kL,ko,hFc⟩;simp only at g0 g4 g11 g12 g13 g30 g31 hFc;have kF':∀ n',St.get ⟨sto,n'⟩ F=_:=fun _=>kF;have h20:u=0∨u=1∨u=2:=(by omega);rcases h20 with rfl|rfl|rfl
      ·skip
       iterate 4
        (try rw[Z0]);(try simp(maxSteps:=9^7)(disch:=first|omega|rfl|assumption)only[↓Yaa,Yab,Nae,Naa,rB,rC,rD,rE,reduceIte,unP,rF,g0,g4,g11,g12,g13,g30,g31])
       (try rw[Z0]);(try simp(maxSteps:=9^7)(disch:=first|omega|rfl|assumption)only[↓Yaa,Yab,Nae,Naa,rB,rC,rD,rE,reduceIte,unP,rF,g0,g4,g11,g12,g13,g30,g31,hc.z4]);refine Nd0 (ih s.B s.zb l2 _ Zaa Zaa Zae Zae Zae ((ko kp hlt (Ne.symm hpl)).trans hk) ((ko Mk hlk (Ne.symm hkl)).trans hMk) kL) ?_;rintro r1 ⟨sto1,c1⟩ ⟨rfl,kL1,kj,hc1⟩;simp only at hc1 kj;have hz:=Sms.chk_zero es s.B l2;obtain⟨w,hw⟩:∃ w,Sms.chk es s.B l2=w:=⟨_,rfl⟩;rw[hw]at kL1 hz;rw[hw];have kF1:∀ n',St.get ⟨sto1,n'⟩ F=_:=fun n'=>(kj F Zaa Zaa).trans kF;by_cases h0:w.1.1=0
       ·have b0:(w.1.1 != Int.ofNat 0)=false:=by rw[h0];rfl
        iterate 4
         (try rw[Z0]);(try simp(maxSteps:=9^7)(disch:=first|omega|rfl|assumption)only[↓Yaa,Yab,Nae,Naa,rB,rC,rD,rE,reduceIte,unP,rF,g0,g4,g11,g12,g13,g30,g31,b0])
        exact⟨2 - (0+1),by omega,1,w.2,rfl,by omega,by rw[←hin,inI,inI,hw,if_pos h0],rfl,kF1 _,kL1,fun j hj hm=>by simp(disch:=omega)only[NaG,NaN];exact(kj j Zaa hm).trans (ko j hj hm)⟩
       ·have b0:(w.1.1 != Int.ofNat 0)=true:=by simpa using h0
        iterate 4
         (try rw[Z0]);(try simp(maxSteps:=9^7)(disch:=first|omega|rfl|assumption)only[↓Yaa,Yab,Nae,Naa,rB,rC,rD,rE,reduceIte,unP,rF,g0,g4,g11,g12,g13,g30,g31,b0,kF1])
        have hRw:w=R:=(by rw[←hin,inI,hw,if_neg h0,if_neg h0]at hob;exact hob);subst hRw;exact⟨nofun,_,Ncj (by simp only[Yad,rE,if_false];exact g4) (by rw[Yaf]),rfl,kL1,fun j hj hm=>by simp(disch:=omega)only[NaG,NaN];exact(kj j Zaa hm).trans (ko j hj hm)⟩
      ·skip
       iterate 4
        (try rw[Z0]);(try simp(maxSteps:=9^7)(disch:=first|omega|rfl|assumption)only[↓Yaa,Yab,Nae,Naa,rB,rC,rD,rE,reduceIte,unP,rF,g0,g4,g11,g12,g13,g30,g31])
       (try rw[Z0]);(try simp(maxSteps:=9^7)(disch:=first|omega|rfl|assumption)only[↓Yaa,Yab,Nae,Naa,rB,rC,rD,rE,reduceIte,unP,rF,g0,g4,g11,g12,g13,g30,g31,hc.z4]);refine Nd0 (ih s.E s.ze l2 _ Zaa Zaa Zae Zae Zae ((ko kp hlt (Ne.symm hpl)).trans hk) ((ko Mk hlk (Ne.symm hkl)).trans hMk) kL) ?_;rintro r1 ⟨sto1,c1⟩ ⟨rfl,kL1,kj,hc1⟩;simp only at hc1 kj;have hz:=Sms.chk_zero es s.E l2;obtain⟨w,hw⟩:∃ w,Sms.chk es s.E l2=w:=⟨_,rfl⟩;rw[hw]at kL1 hz;rw[hw];have kF1:∀ n',St.get ⟨sto1,n'⟩ F=_:=fun n'=>(kj F Zaa Zaa).trans kF;by_cases h0:w.1.1=0
       ·have b0:(w.1.1 != Int.ofNat 0)=false:=by rw[h0];rfl
        iterate 4
         (try rw[Z0]);(try simp(maxSteps:=9^7)(disch:=first|omega|rfl|assumption)only[↓Yaa,Yab,Nae,Naa,rB,rC,rD,rE,reduceIte,unP,rF,g0,g4,g11,g12,g13,g30,g31,b0])
        exact⟨2 - (1+1),by omega,2,w.2,rfl,by omega,by rw[←hin];show((0,0),w.2)=Sms.chk es s.E l2;rw[hw,←hz h0],rfl,kF1 _,kL1,fun j hj hm=>by simp(disch:=omega)only[NaG,NaN];exact(kj j Zaa hm).trans (ko j hj hm)⟩
       ·have b0:(w.1.1 != Int.ofNat 0)=true:=by simpa using h0
        iterate 4
         (try rw[Z0]);(try simp(maxSteps:=9^7)(disch:=first|omega|rfl|assumption)only[↓Yaa,Yab,Nae,Naa,rB,rC,rD,rE,reduceIte,unP,rF,g0,g4,g11,g12,g13,g30,g31,b0,kF1])
        have hRw:w=R:=(by rw[←hin,inI,hw,if_neg h0]at hob;exact hob);subst hRw;exact⟨nofun,_,Ncj (by simp only[Yad,rE,if_false];exact g4) (by rw[Yaf]),rfl,kL1,fun j hj hm=>by simp(disch:=omega)only[NaG,NaN];exact(kj j Zaa hm).trans (ko j hj hm)⟩
      ·skip
       iterate 6
        (try rw[Z0]);(try simp(maxSteps:=9^7)(disch:=first|omega|rfl|assumption)only[↓Yaa,Yab,Nae,Naa,rB,rC,rD,rE,reduceIte,unP,rF,g0,g4,g11,g12,g13,g30,g31])
       have hin2:inI es s 0 p.2=((0,0),l2):=hin.symm;rw[hin2,if_pos rfl]at hob;exact⟨l.length - (i+1),by omega,i+1,l2,F,rfl,by omega,hob,rfl,(Nas hil).symm,rfl,hF,by omega,kF' _,kL,ko⟩
     ·exact⟨0,p.2,rfl,by omega,rfl,by simp[Yad,g0],by simp[Yad,g4],by simp[Yad,g11],by simp[Yad,g12],by simp[Yad,g13],by simp[Yad],by simp[Yad],kF,kL,ko,by simp only;omega⟩
    ·have h0:l.drop i=[]:=List.drop_of_length_le Zaa;rw[h0,Sms.chk]at hob;replace kF:∀ n',St.get ⟨sto,n'⟩ F=_:=fun _=>kF
     iterate 4
      (try rw[Z0]);(try simp(maxSteps:=9^7)(disch:=first|omega|rfl|assumption)only[↓Yaa,Yab,Nae,Naa,rB,rC,rD,rE,reduceIte,unP,rF,g0,g4,g12,g13,kF])
     subst hob;exact⟨nofun,_,Ncj (by simp only[Yad,rE,if_false];exact g4) (a:=0) (b:=0) (by rw[Yaf];rfl),rfl,kL,fun j hj hm=>by rw[Yae Zaa];exact ko j hj hm⟩
   ·exact⟨0,ls,st.cnt,rfl,by omega,by rw[List.drop_zero];exact hR,by simp[Yad],by simp[Yad],by simp[Yad],by simp[Yad],by simp[Yad],by omega,by simp only;omega,by rw[NaG,Yaf],by simp(disch:=omega)only[NaG,NaN];exact hMl,fun j hj hm=>by simp(disch:=omega)only[NaG,NaN]⟩
end Go.Pe
