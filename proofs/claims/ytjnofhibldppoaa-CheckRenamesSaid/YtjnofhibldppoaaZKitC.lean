/-
 The kit: is there much of statements? No condition.
-/
import Derived.Test.YtjnofhibldppoaaZKitA
set_option linter.unusedVariables false
set_option linter.unusedSimpArgs false
open Nat renaming reduceAdd → rB,reduceMul → rC,reduceLT → rD,reduceEqDiff → rE,reduceLeDiff → rF
namespace Go.Pe
open Go Go.Am Go.RowKit
mutual
def Sm.hug(many:Int):Sm→Int→Int→Bool×Int
 |.mk k o j i n za a zb b ze e r,lv,c=>if many<c+1 then(true,c+1)else if lv<1 then(true,c+1)else if 1000<j.length+i.length then(true,c+1)else
  if(Exs.hug many a (lv - 1) (c+1)).1=true then Exs.hug many a (lv - 1) (c+1)else
  if(Sms.hug many b (lv - 1) (Exs.hug many a (lv - 1) (c+1)).2).1=true then Sms.hug many b (lv - 1) (Exs.hug many a (lv - 1) (c+1)).2 else
   Sms.hug many e (lv - 1) (Sms.hug many b (lv - 1) (Exs.hug many a (lv - 1) (c+1)).2).2
def Sms.hug(many:Int):List Sm→Int→Int→Bool×Int
 |[],_,c=>(false,c)
 |e::r,lv,c=>if(e.hug many lv c).1=true then e.hug many lv c else Sms.hug many r lv (e.hug many lv c).2
end
theorem Sm.hug_eq(many:Int)(s:Sm)(lv c:Int):s.hug many lv c=if many<c+1 then(true,c+1)else if lv<1 then(true,c+1)else if 1000<s.J.length+s.I.length then(true,c+1)else
 if(Exs.hug many s.A (lv - 1) (c+1)).1=true then Exs.hug many s.A (lv - 1) (c+1)else
 if(Sms.hug many s.B (lv - 1) (Exs.hug many s.A (lv - 1) (c+1)).2).1=true then Sms.hug many s.B (lv - 1) (Exs.hug many s.A (lv - 1) (c+1)).2 else
  Sms.hug many s.E (lv - 1) (Sms.hug many s.B (lv - 1) (Exs.hug many s.A (lv - 1) (c+1)).2).2:=by
 cases s;rw[Sm.hug];rfl
mutual
theorem Sm.hug_n(many:Int):∀ (s:Sm) (lv c:Int),(s.hug many lv c).1=false→(s.hug many lv c).2=c+s.size∧c+s.size≤many
 |.mk k o j i n za a zb b ze e r,lv,c,h=>by
   rw[Sm.hug]at h ⊢;rw[Sm.size];split at h
   ·simp at h
   rename_i h1;rw[if_neg h1];split at h
   ·simp at h
   rename_i h2;rw[if_neg h2];split at h
   ·simp at h
   rename_i h3;rw[if_neg h3];split at h
   ·rename_i h4;rw[h4]at h;cases h
   rename_i h4;rw[if_neg h4];have e1:=Exs.hug_n many a (lv - 1) (c+1) Zaa (by simpa using h4);split at h
   ·rename_i h5;rw[h5]at h;cases h
   rename_i h5;rw[if_neg h5];have e2:=Sms.hug_n many b (lv - 1) (Exs.hug many a (lv - 1) (c+1)).2 Zaa (by simpa using h5);have e3:=Sms.hug_n many e (lv - 1) (Sms.hug many b (lv - 1) (Exs.hug many a (lv - 1) (c+1)).2).2 Zaa h;omega
theorem Sms.hug_n(many:Int):∀ (l:List Sm) (lv c:Int),c≤many→(Sms.hug many l lv c).1=false→(Sms.hug many l lv c).2=c+Sms.size l∧c+Sms.size l≤many
 |[],lv,c,hc,h=>by rw[Sms.hug,Sms.size];simp;exact hc
 |e::r,lv,c,hc,h=>by
   rw[Sms.hug]at h ⊢;rw[Sms.size];split at h
   ·rename_i h1;rw[h1]at h;cases h
   ·rename_i h1;rw[if_neg h1];have h2:=Sm.hug_n many e lv c (by simpa using h1);have h3:=Sms.hug_n many r lv _ (by rw[h2.1];exact h2.2) h;rw[h2.1]at h3 ⊢;omega
end
theorem Nf3{st:St}{l:List Sm}{i:Nat}(h:i<l.length) :
 NaX st 1 (.fptr (((Sms.cs l).drop (i * 9)).drop 2))=some [.s l[i].J]∧NaX st 1 (.fptr (((Sms.cs l).drop (i * 9)).drop 3))=some [.s l[i].I] ∧
 NaX st 1 (.fptr (((Sms.cs l).drop (i * 9)).drop 5))=some [slV l[i].za l[i].A.length (Exs.cs l[i].A)]∧NaX st 1 (.fptr (((Sms.cs l).drop (i * 9)).drop 6))=some [slV l[i].zb l[i].B.length (Sms.cs l[i].B)] ∧
 NaX st 1 (.fptr (((Sms.cs l).drop (i * 9)).drop 7))=some [slV l[i].ze l[i].E.length (Sms.cs l[i].E)]:=by
 rw[Sms.flat,Nco Sm.cs_len h,Sm.cs_eq];refine⟨?_,?_,?_,?_,?_⟩<;>(show cut? _ 0 1=_;unfold cut?;rw[if_pos Zaf];rfl)
end Go.Pe
set_option maxHeartbeats 8000000
namespace Go.Pe
open Go Go.Am Go.RowKit
theorem Nnf{cfg:Cfg}{callE:CallE}{a b:List MOper}{key:Nat}{c:Loc}{Q:Loc→Prop}:WO cfg callE (a++b) key c Q↔WO cfg callE a key c fun c'=>WO cfg callE b (key+8 * a.length) c' Q:=by
 unfold WO
 induction a generalizing key c with
 |nil=>simp[Na5]
 |cons o a ih =>
   simp only[Zao,Na5,List.length_cons];rw[show key+8 * (a.length+1)=key+8+8 * a.length by omega];cases NaA c o.guard with
   |none=>simp
   |some g =>
     cases g with
     |false=>exact ih
     |true =>
       cases Nap cfg callE c.rd c.st key o.op with
       |none=>simp
       |some p=>exact ih
theorem NmA{cfg:Cfg}{callE:CallE}(n:Nat){l:List MOper}{key:Nat}{c:Loc}{Q:Loc→Prop}(R:Loc→Prop)(hn:n≤l.length)(h:∀ K:Loc→Prop,(∀ c',R c'→K c')→WO cfg callE (l.take n) key c K)(k:∀ c',R c'→WO cfg callE (l.drop n) (key+8 * n) c' Q):WO cfg callE l key c Q:=by
 rw[←List.take_append_drop n l];refine Nnf.2 ?_;rw[List.length_take,Nat.min_eq_left hn];exact h _ k
theorem Sms.wf_in:∀ {l:List Sm}{e:Sm},Sms.wf l→e∈l→e.J.length≤reachBytes∧e.I.length≤reachBytes∧e.A.length≤reachBytes∧e.B.length≤reachBytes∧e.E.length≤reachBytes∧Exs.wf e.A∧Sms.wf e.B∧Sms.wf e.E
 |[],e,_,h=>by simp at h
 |a::r,e,h,hm=>by
   rw[Sms.wf]at h;rcases List.mem_cons.1 hm with rfl|hm
   ·cases e with
    |mk k o j i n za a zb b ze e r =>
      have:=h.1;rw[Sm.wf]at this;exact⟨this.2.2.1,this.2.2.2.1,this.2.2.2.2.1,this.2.2.2.2.2.1,this.2.2.2.2.2.2.1,this.2.2.2.2.2.2.2.1,this.2.2.2.2.2.2.2.2.1,this.2.2.2.2.2.2.2.2.2⟩
   ·exact Sms.wf_in h.2 hm
theorem NnS{cfg:Cfg}(hc:CfgM cfg)(hx:cfg.ext 35=none)(hy:cfg.ext 21=none){many:Int}(hmany:0≤many∧many≤1000000){kN:Nat}:∀ (fuel:Nat) (l:List Sm) (z:Bool) (lv c:Int) (st:St),Sms.size l+2≤fuel→l.length≤reachBytes→Sms.wf l→0≤lv→lv≤1000→0≤c→c≤many→kN<st.cnt→st.get kN=some (.cells [.i .i64 c] false) →
 ∃ r st',Nay cfg (fuel+1) 21 [slV z l.length (Sms.cs l),.i .i64 lv,.i .i64 many,.ptr kN 0] st=some (r,st')∧(r=.b (Sms.hug many l lv c).1∧st'.get kN=some (.cells [.i .i64 (Sms.hug many l lv c).2] false)∧(∀ j,j<st.cnt→j≠kN→st'.get j=st.get j)∧st.cnt≤st'.cnt):=by
 intro fuel
 induction fuel with
 |zero=>intro l z lv c st h;omega
 |succ q ih =>
   intro l z lv c0 st hfu hlr hwf hl0 hl1 hc0 hc1 hkc hk;refine Nax (hc.fn _ _ (by kernel_rfl):cfg.fn 21=some m21) ?_;delta m21 Qa Qr Qc Ql Qt Qn Qs Qk Qm Qh Qi Qv Qo;have hrb:reachBytes<4611686018427387904:=(by decide);have hll:=Sms.len_le l;have hlv:=NaF z l.length (Sms.cs l);obtain⟨R,hR⟩:∃ R,Sms.hug many l lv c0=R:=⟨_,rfl⟩;rw[hR];simp only[Naj]
   iterate 3
    (try rw[Z0]);(try simp(maxSteps:=9^7)(disch:=first|omega|rfl|assumption)only[↓Yaa,Yab,Nae,Naa,rB,rC,rD,rE,reduceIte,unP,rF,hlv])
   refine Z9 (k:=l.length - 0) (fun m x=>∃ (i:Nat) (c1:Int),m=l.length - i∧i≤l.length∧Sms.hug many (l.drop i) lv c1=R∧0≤c1∧c1≤many∧x.env.get 0=slV z l.length (Sms.cs l)∧x.env.get 1=.i .i64 lv∧x.env.get 2=.i .i64 many∧x.env.get 3=.ptr kN 0∧x.env.get 9=.i .i64 (i:Int)∧st.cnt≤x.st.cnt∧x.st.get kN=some (.cells [.i .i64 c1] false)∧(∀ j,j<st.cnt→j≠kN→x.st.get j=st.get j)) ?_ ?_ Zaa
   ·rintro m ⟨env,⟨sto,c⟩⟩ ⟨i,c1,rfl,hi,hob,hc1a,hc1b,g0,g1,g2,g3,g9,hcc,kk,ko⟩;simp only at g0 g1 g2 g3 g9 hcc;replace kk:∀ n',St.get ⟨sto,n'⟩ kN=_:=fun _=>kk;have hw1:IntKind.i64.wrap (c1+1)=c1+1:=NaD _ ⟨by omega,by omega⟩;have hw2:IntKind.i64.wrap (c1+((1:Nat):Int))=c1+1:=hw1;by_cases hil:i<l.length
    ·rw[Nas hil]at g0 hlv;obtain⟨e,he⟩:∃ e,l[i]=e:=⟨_,rfl⟩;have hF:=fun st=>Nf3 (st:=st) hil;simp only[he]at hF;have f2:=fun st=>(hF st).1;have f3:=fun st=>(hF st).2.1;have f5:=fun st=>(hF st).2.2.1;have f6:=fun st=>(hF st).2.2.2.1;have f7:=fun st=>(hF st).2.2.2.2;have hsz:=Sms.len l;have hel:e.size≤Sms.size l:=Sms.size_mem (he▸List.getElem_mem hil);have hes:=Sm.size_eq e;have hwf2:=Sms.wf_in hwf (he▸List.getElem_mem hil:e∈l);rw[List.drop_eq_getElem_cons hil,he,Sms.hug]at hob
     iterate 3
      (try rw[Z0]);(try simp(maxSteps:=9^7)(disch:=first|omega|rfl|assumption)only[↓Yaa,Yab,Nae,Naa,rB,rC,rD,rE,reduceIte,unP,rF,g0,g1,g2,g3,g9,kk,hlv,hw1,hw2])
     (try rw[Z0]);(try simp(maxSteps:=9^7)(disch:=first|omega|rfl|assumption)only[↓Yaa,Yab,Nae,Naa,rB,rC,rD,rE,reduceIte,unP,rF,g0,g1,g2,g3,g9,kk,hw1,hw2]);refine NaL (fun x=>x.env.get 0=.fsl l.length (Sms.cs l)∧x.env.get 1=.i .i64 lv∧x.env.get 2=.i .i64 many∧x.env.get 3=.ptr kN 0∧x.env.get 9=.i .i64 (i:Int)∧x.st.get kN=some (.cells [.i .i64 (c1+1)] false)∧st.cnt≤x.st.cnt∧(∀ j,j<st.cnt→j≠kN→x.st.get j=st.get j)) ?_ ?_
     ·exact⟨by simp[Yad,g0],by simp[Yad,g1],by simp[Yad,g2],by simp[Yad,g3],by simp[Yad,g9],by rw[Yaf],by simp only[Naz];omega,fun j hj hn=>by rw[Yae (Ne.symm hn)];exact ko j hj hn⟩
     clear g0 g1 g2 g3 g9 kk ko hcc;rintro⟨env,⟨sto,c⟩⟩ ⟨g0,g1,g2,g3,g9,kk,hcc,ko⟩;simp only at g0 g1 g2 g3 g9 hcc;have kk':∀ n',St.get ⟨sto,n'⟩ kN=_:=fun _=>kk;obtain⟨w,hw⟩:∃ w,e.hug many lv c1=w:=⟨_,rfl⟩;have hn:=Sm.hug_n many e lv c1;rw[hw]at hob hn;have hwe:=Sm.hug_eq many e lv c1;rw[hw]at hwe;refine Za (fun x=>x.env.get 0=.fsl l.length (Sms.cs l)∧x.env.get 1=.i .i64 lv∧x.env.get 2=.i .i64 many∧x.env.get 3=.ptr kN 0∧x.env.get 9=.i .i64 (i:Int)∧x.env.get 82=.b w.1∧x.st.get kN=some (.cells [.i .i64 w.2] false)∧st.cnt≤x.st.cnt∧(∀ j,j<st.cnt→j≠kN→x.st.get j=st.get j)) ?_ ?_
     ·by_cases h1:many<c1+1
      ·rw[if_pos h1]at hwe;rw[hwe];(try rw[Z0]);(try simp(maxSteps:=9^7)(disch:=first|omega|rfl|assumption)only[↓Yaa,Yab,Nae,Naa,rB,rC,rD,rE,reduceIte,unP,rF,g0,g1,g2,g3,g9,kk']);exact ko
      rw[if_neg h1]at hwe;by_cases h2:lv<1
      ·rw[if_pos h2]at hwe;rw[hwe];(try rw[Z0]);(try simp(maxSteps:=9^7)(disch:=first|omega|rfl|assumption)only[↓Yaa,Yab,Nae,Naa,rB,rC,rD,rE,reduceIte,unP,rF,g0,g1,g2,g3,g9,kk']);exact ko
      rw[if_neg h2]at hwe;have hwJ:IntKind.i64.wrap ((e.J.length:Int)+(e.I.length:Int))=(e.J.length:Int)+(e.I.length:Int):=NaD _ ⟨by omega,by have:=hwf2.1;have:=hwf2.2.1;omega⟩;have hw3:IntKind.i64.wrap (lv - ((1:Nat):Int))=lv - 1:=NaD _ ⟨by omega,by omega⟩;by_cases h3:1000<e.J.length+e.I.length
      ·rw[if_pos h3]at hwe;rw[hwe];(try rw[Z0]);(try simp(maxSteps:=9^7)(disch:=first|omega|rfl|assumption)only[↓Yaa,Yab,Nae,Naa,rB,rC,rD,rE,reduceIte,unP,rF,g0,g1,g2,g3,g9,kk',f2,f3,hsz,hwJ]);exact ko
      rw[if_neg h3]at hwe;rw[Z1];obtain⟨xa,hxa⟩:∃ xa,Exs.hug many e.A (lv - 1) (c1+1)=xa:=⟨_,rfl⟩;have na:=Exs.hug_n many e.A (lv - 1) (c1+1) Zaa;rw[hxa]at hwe na;refine NmA 36 (fun d=>d.env.get 0=.fsl l.length (Sms.cs l)∧d.env.get 1=.i .i64 lv∧d.env.get 2=.i .i64 many∧d.env.get 3=.ptr kN 0∧d.env.get 9=.i .i64 (i:Int)∧d.loc.get 47=.b false∧d.loc.get 57=.b xa.1∧d.st.get kN=some (.cells [.i .i64 xa.2] false)∧st.cnt≤d.st.cnt∧(∀ j,j<st.cnt→j≠kN→d.st.get j=st.get j)) Zaf ?_ ?_
      ·intro K hK;simp(disch:=first|omega|rfl|assumption)only[↓Yaa,Yac,Nae,Naa,rB,rC,rD,rE,reduceIte,unP,Xm,rF,List.take_succ_cons,List.take_zero,g0,g1,g2,g3,g9,kk',f2,f3,f5,hsz,hwJ,hw3,hx];refine Nd0 (NnR hc hx hmany q e.A e.za (lv - 1) (c1+1) _ Zaa hwf2.2.2.1 hwf2.2.2.2.2.2.1 Zaa Zaa Zaa Zaa Zae (kk' _)) ?_;rintro r4 ⟨sto6,c6⟩ ⟨rfl,kk6,ko6,hc6⟩;simp only at hc6;rw[hxa]at kk6 ⊢;exact hK _ ⟨g0,g1,g2,g3,g9,by simp[Yad],by simp[Yad],kk6,by simp only;omega,fun j hj hn=>(ko6 j Zae hn).trans (ko j hj hn)⟩
      clear g0 g1 g2 g3 g9 kk ko hcc kk';rintro⟨env,loc,⟨sto,c⟩⟩ ⟨g0,g1,g2,g3,g9,q47,q57,kk,hcc,ko⟩;simp only at g0 g1 g2 g3 g9 q47 q57 hcc;have kk':∀ n',St.get ⟨sto,n'⟩ kN=_:=fun _=>kk;cases hb1:xa.1 with
      |true =>
        rw[hb1,if_pos rfl]at hwe;rw[hb1]at q57;subst hwe;simp(disch:=first|omega|rfl|assumption)only[↓Yaa,Yac,Nae,Naa,rB,rC,rD,rE,reduceIte,unP,Xm,rF,List.drop_succ_cons,List.drop_zero,g0,g1,g2,g3,g9,q47,q57,kk'];exact⟨by rw[hb1],ko⟩
      |false =>
        rw[hb1,if_neg Zaf]at hwe;rw[hb1]at q57;have na2:=na hb1;obtain⟨xb,hxb⟩:∃ xb,Sms.hug many e.B (lv - 1) xa.2=xb:=⟨_,rfl⟩;have nb:=Sms.hug_n many e.B (lv - 1) xa.2 Zaa;rw[hxb]at hwe nb;refine NmA 12 (fun d=>d.env.get 0=.fsl l.length (Sms.cs l)∧d.env.get 1=.i .i64 lv∧d.env.get 2=.i .i64 many∧d.env.get 3=.ptr kN 0∧d.env.get 9=.i .i64 (i:Int)∧d.loc.get 59=.b false∧d.loc.get 69=.b xb.1∧d.st.get kN=some (.cells [.i .i64 xb.2] false)∧st.cnt≤d.st.cnt∧(∀ j,j<st.cnt→j≠kN→d.st.get j=st.get j)) Zaf ?_ ?_
        ·intro K hK;simp(disch:=first|omega|rfl|assumption)only[↓Yaa,Yac,Nae,Naa,rB,rC,rD,rE,reduceIte,unP,Xm,rF,List.drop_succ_cons,List.drop_zero,List.take_succ_cons,List.take_zero,g0,g1,g2,g3,g9,q47,q57,kk',f6,hsz,hw3,hy];refine Nd0 (ih e.B e.zb (lv - 1) xa.2 _ Zaa hwf2.2.2.2.1 hwf2.2.2.2.2.2.2.1 Zaa Zaa Zaa Zaa Zae (kk' _)) ?_;rintro r4 ⟨sto6,c6⟩ ⟨rfl,kk6,ko6,hc6⟩;simp only at hc6;rw[hxb]at kk6 ⊢;exact hK _ ⟨g0,g1,g2,g3,g9,by simp[Yad],by simp[Yad],kk6,by simp only;omega,fun j hj hn=>(ko6 j Zae hn).trans (ko j hj hn)⟩
        clear g0 g1 g2 g3 g9 kk ko hcc kk' q47 q57;rintro⟨env,loc,⟨sto,c⟩⟩ ⟨g0,g1,g2,g3,g9,q59,q69,kk,hcc,ko⟩;simp only at g0 g1 g2 g3 g9 q59 q69 hcc;have kk':∀ n',St.get ⟨sto,n'⟩ kN=_:=fun _=>kk;cases hb2:xb.1 with
        |true =>
          rw[hb2,if_pos rfl]at hwe;rw[hb2]at q69;subst hwe;simp(disch:=first|omega|rfl|assumption)only[↓Yaa,Yac,Nae,Naa,rB,rC,rD,rE,reduceIte,unP,Xm,rF,List.drop_succ_cons,List.drop_zero,g0,g1,g2,g3,g9,q59,q69,kk'];exact⟨by rw[hb2],ko⟩
        |false =>
          rw[hb2,if_neg Zaf]at hwe;rw[hb2]at q69;have nb2:=nb hb2;simp(disch:=first|omega|rfl|assumption)only[↓Yaa,Yac,Nae,Naa,rB,rC,rD,rE,reduceIte,unP,Xm,rF,List.drop_succ_cons,List.drop_zero,g0,g1,g2,g3,g9,q59,q69,kk',f7,hsz,hw3,hy];refine Nd0 (ih e.E e.ze (lv - 1) xb.2 _ Zaa hwf2.2.2.2.2.1 hwf2.2.2.2.2.2.2.2 Zaa Zaa Zaa Zaa Zae (kk' _)) ?_;rintro r4 ⟨sto6,c6⟩ ⟨rfl,kk6,ko6,hc6⟩;simp only at hc6;rw[←hwe]at kk6 ⊢;exact⟨rfl,kk6,by simp only;omega,fun j hj hn=>(ko6 j Zae hn).trans (ko j hj hn)⟩
     clear g0 g1 g2 g3 g9 kk ko hcc kk';rintro⟨env,⟨sto,c3⟩⟩ ⟨g0,g1,g2,g3,g9,g82,kk,hcc,ko⟩;simp only at g0 g1 g2 g3 g9 g82 hcc;cases hb:w.1 with
     |true =>
       rw[hb,if_pos rfl]at hob;rw[hb]at g82;subst hob
       iterate 4
        (try rw[Z0]);(try simp(maxSteps:=9^7)(disch:=first|omega|rfl|assumption)only[↓Yaa,Yab,Nae,Naa,rB,rC,rD,rE,reduceIte,unP,rF,g0,g1,g2,g3,g9,g82])
       exact⟨nofun,_,rfl,by simp only[Yad,if_true,Nau];rw[hb],kk,ko⟩
     |false =>
       rw[hb,if_neg Zaf]at hob;rw[hb]at g82;have hn2:=hn hb
       iterate 4
        (try rw[Z0]);(try simp(maxSteps:=9^7)(disch:=first|omega|rfl|assumption)only[↓Yaa,Yab,Nae,Naa,rB,rC,rD,rE,reduceIte,unP,rF,g0,g1,g2,g3,g9,g82])
       exact⟨l.length - (i+1),by omega,i+1,w.2,rfl,by omega,hob,by omega,by omega,(Nas hil).symm,rfl,kk,ko⟩
    ·skip
     iterate 4
      (try rw[Z0]);(try simp(maxSteps:=9^7)(disch:=first|omega|rfl|assumption)only[↓Yaa,Yab,Nae,Naa,rB,rC,rD,rE,reduceIte,unP,rF,g0,g1,g2,g3,g9,hlv])
     have h0:l.drop i=[]:=List.drop_of_length_le Zaa;rw[h0,Sms.hug]at hob;exact⟨nofun,_,rfl,by simp only[Nau,Yad,if_true];rw[←hob],by rw[←hob];exact kk _,ko⟩
   ·exact⟨0,c0,rfl,by omega,by rw[List.drop_zero];exact hR,hc0,hc1,rfl,rfl,rfl,rfl,rfl,by simp only;omega,hk,fun j hj hn=>rfl⟩
end Go.Pe
