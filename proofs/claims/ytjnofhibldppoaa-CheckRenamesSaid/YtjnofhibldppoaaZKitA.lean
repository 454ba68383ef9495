/-
 The kit: is there much of expressions? No condition.
-/
import Derived.Test.YtjnofhibldppoaaZChkMd
import Derived.Test.YtjnofhibldppoaaZPrgB
set_option linter.unusedVariables false
set_option linter.unusedSimpArgs false
set_option maxHeartbeats 8000000
open Nat renaming reduceAdd → rB,reduceMul → rC,reduceLT → rD,reduceEqDiff → rE,reduceLeDiff → rF
namespace Go.Pe
open Go Go.Am Go.RowKit
theorem Nco{α:Type}{f:α→List PV}{w:Nat}(hw:∀ a,(f a).length=w):∀ {l:List α}{i:Nat}(h:i<l.length),(l.flatMap f).drop (i * w)=f l[i]++(l.flatMap f).drop ((i+1) * w)
 |[],i,h=>by simp at h
 |a::r,0,_=>by
   rw[List.flatMap_cons,Nat.zero_mul,List.drop_zero,Nat.zero_add,Nat.one_mul,List.drop_left' (hw a)];rfl
 |a::r,i+1,h=>by
   have e:∀ k,(f a++r.flatMap f).drop ((k+1) * w)=(r.flatMap f).drop (k * w):=fun k=>by
    rw[show(k+1) * w=w+k * w by rw[Nat.add_mul];omega,←List.drop_drop,List.drop_left' (hw a)]
   rw[List.flatMap_cons,e,e,Nco hw (l:=r) (i:=i) (by simpa using h)];rfl
theorem NlX{st:St}{l:List Ex}{i:Nat}(h:i<l.length):NaX st 1 (.fptr (((Exs.cs l).drop (i * 4)).drop 1))=some [.s l[i].S]:=by
 rw[Exs.flat,Nco Ex.cs_len h,Ex.cs_eq];show cut? _ 0 1=_;unfold cut?;rw[if_pos Zaf];rfl
theorem Nij{st:St}{l:List Ex}{i:Nat}(h:i<l.length):NaX st 1 (.fptr (((Exs.cs l).drop (i * 4)).drop 3))=some [slV l[i].z l[i].L.length (Exs.cs l[i].L)]:=by
 rw[Exs.flat,Nco Ex.cs_len h,Ex.cs_eq];show cut? _ 0 1=_;unfold cut?;rw[if_pos Zaf];rfl
theorem Exs.wf_in:∀ {l:List Ex}{e:Ex},Exs.wf l→e∈l→e.L.length≤reachBytes∧Exs.wf e.L
 |[],e,_,h=>by simp at h
 |a::r,e,h,hm=>by
   rw[Exs.wf]at h;rcases List.mem_cons.1 hm with rfl|hm
   ·cases e with
    |mk k s n z l =>
      have:=h.1;rw[Ex.wf]at this;exact⟨this.2.2.1,this.2.2.2⟩
   ·exact Exs.wf_in h.2 hm
mutual
def Ex.hug(many:Int):Ex→Int→Int→Bool×Int
 |.mk k s n z l,lv,c=>if many<c+1 then(true,c+1)else if lv<1 then(true,c+1)else if 1000<s.length then(true,c+1)else Exs.hug many l (lv - 1) (c+1)
def Exs.hug(many:Int):List Ex→Int→Int→Bool×Int
 |[],_,c=>(false,c)
 |e::r,lv,c=>if(e.hug many lv c).1=true then e.hug many lv c else Exs.hug many r lv (e.hug many lv c).2
end
theorem Ex.hug_eq(many:Int)(e:Ex)(lv c:Int):e.hug many lv c=if many<c+1 then(true,c+1)else if lv<1 then(true,c+1)else if 1000<e.S.length then(true,c+1)else Exs.hug many e.L (lv - 1) (c+1):=by
 cases e;rw[Ex.hug];rfl
mutual
theorem Ex.hug_n(many:Int):∀ (e:Ex) (lv c:Int),(e.hug many lv c).1=false→(e.hug many lv c).2=c+e.size∧c+e.size≤many
 |.mk k s n z l,lv,c,h=>by
   rw[Ex.hug]at h ⊢;rw[Ex.size];split at h
   ·simp at h
   ·rename_i h1;rw[if_neg h1];split at h
    ·simp at h
    ·rename_i h2;rw[if_neg h2];split at h
     ·simp at h
     ·rename_i h3;rw[if_neg h3];have:=Exs.hug_n many l (lv - 1) (c+1) Zaa h;omega
theorem Exs.hug_n(many:Int):∀ (l:List Ex) (lv c:Int),c≤many→(Exs.hug many l lv c).1=false→(Exs.hug many l lv c).2=c+Exs.size l∧c+Exs.size l≤many
 |[],lv,c,hc,h=>by rw[Exs.hug,Exs.size];simp;exact hc
 |e::r,lv,c,hc,h=>by
   rw[Exs.hug]at h ⊢;rw[Exs.size];split at h
   ·rename_i h1;rw[h1]at h;cases h
   ·rename_i h1;rw[if_neg h1];have h2:=Ex.hug_n many e lv c (by simpa using h1);have h3:=Exs.hug_n many r lv _ (by rw[h2.1];exact h2.2) h;rw[h2.1]at h3 ⊢;omega
end
theorem NnR{cfg:Cfg}(hc:CfgM cfg)(hx:cfg.ext 35=none){many:Int}(hmany:0≤many∧many≤1000000){kN:Nat}:∀ (fuel:Nat) (l:List Ex) (z:Bool) (lv c:Int) (st:St),Exs.size l+2≤fuel→l.length≤reachBytes→Exs.wf l→0≤lv→lv≤1000→0≤c→c≤many→kN<st.cnt→st.get kN=some (.cells [.i .i64 c] false) →
 ∃ r st',Nay cfg (fuel+1) 35 [slV z l.length (Exs.cs l),.i .i64 lv,.i .i64 many,.ptr kN 0] st=some (r,st')∧(r=.b (Exs.hug many l lv c).1∧st'.get kN=some (.cells [.i .i64 (Exs.hug many l lv c).2] false)∧(∀ j,j<st.cnt→j≠kN→st'.get j=st.get j)∧st.cnt≤st'.cnt):=by
 intro fuel
 induction fuel with
 |zero=>intro l z lv c st h;omega
 |succ q ih =>
   intro l z lv c0 st hfu hlr hwf hl0 hl1 hc0 hc1 hkc hk;refine Nax (hc.fn _ _ (by kernel_rfl):cfg.fn 35=some m35) ?_;delta m35 Qa Qr Qc Ql Qt Qn Qs Qk Qm Qh Qi Qv Qo;have hrb:reachBytes<4611686018427387904:=(by decide);have hll:=Exs.len_le l;have hlv:=NaF z l.length (Exs.cs l);obtain⟨R,hR⟩:∃ R,Exs.hug many l lv c0=R:=⟨_,rfl⟩;rw[hR];simp only[Naj]
   iterate 3
    (try rw[Z0]);(try simp(disch:=first|omega|rfl|assumption)only[↓Yaa,Yab,Nae,Naa,rB,rC,rD,rE,reduceIte,unP,rF,hlv])
   refine Z9 (k:=l.length - 0) (fun m x=>∃ (i:Nat) (c1:Int),m=l.length - i∧i≤l.length∧Exs.hug many (l.drop i) lv c1=R∧0≤c1∧c1≤many∧x.env.get 0=slV z l.length (Exs.cs l)∧x.env.get 1=.i .i64 lv∧x.env.get 2=.i .i64 many∧x.env.get 3=.ptr kN 0∧x.env.get 9=.i .i64 (i:Int)∧st.cnt≤x.st.cnt∧x.st.get kN=some (.cells [.i .i64 c1] false)∧(∀ j,j<st.cnt→j≠kN→x.st.get j=st.get j)) ?_ ?_ Zaa
   ·rintro m ⟨env,⟨sto,c⟩⟩ ⟨i,c1,rfl,hi,hob,hc1a,hc1b,g0,g1,g2,g3,g9,hcc,kk,ko⟩;simp only at g0 g1 g2 g3 g9 hcc;replace kk:∀ n',St.get ⟨sto,n'⟩ kN=_:=fun _=>kk;have hw1:IntKind.i64.wrap (c1+1)=c1+1:=NaD _ ⟨by omega,by omega⟩;have hw2:IntKind.i64.wrap (c1+((1:Nat):Int))=c1+1:=hw1;by_cases hil:i<l.length
    ·rw[Nas hil]at g0 hlv;obtain⟨e,he⟩:∃ e,l[i]=e:=⟨_,rfl⟩;have hS:=fun st=>NlX (st:=st) hil;have hL:=fun st=>Nij (st:=st) hil;simp only[he]at hS hL;have hsz:=Exs.len l;have hel:e.size≤Exs.size l:=Exs.size_mem (he▸List.getElem_mem hil);have hes:=Ex.size_eq e;rw[List.drop_eq_getElem_cons hil,he,Exs.hug]at hob
     iterate 3
      (try rw[Z0]);(try simp(disch:=first|omega|rfl|assumption)only[↓Yaa,Yab,Nae,Naa,rB,rC,rD,rE,reduceIte,unP,rF,g0,g1,g2,g3,g9,kk,hlv,hw1,hw2])
     (try rw[Z0]);(try simp(disch:=first|omega|rfl|assumption)only[↓Yaa,Yab,Nae,Naa,rB,rC,rD,rE,reduceIte,unP,rF,g0,g1,g2,g3,g9,kk,hw1,hw2]);refine NaL (fun x=>x.env.get 0=.fsl l.length (Exs.cs l)∧x.env.get 1=.i .i64 lv∧x.env.get 2=.i .i64 many∧x.env.get 3=.ptr kN 0∧x.env.get 9=.i .i64 (i:Int)∧x.st.get kN=some (.cells [.i .i64 (c1+1)] false)∧st.cnt≤x.st.cnt∧(∀ j,j<st.cnt→j≠kN→x.st.get j=st.get j)) ?_ ?_
     ·exact⟨by simp[Yad,g0],by simp[Yad,g1],by simp[Yad,g2],by simp[Yad,g3],by simp[Yad,g9],by rw[Yaf],by simp only[Naz];omega,fun j hj hn=>by rw[Yae (Ne.symm hn)];exact ko j hj hn⟩
     clear g0 g1 g2 g3 g9 kk ko hcc;rintro⟨env,⟨sto,c⟩⟩ ⟨g0,g1,g2,g3,g9,kk,hcc,ko⟩;simp only at g0 g1 g2 g3 g9 hcc;have kk':∀ n',St.get ⟨sto,n'⟩ kN=_:=fun _=>kk;obtain⟨w,hw⟩:∃ w,e.hug many lv c1=w:=⟨_,rfl⟩;have hn:=Ex.hug_n many e lv c1;rw[hw]at hob hn;have hwe:=Ex.hug_eq many e lv c1;rw[hw]at hwe;refine Za (fun x=>x.env.get 0=.fsl l.length (Exs.cs l)∧x.env.get 1=.i .i64 lv∧x.env.get 2=.i .i64 many∧x.env.get 3=.ptr kN 0∧x.env.get 9=.i .i64 (i:Int)∧x.env.get 51=.b w.1∧x.st.get kN=some (.cells [.i .i64 w.2] false)∧st.cnt≤x.st.cnt∧(∀ j,j<st.cnt→j≠kN→x.st.get j=st.get j)) ?_ ?_
     ·by_cases h1:many<c1+1
      ·rw[if_pos h1]at hwe;rw[hwe];(try rw[Z0]);(try simp(disch:=first|omega|rfl|assumption)only[↓Yaa,Yab,Nae,Naa,rB,rC,rD,rE,reduceIte,unP,rF,g0,g1,g2,g3,g9,kk']);exact ko
      rw[if_neg h1]at hwe;by_cases h2:lv<1
      ·rw[if_pos h2]at hwe;rw[hwe];(try rw[Z0]);(try simp(disch:=first|omega|rfl|assumption)only[↓Yaa,Yab,Nae,Naa,rB,rC,rD,rE,reduceIte,unP,rF,g0,g1,g2,g3,g9,kk']);exact ko
      rw[if_neg h2]at hwe;by_cases h3:1000<e.S.length
      ·rw[if_pos h3]at hwe;rw[hwe];(try rw[Z0]);(try simp(disch:=first|omega|rfl|assumption)only[↓Yaa,Yab,Nae,Naa,rB,rC,rD,rE,reduceIte,unP,rF,g0,g1,g2,g3,g9,kk',hS,hsz]);exact ko
      rw[if_neg h3]at hwe;have hw3:IntKind.i64.wrap (lv - ((1:Nat):Int))=lv - 1:=NaD _ ⟨by omega,by omega⟩;(try rw[Z0]);(try simp(disch:=first|omega|rfl|assumption)only[↓Yaa,Yab,Nae,Naa,rB,rC,rD,rE,reduceIte,unP,rF,g0,g1,g2,g3,g9,kk',hS,hL,hsz,hw3,hx]);have hwf2:=Exs.wf_in hwf (he▸List.getElem_mem hil:e∈l);refine Nd0 (ih e.L e.z (lv - 1) (c1+1) _ Zaa hwf2.1 hwf2.2 Zaa Zaa Zaa Zaa Zae (kk' _)) ?_;rintro r4 ⟨sto6,c6⟩ ⟨rfl,kk6,ko6,hc6⟩;simp only at hc6;rw[←hwe]at kk6 ⊢;exact⟨rfl,kk6,by simp only;omega,fun j hj hn=>(ko6 j Zae hn).trans (ko j hj hn)⟩
     clear g0 g1 g2 g3 g9 kk ko hcc kk';rintro⟨env,⟨sto,c3⟩⟩ ⟨g0,g1,g2,g3,g9,g51,kk,hcc,ko⟩;simp only at g0 g1 g2 g3 g9 g51 hcc;cases hb:w.1 with
     |true =>
       rw[hb,if_pos rfl]at hob;rw[hb]at g51;subst hob
       iterate 4
        (try rw[Z0]);(try simp(disch:=first|omega|rfl|assumption)only[↓Yaa,Yab,Nae,Naa,rB,rC,rD,rE,reduceIte,unP,rF,g0,g1,g2,g3,g9,g51])
       exact⟨nofun,_,rfl,by simp only[Yad,if_true,Nau];rw[hb],kk,ko⟩
     |false =>
       rw[hb,if_neg Zaf]at hob;rw[hb]at g51;have hn2:=hn hb
       iterate 4
        (try rw[Z0]);(try simp(disch:=first|omega|rfl|assumption)only[↓Yaa,Yab,Nae,Naa,rB,rC,rD,rE,reduceIte,unP,rF,g0,g1,g2,g3,g9,g51])
       exact⟨l.length - (i+1),by omega,i+1,w.2,rfl,by omega,hob,by omega,by omega,(Nas hil).symm,rfl,kk,ko⟩
    ·skip
     iterate 4
      (try rw[Z0]);(try simp(disch:=first|omega|rfl|assumption)only[↓Yaa,Yab,Nae,Naa,rB,rC,rD,rE,reduceIte,unP,rF,g0,g1,g2,g3,g9,hlv])
     have h0:l.drop i=[]:=List.drop_of_length_le Zaa;rw[h0,Exs.hug]at hob;exact⟨nofun,_,rfl,by simp only[Nau,Yad,if_true];rw[←hob],by rw[←hob];exact kk _,ko⟩
   ·exact⟨0,c0,rfl,by omega,by rw[List.drop_zero];exact hR,hc0,hc1,rfl,rfl,rfl,rfl,rfl,by simp only;omega,hk,fun j hj hn=>rfl⟩
end Go.Pe
