/-
 The kit: copies of expressions: walked. No condition.
-/
import Derived.Test.YtjnofhibldppoaaZPe8
import Derived.Test.YtjnofhibldppoaaZLstA
import Derived.Test.YtjnofhibldppoaaZRigP
set_option linter.unusedVariables false
set_option linter.unusedSimpArgs false
open Nat renaming reduceAdd → rB,reduceMul → rC,reduceLT → rD,reduceEqDiff → rE,reduceLeDiff → rF
namespace Go.Pe
open Go Go.Am Go.RowKit
def frzV:PV→PV
 |.osl _ n cs=>.fsl n cs
 |p=>p
theorem Ney{P:Program}{Gl:Gmap}{f:FuncId}{g:List PV→Option PV}(h:Nbc P Gl f g):Nbc P Gl f fun args=>(g args).map frzV:=by
 intro args r hr F w base vs gv h1 h2 h3 h4;obtain⟨r0,hg,rfl⟩:=Option.map_eq_some_iff.1 hr;refine(h args r0 hg F w base vs gv h1 h2 h3 h4).mono ?_;rintro e w' ⟨v,F',he,a1,a2,a3,a4,a5,a6,a7,a8,hrr⟩;cases r0 with
 |osl sz n cs =>
   obtain⟨blk,hA,size,cap,cur,ty,m,rfl,b1,b2,b3,b4,b5,b6,b7,b8,b9,b10,b11⟩:=hrr;have hlen:(cur.toList.take cs.length).length=cs.length:=b9.1;have hcs:cs.length≤cur.size:=(by rw[b7];exact b8);refine⟨_,fun b o=>if b=blk then(if o<cs.length then cur[o]? else none)else F' b o,he,fun b o u hu=>?_,fun b o u hu=>?_,a3,a4,a5,a6,a7,fun b o u hu=>?_,?_⟩
   ·have hu':=a1 b o u hu;by_cases hb:b=blk
    ·rw[hb,b10 o]at hu';cases hu'
    ·simp only[if_neg hb];exact hu'
   ·by_cases hb:b=blk
    ·simp only[if_pos hb]at hu;split at hu
     ·subst hb;simp[World.cell?,b5,hu]
     ·cases hu
    ·simp only[if_neg hb]at hu;exact a2 b o u hu
   ·by_cases hb:b=blk
    ·subst hb;exact Or.inr hA
    ·simp only[if_neg hb]at hu;exact a8 b o u hu
   ·show FRel _ _ (.fsl n cs);refine .fsl blk 0 n cap cs (fun i=>cur[i]?.getD (.bool false)) b1 b2 (fun i hi=>?_) (fun i p hp=>?_)
    ·simp only[if_true,Nat.zero_add,if_pos hi];rw[Array.getElem?_eq_getElem Zaa];rfl
    ·have hi:i<cs.length:=(List.getElem?_eq_some_iff.1 hp).1;refine FRel.mono (F:=F') (fun b o u hu=>?_) (b9.2 i _ p ?_ hp)
     ·by_cases hb:b=blk
      ·rw[hb,b10 o]at hu;cases hu
      ·simp only[if_neg hb];exact hu
     ·rw[List.getElem?_take,if_pos hi,Array.getElem?_toList,Array.getElem?_eq_getElem Zaa];rfl
 |_=>exact⟨v,F',he,a1,a2,a3,a4,a5,a6,a7,a8,hrr⟩
end Go.Pe
set_option maxHeartbeats 8000000
namespace Go.Pe
open Go Go.Am Go.RowKit
mutual
def Ex.cp:Ex→Ex
 |.mk k s n z l=>.mk k s n true (Exs.cp l)
def Exs.cp:List Ex→List Ex
 |[]=>[]
 |e::r=>e.cp::Exs.cp r
end
theorem Ex.cp_cs(e:Ex):e.cp.cs=[.i .u8 (e.K.toNat:Int),.s e.S,.i .i64 e.N,slV true (Exs.cp e.L).length (Exs.cs (Exs.cp e.L))]:=by
 cases e;rw[Ex.cp,Ex.cs];rfl
theorem Exs.cp_len:∀ l:List Ex,(Exs.cp l).length=l.length
 |[]=>by rw[Exs.cp]
 |e::r=>by rw[Exs.cp,List.length_cons,List.length_cons,Exs.cp_len r]
def nrm:PV→PV
 |.fsl n cs=>if n=0 then .nsl else .fsl n (nrms cs)
 |v=>v
where nrms:List PV→List PV
 |[]=>[]
 |c::r=>nrm c::nrms r
theorem NdG:∀ a b:List PV,nrm.nrms (a++b)=nrm.nrms a++nrm.nrms b
 |[],b=>by rw[nrm.nrms];rfl
 |c::r,b=>by rw[Zao,nrm.nrms,nrm.nrms,NdG r b];rfl
mutual
theorem Ex.nrm_cs:∀ e:Ex,nrm.nrms e.cs=e.cp.cs
 |.mk k s n z l=>by
   rw[Ex.cp,Ex.cs,Ex.cs];have h:=Exs.nrm_sl z l;rw[nrm.nrms,nrm.nrms,nrm.nrms,nrm.nrms,nrm.nrms,h];rw[nrm,nrm,nrm]<;>(intro _ _ h;cases h)
theorem Exs.nrm_cs:∀ l:List Ex,nrm.nrms (Exs.cs l)=Exs.cs (Exs.cp l)
 |[]=>by rw[Exs.cs,nrm.nrms,Exs.cp,Exs.cs]
 |e::r=>by rw[Exs.cs,NdG,Ex.nrm_cs e,Exs.nrm_cs r,Exs.cp,Exs.cs]
theorem Exs.nrm_sl:∀ (z:Bool) (l:List Ex),nrm (slV z l.length (Exs.cs l))=slV true (Exs.cp l).length (Exs.cs (Exs.cp l))
 |z,[]=>by
   rw[Exs.cp];cases z
   ·rfl
   ·rfl
 |z,e::r=>by
   have h1:slV z (e::r).length (Exs.cs (e::r))=.fsl (e::r).length (Exs.cs (e::r)):=Nas (i:=0) Zaf;have h2:slV true (Exs.cp (e::r)).length (Exs.cs (Exs.cp (e::r)))=.fsl (Exs.cp (e::r)).length (Exs.cs (Exs.cp (e::r))):=Nas (i:=0) (by rw[Exs.cp];simp);have h3:nrm.nrms (Exs.cs (e::r))=Exs.cs (Exs.cp (e::r)):=(by rw[Exs.cs,NdG,Ex.nrm_cs e,Exs.nrm_cs r,Exs.cp,Exs.cs]);rw[h1,h2,nrm,if_neg Zaf,h3,Exs.cp_len]
end
theorem Exs.cs_app(a b:List Ex):Exs.cs (a++b)=Exs.cs a++Exs.cs b:=by
 rw[Exs.flat,Exs.flat,Exs.flat,List.flatMap_append]
theorem Exs.cp_at:∀ (l:List Ex) (i:Nat) (h:i<l.length),Exs.cs ((Exs.cp l).take (i+1))=Exs.cs ((Exs.cp l).take i)++l[i].cp.cs
 |e::r,0,_=>by
   rw[Exs.cp,List.take_zero,List.take_succ_cons,List.take_zero,Exs.cs];simp[Exs.cs]
 |e::r,i+1,h=>by
   rw[Exs.cp,List.take_succ_cons,List.take_succ_cons,Exs.cs,Exs.cs,Exs.cp_at r i (by simpa using h),List.append_assoc];rfl
theorem Nnt(l:List Ex):(Exs.cs l).all PV.flat=true:=by
 rw[Exs.flat,List.all_eq_true];intro p hp;obtain⟨e,-,he⟩:=List.mem_flatMap.1 hp;rw[Ex.cs_eq]at he;simp only[List.mem_cons,List.not_mem_nil,or_false]at he;rcases he with rfl|rfl|rfl|rfl<;>first|rfl|exact Nbr _ _ _
theorem Nln{cfg:Cfg}(hf:cfg.fn 44=some m44){fuel:Nat}{l:List Ex}{z:Bool}{st:St}(hfu:l.length+2≤fuel)(hl:l.length≤100000)
 (hK:∀ e∈l,Nak cfg (Nay cfg fuel) 44 [slV e.z e.L.length (Exs.cs e.L)]=some (slV true (Exs.cp e.L).length (Exs.cs (Exs.cp e.L)))) :
 ∃ r st',Nay cfg (fuel+1) 44 [slV z l.length (Exs.cs l)] st=some (r,st')∧(Own st' 4 r l.length (Exs.cs (Exs.cp l))∧(l=[]→r=.nsl)):=by
 refine Nax hf ?_;delta m44 Qa Qr Qg Ql Qt Qn Qk Qm Qi Qo Qw;have hlv:=NaF z l.length (Exs.cs l);have hsz:=Exs.len l;obtain⟨sto0,c0⟩:=st;obtain⟨X,hX⟩:∃ X:PV→St→Prop,X=fun r st'=>(Own st' 4 r l.length (Exs.cs (Exs.cp l))∧(l=[]→r=.nsl)):=⟨_,rfl⟩
 simp only[show ∀ r st',(Own st' 4 r l.length (Exs.cs (Exs.cp l))∧(l=[]→r=.nsl))=X r st' from fun _ _=>by rw[hX]];simp only[Naj]
 iterate 4
  (try rw[Z0]);(try simp(maxSteps:=9^7)(disch:=first|omega|rfl|assumption)only[↓Yaa,Yab,Nae,Naa,rB,rC,rD,rE,reduceIte,unP,rF])
 refine Z9 (k:=l.length - 0) (fun m x=>∃ (i:Nat) (v:PV),m=l.length - i∧x.env.get 0=slV z l.length (Exs.cs l)∧x.env.get 3=v∧x.env.get 4=.i .i64 (i:Int)∧(i≤l.length)∧(Own x.st 4 v i (Exs.cs ((Exs.cp l).take i)))∧(i=0→v=.nsl)) ?_ ?_ Zaa
 ·skip
  rintro m ⟨env,⟨sto,c⟩⟩ ⟨i,v,rfl,g0,g3,g4,hi,ho,hz⟩;try simp only at g0 g3 g4 ho
  by_cases hil:i<l.length
  ·rw[Nas hil]at g0 hlv;obtain⟨e,he⟩:∃ e,l[i]=e:=⟨_,rfl⟩;have hld:=fun st=>NeY (st:=st) hil;simp only[he]at hld;have gK:∀ (st:St) (key:Nat),Nam (Nak cfg (Nay cfg fuel) 44) false st key [slV e.z e.L.length (Exs.cs e.L)]=some (slV true (Exs.cp e.L).length (Exs.cs (Exs.cp e.L)),st):=fun st key =>
    Nal Zam (hK e (he▸List.getElem_mem hil)) (by unfold slV;split<;>rfl)
   iterate 4
    (try rw[Z0]);(try simp(maxSteps:=9^7)(disch:=first|omega|rfl|assumption)only[↓Yaa,Yab,Nae,Naa,rB,rC,rD,rE,reduceIte,unP,rF,g0,g3,g4,hlv,hsz,hld,Nag,Naf])
   have lv:∀ q,q∈keyOf v→q<c:=fun q hq=>ho.lt q hq;have hv1:v.one=true:=(Nb2 ho).2;have hvc:v.cells=[v]:=(Nb2 ho).1;refine NaL (fun x=>∃ (B:Nat),B<x.st.cnt∧x.env.get 0=.fsl l.length (Exs.cs l)∧x.env.get 3=v∧x.env.get 4=.i .i64 (i:Int)∧x.env.get 5=.ptr B 0∧x.st.get B=some (.cells [.i .u8 (e.K.toNat:Int),.s e.S,.i .i64 e.N,slV e.z e.L.length (Exs.cs e.L)] false)∧(Own x.st 4 v i (Exs.cs ((Exs.cp l).take i)))∧((∀ q,q∈keyOf v→q<B))) ?_ ?_
   ·refine⟨c+64,Zab,?_,?_,?_,?_,(by rw[Yaf]),(ho.move Zai fun q hq _=>by have:=lv q hq;simp(disch:=omega)only[NaG,NaN];rfl),(fun q hq=>by have:=lv q hq;omega)⟩<;>first|with_reducible rfl|with_reducible assumption|(simp[Yad,g0,g3,g4]<;>omega)
   clear g0 g3 g4 ho;rintro⟨env,⟨sto,c⟩⟩ ⟨B,bB,g0,g3,g4,g5,kB,ho,kv⟩;try simp only at bB g0 g3 g4 g5 ho
   replace kB:∀ n',St.get ⟨sto,n'⟩ B=some (.cells [.i .u8 (e.K.toNat:Int),.s e.S,.i .i64 e.N,slV e.z e.L.length (Exs.cs e.L)] false):=fun _=>kB;(try rw[Z0]);(try simp(maxSteps:=9^7)(disch:=first|omega|rfl|assumption)only[↓Yaa,Yab,Nae,Naa,rB,rC,rD,rE,reduceIte,unP,rF,g0,g3,g4,g5,kB,gK,Nag,Naf,hv1,hvc,Nc5,List.length_cons,List.length_nil]);(try rw[Z0]);(try simp(maxSteps:=9^7)(disch:=first|omega|rfl|assumption)only[↓Yaa,Yab,Nae,Naa,rB,rC,rD,rE,reduceIte,unP,rF,g0,g3,g4,g5,kB,Nag,Naf,hv1,hvc,Nc5,List.length_cons,List.length_nil]);rw[←Ex.cp_cs];refine NfK (n:=i) (cs:=Exs.cs ((Exs.cp l).take i)) (news:=e.cp.cs) (m:=1) (ho.move Zai fun q hq _=>by have:=kv q hq;simp(disch:=omega)only[NaG,NaN];rfl) Zai (fun h=>by have:=kv _ h;omega) (by rw[Ex.cp_cs];rfl) Zaa (by unfold maxBytes;omega) ?_;rintro v' ⟨sto',c'⟩ hown hcnt hkey hj;simp only[Naz]at hcnt;subst hcnt;rw[←he,←Exs.cp_at l i hil]at hown
   iterate 2
    (try rw[Z0]);(try simp(maxSteps:=9^7)(disch:=first|omega|rfl|assumption)only[↓Yaa,Yab,Nae,Naa,rB,rC,rD,rE,reduceIte,unP,rF,g0,g3,g4,g5,kB])
   exact⟨l.length - (i+1),by omega,i+1,v',rfl,(Nas hil).symm,rfl,rfl,by omega,hown.cnt Zaa,fun h=>by omega⟩
  ·obtain rfl:i=l.length:=by omega
   rw[List.take_of_length_le (by rw[Exs.cp_len];omega)]at ho
   iterate 6
    (try rw[Z0]);(try simp(maxSteps:=9^7)(disch:=first|omega|rfl|assumption)only[↓Yaa,Yab,Nae,Naa,rB,rC,rD,rE,reduceIte,unP,rF,g0,g3,g4,hlv])
   subst hX;exact⟨nofun,_,rfl,by simp only[Nau,Yad,if_true];exact ho.cnt Zaa,fun h=>by simp only[Nau,Yad,if_true];exact hz (by rw[h];rfl)⟩
 ·skip
  exact⟨0,.nsl,rfl,Zad,Zad,Zad,Zac,(by rw[List.take_zero,Exs.cs];exact Own.nil _ _),(fun _=>rfl)⟩
theorem NeH{st:St}{sz n:Nat}{v:PV}{cs:List PV}(ho:Own st sz v n cs)(hf:cs.all PV.flat=true)(hs:0<sz)(hz:n=0→v=.nsl):(NaU st v).map frzV=some (slV true n cs):=by
 by_cases h0:n=0
 ·rw[hz h0,h0];unfold slV;rw[if_pos ⟨rfl,rfl⟩];rfl
 rcases ho with⟨rfl,h1,_⟩|⟨k,rfl,h1,h2,h3⟩
 ·exact absurd h1 h0
 ·have hw:Nfi? st (.rsl k sz 0 n)=some (k,sz,n,cs):=by
   unfold Nfi?;simp only[h1];rw[if_pos ⟨trivial,h2,by omega⟩]
  unfold NaU;simp only[hw,Ncr hf,NbX hf,List.contains_nil,Bool.false_eq_true,if_false,Option.map_some];unfold slV;rw[if_neg (fun h=>h0 h.2)];rfl
open Classical in
noncomputable def Nk4(d:Nat):List PV→Option PV
 |[v]=>if ∃ (z:Bool) (l:List Ex),v=slV z l.length (Exs.cs l)∧Exs.dp l≤d∧Exs.size l≤100000 then some (nrm v)else none
 |_=>none
theorem Nht{d:Nat}{z:Bool}{l:List Ex}(h1:Exs.dp l≤d)(h2:Exs.size l≤100000):Nk4 d [slV z l.length (Exs.cs l)]=some (slV true (Exs.cp l).length (Exs.cs (Exs.cp l))):=by
 unfold Nk4
 dsimp only
 rw[if_pos ⟨z,l,rfl,h1,h2⟩,Exs.nrm_sl]
theorem NmD:∀ {l:List Ex}{e:Ex},e∈l→Exs.dp e.L+1≤Exs.dp l
 |[],_,h=>by simp at h
 |a::r,e,h=>by
   rw[Exs.dp];rcases List.mem_cons.1 h with rfl|h
   ·rw[Ex.dp_eq];omega
   ·have:=NmD h;omega
noncomputable def Ngx(g:Option (List PV→Option PV)):Cfg:={ fn:=fun f=>NcA f tblL,ext:=fun f=>if f=44 then g else none }
theorem NgA{g:Option (List PV→Option PV)}{l:List Ex}{z:Bool}(hs:Exs.size l≤100000)(hg:∀ e∈l,∃ g',g=some g'∧g' [slV e.z e.L.length (Exs.cs e.L)]=some (slV true (Exs.cp e.L).length (Exs.cs (Exs.cp e.L)))) :
 (Ndr (Nay (Ngx g) (l.length+2+1)) 44 [slV z l.length (Exs.cs l)]).map frzV=some (slV true (Exs.cp l).length (Exs.cs (Exs.cp l))):=by
 have hlle:=Exs.len_le l;obtain⟨r,st',h1,h2,h3⟩:=Nln (cfg:=Ngx g) (by kernel_rfl) (fuel:=l.length+2) (l:=l) (z:=z) (st:={ sto:=.leaf,cnt:=1 }) (Nat.le_refl _) Zaa (fun e he=>by
  obtain⟨g',rfl,h⟩:=hg e he;rw[Nav (g:=g') (by unfold Ngx;simp)];exact h)
 unfold Ndr;rw[NbS];simp only[h1];rw[Exs.cp_len];exact NeH h2 (Nnt _) Zaj (fun h=>h3 (List.eq_nil_of_length_eq_zero h))
theorem NfS{Gl:Gmap}:∀ d,Nbc Go.Proofs.Try.prog Gl 44 (Nk4 d)
 |0=>by
   intro args r hr;unfold Nk4 at hr;split at hr
   ·rename_i v;split at hr
    ·rename_i hx;obtain⟨z,l,rfl,h1,h2⟩:=hx;have hl:l=[]:=by
      cases l with
      |nil=>rfl
      |cons a b=>rw[Exs.dp]at h1;omega
     rw[Exs.nrm_sl]at hr;have hok:CfgOK Go.Proofs.Try.prog Gl (Ngx none):=NbN NbP (fun f g h=>by simp[Ngx]at h);exact Ney (Nc3 (NbZ hok _) _) _ _ ((NgA (g:=none) h2 (fun e he=>by rw[hl]at he;simp at he)).trans hr)
    ·cases hr
   ·cases hr
 |d+1=>by
   intro args r hr;unfold Nk4 at hr;split at hr
   ·rename_i v;split at hr
    ·rename_i hx;obtain⟨z,l,rfl,h1,h2⟩:=hx;rw[Exs.nrm_sl]at hr;have hok:CfgOK Go.Proofs.Try.prog Gl (Ngx (some (Nk4 d))):=NbN NbP (fun f g h=>by
      by_cases hf:f=44
      ·subst hf;simp[Ngx]at h;subst h;exact NfS d
      ·simp[Ngx,hf]at h)
     exact Ney (Nc3 (NbZ hok _) _) _ _ ((NgA (g:=some (Nk4 d)) h2 (fun e he=>⟨_,rfl,Nht (by have:=NmD he;omega) (by have:=Exs.size_mem he;have:=Ex.size_eq e;omega)⟩)).trans hr)
    ·cases hr
   ·cases hr
end Go.Pe
