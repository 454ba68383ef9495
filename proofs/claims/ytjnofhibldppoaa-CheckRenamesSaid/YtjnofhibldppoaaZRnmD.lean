/-
 CheckRenames: renamed, walked. No condition.
-/
import Derived.Test.YtjnofhibldppoaaZCpyB
import Derived.Test.YtjnofhibldppoaaZRnmB
import Derived.Test.YtjnofhibldppoaaZLstA
import Derived.Test.YtjnofhibldppoaaZPeD
set_option linter.unusedVariables false
set_option linter.unusedSimpArgs false
open Nat renaming reduceAdd → rB,reduceMul → rC,reduceLT → rD,reduceEqDiff → rE,reduceLeDiff → rF
namespace Go.Pe
open Go Go.Am Go.RowKit
def NmU(sz n:Nat)(cs:List PV):PV:=if n=0 then .nsl else .osl sz n cs
def NpN(sz:Nat):PV→PV
 |.fsl n cs=>if n=0 then .nsl else .osl sz n cs
 |v=>v
theorem Nit(sz n:Nat)(cs:List PV):NpN sz (slV true n cs)=NmU sz n cs:=by
 unfold slV NmU;by_cases h:n=0
 ·rw[if_pos ⟨rfl,h⟩,if_pos h];rfl
 ·rw[if_neg (fun hh=>h hh.2),if_neg h];show(if n=0 then _ else _)=_;rw[if_neg h]
theorem NjC{st:St}{sz n:Nat}{v:PV}{cs:List PV}(ho:Own st sz v n cs)(hf:cs.all PV.flat=true)(hs:0<sz)(hz:n=0→v=.nsl):NaU st v=some (NmU sz n cs):=by
 by_cases h0:n=0
 ·rw[hz h0,h0];rfl
 rcases ho with⟨rfl,h1,_⟩|⟨k,rfl,h1,h2,h3⟩
 ·exact absurd h1 h0
 ·have hw:Nfi? st (.rsl k sz 0 n)=some (k,sz,n,cs):=by
   unfold Nfi?;simp only[h1];rw[if_pos ⟨trivial,h2,by omega⟩]
  unfold NaU;simp only[hw,Ncr hf,NbX hf,List.contains_nil,Bool.false_eq_true,if_false,Option.map_some];unfold NmU;rw[if_neg h0]
open Classical in
noncomputable def NoE(d:Nat):List PV→Option PV
 |[v]=>if ∃ (z:Bool) (l:List Sm),v=slV z l.length (Sms.cs l)∧Sms.dp l≤d∧Sms.size l≤100000 then some (NpN 9 (nrm v))else none
 |_=>none
theorem NnP{d:Nat}{z:Bool}{l:List Sm}(h1:Sms.dp l≤d)(h2:Sms.size l≤100000):NoE d [slV z l.length (Sms.cs l)]=some (NmU 9 l.length (Sms.cs (Sms.cp l))):=by
 unfold NoE
 dsimp only
 rw[if_pos ⟨z,l,rfl,h1,h2⟩,Sms.nrm_sl,Nit,Sms.cp_len]
theorem NhR{Gl:Gmap}(d:Nat):CfgOK Go.Proofs.Try.prog Gl (Ncd d):=NbN NbP (fun f g h=>by
 by_cases hf:f=44
 ·subst hf;simp[Ncd]at h;subst h;exact NfS d
 ·by_cases hf2:f=34
  ·subst hf2;cases d with
   |zero=>simp[Ncd]at h
   |succ d =>
     simp[Ncd]at h;subst h;exact NfT d
  ·simp[Ncd,hf,hf2]at h)
theorem NjD{d:Nat}{l:List Sm}{z:Bool}(hs:Sms.size l≤100000)(hd:Sms.dp l≤d) :
 Ndr (Nay (Ncd d) (l.length+2+1)) 34 [slV z l.length (Sms.cs l)]=some (NmU 9 l.length (Sms.cs (Sms.cp l))):=by
 have hok:=NhR (Gl:=fun _ _=>none) d;have hlle:=Sms.len_le l;have hxe:(Ncd d).ext 44=some (Nk4 d):=by unfold Ncd;simp
 have hxs:∀ d',d=d'+1→(Ncd d).ext 34=some (NjX d'):=fun d' h=>by subst h;unfold Ncd;rfl
 have hin:∀ s∈l,s.dp+1≤d∧s.size≤100000:=fun s hm=>⟨by have:=Ngi hm;omega,by have:=Sms.size_mem hm;omega⟩;obtain⟨r,st',h1,h2,h3⟩:=NhZ hok (by kernel_rfl) (fuel:=l.length+2) (l:=l) (z:=z) (Nat.le_refl _) Zaa
  (fun s hm=>by
   obtain⟨q1,q2⟩:=hin s hm;have hz:=Sm.size_eq s;have hp:=Sm.dp_eq s;rw[Nav hxe];exact Nht Zaa Zaa)
  (fun s hm=>by
   obtain⟨q1,q2⟩:=hin s hm;have hz:=Sm.size_eq s;have hp:=Sm.dp_eq s;rw[Nav (hxs (d - 1) Zaa)];exact NeV Zaa Zaa)
  (fun s hm=>by
   obtain⟨q1,q2⟩:=hin s hm;have hz:=Sm.size_eq s;have hp:=Sm.dp_eq s;rw[Nav (hxs (d - 1) Zaa)];exact NeV Zaa Zaa)
 unfold Ndr;rw[NbS];simp only[h1];exact NjC h2 (NhL _) Zaj (fun h=>h3 (List.eq_nil_of_length_eq_zero h))
theorem Nlq{Gl:Gmap}(d:Nat):Nbc Go.Proofs.Try.prog Gl 34 (NoE d):=by
 intro args r hr;unfold NoE at hr;split at hr
 ·rename_i v;split at hr
  ·rename_i hx;obtain⟨z,l,rfl,h1,h2⟩:=hx;rw[Sms.nrm_sl,Nit,Sms.cp_len]at hr;exact Nc3 (NbZ (NhR d) _) _ _ _ ((NjD h2 h1).trans hr)
  ·cases hr
 ·cases hr
def rnV(m:List UInt8):PV→PV
 |.fsl n cs=>if n=0 then .nsl else .fsl n (rnC cs)
 |v=>v
where rnC:List PV→List PV
 |k::o::j::i::n::a::b::e::r::rest=>k::o::(match j with|.s t=>.s (NiJ m t)|v=>v)::i::n::nrm a::rnV m b::rnV m e::r::rnC rest
 |l=>l
mutual
theorem Sm.rnC_cs(m:List UInt8):∀ (s:Sm) (rest:List PV),rnV.rnC m (s.cs++rest)=(s.rn m).cs++rnV.rnC m rest
 |.mk k o j i n za a zb b ze e r,rest=>by
   rw[Sm.rn,Sm.cs,Sm.cs];show rnV.rnC m (_::_::_::_::_::_::_::_::_::rest)=_;rw[rnV.rnC,Exs.nrm_sl,Sms.rn_sl m zb b,Sms.rn_sl m ze e];rfl
theorem Sms.rnC_cs(m:List UInt8):∀ l:List Sm,rnV.rnC m (Sms.cs l)=Sms.cs (Sms.rn m l)
 |[]=>by rw[Sms.cs,Sms.rn,Sms.cs];rfl
 |s::r=>by rw[Sms.cs,Sm.rnC_cs m s,Sms.rnC_cs m r,Sms.rn,Sms.cs]
theorem Sms.rn_sl(m:List UInt8):∀ (z:Bool) (l:List Sm),rnV m (slV z l.length (Sms.cs l))=slV true (Sms.rn m l).length (Sms.cs (Sms.rn m l))
 |z,[]=>by
   rw[Sms.rn,Sms.cs];cases z<;>rfl
 |z,s::r=>by
   have h:=Sms.rnC_cs m (s::r);unfold slV;rw[if_neg Zaf,if_neg (by rw[Sms.rn];simp)];rw[rnV,if_neg Zaf,Sms.rn_len,h]
end
end Go.Pe
set_option maxHeartbeats 8000000
namespace Go.Pe
open Go Go.Am Go.RowKit
theorem Nfc{A row Z:List PV}{o k:Nat}{v:PV}(hA:A.length=o)(h:row[k]? = some v):List.take 1 (List.drop (o+k) (A++(row++Z)))=[v]:=by
 have hk:k<row.length:=(List.getElem?_eq_some_iff.1 h).1;rw[←hA,List.drop_length_add_append,List.drop_append_of_le_length Zaa,List.drop_eq_getElem_cons hk];rw[List.getElem?_eq_getElem hk]at h;simp only[Sj]at h;rw[h];rfl
theorem NdX{A row Z:List PV}{o k:Nat}{v:PV}(hA:A.length=o)(hk:k<row.length):(A++(row++Z)).take (o+k)++[v]++(A++(row++Z)).drop (o+k+1)=A++(row.set k v++Z):=by
 have hl:o+k<(A++(row++Z)).length:=by rw[List.length_append,List.length_append];omega
 have e1:(A++(row++Z)).take (o+k)++[v]++(A++(row++Z)).drop (o+k+1)=(A++(row++Z)).set (o+k) v:=by
  rw[List.set_eq_take_append_cons_drop,if_pos hl,List.append_assoc];rfl
 rw[e1,←hA,List.set_append_right _ _ Zaa,Nat.add_sub_cancel_left,List.set_append_left _ _ hk]
theorem NiA:∀ {l:List Sm}{s:Sm},Sms.sj l→s∈l→s.J.length≤1000∧Sms.sj s.B∧Sms.sj s.E
 |[],_,_,h=>by cases h
 |a::r,s,hj,h=>by
   rw[Sms.sj]at hj;rcases List.mem_cons.1 h with rfl|h
   ·cases s;have:=hj.1;rw[Sm.sj]at this;exact this
   ·exact NiA hj.2 h
theorem Sms.rn_map(m:List UInt8):∀ l:List Sm,Sms.rn m l=l.map (Sm.rn m)
 |[]=>by rw[Sms.rn];rfl
 |s::r=>by rw[Sms.rn,Sms.rn_map m r];rfl
theorem Nez(k z o n:Nat):PV.same NbK (.rsl k z o n) (.rsl k z o n)=true:=by simp[NbK,PV.same]
theorem Noy(t:List UInt8):PV.same NbK (.s t) (.s t)=true:=by simp[NbK,PV.same]
theorem Ngf{st:St}{key:Nat}(z:Bool)(n:Nat)(cs:List PV):NaE st key (slV z n cs)=some (slV z n cs,st):=by
 unfold slV;split<;>rfl
set_option pp.deepTerms false
set_option pp.deepTerms.threshold 7
theorem NpQ{P:Program}{Gl:Gmap}{cfg:Cfg}(hok:CfgOK P Gl cfg)(hf:cfg.fn 20=some m20){fuel:Nat}{l:List Sm}{z:Bool}{mo:List UInt8}(hfu:l.length+2≤fuel)(hl:l.length≤100000)(hj:Sms.sj l)(hm:mo.length≤2)
 (hC:Nak cfg (Nay cfg fuel) 34 [slV z l.length (Sms.cs l)]=some (NmU 9 l.length (Sms.cs (Sms.cp l))))
 (hB:∀ s∈l,Nak cfg (Nay cfg fuel) 20 [slV true (Sms.cp s.B).length (Sms.cs (Sms.cp s.B)),.s mo]=some (slV true (Sms.rn mo s.B).length (Sms.cs (Sms.rn mo s.B))))
 (hE:∀ s∈l,Nak cfg (Nay cfg fuel) 20 [slV true (Sms.cp s.E).length (Sms.cs (Sms.cp s.E)),.s mo]=some (slV true (Sms.rn mo s.E).length (Sms.cs (Sms.rn mo s.E)))) :
 ∃ r st',Nay cfg (fuel+1) 20 [slV z l.length (Sms.cs l),.s mo] { sto:=.leaf,cnt:=1 }=some (r,st')∧(Own st' 9 r l.length (Sms.cs (Sms.rn mo l))∧(l=[]→r=.nsl)):=by
 refine Nax hf ?_;delta m20 Qa Qr Qf Ql Qt Qn Qk Qm Qi Qo;obtain⟨X,hX⟩:∃ X:PV→St→Prop,X=fun r st'=>(Own st' 9 r l.length (Sms.cs (Sms.rn mo l))∧(l=[]→r=.nsl)):=⟨_,rfl⟩
 simp only[show ∀ r st',(Own st' 9 r l.length (Sms.cs (Sms.rn mo l))∧(l=[]→r=.nsl))=X r st' from fun _ _=>by rw[hX]];by_cases h0:l=[]
 ·subst h0;have gC:∀ (st:St) (key:Nat),Nam (Nak cfg (Nay cfg fuel) 34) false st key [slV z ([]:List Sm).length (Sms.cs [])]=some (.nsl,st):=fun st key=>Nal Zam (by rw[hC];rfl) rfl;simp only[List.length_nil]at gC;simp only[Naj]
  iterate 5
   (try rw[Z0]);(try simp(maxSteps:=9^7)(disch:=first|omega|rfl|assumption)only[↓Yaa,Yab,Nae,Naa,rB,rC,rD,rE,reduceIte,unP,rF,gC])
  refine Z9 (k:=0 - 0) (fun m x=>∃ (i:Nat),m=0 - i∧x.env.get 0=.nsl∧x.env.get 9=.i .i64 ((0:Nat):Int)∧x.env.get 10=.i .i64 ((0:Nat):Int)) ?_ ?_ Zaa
  ·skip
   rintro m ⟨env,⟨sto,c⟩⟩ ⟨i,rfl,g0,g9,g10⟩;try simp only at g0 g9 g10
   iterate 6
    (try rw[Z0]);(try simp(maxSteps:=9^7)(disch:=first|omega|rfl|assumption)only[↓Yaa,Yab,Nae,Naa,rB,rC,rD,rE,reduceIte,unP,rF,g0,g9,g10])
   subst hX;exact⟨nofun,_,rfl,by simp only[Nau,Yad,if_true];rw[Sms.rn,Sms.cs];exact Own.nil _ _,fun _=>by simp only[Nau,Yad,if_true]⟩
  ·skip
   exact⟨0,rfl,Zad,Zad,Zad⟩
 ·have h0l:l.length≠0:=fun h=>h0 (List.eq_nil_of_length_eq_zero h);have gC:∀ (st:St) (key:Nat),Nam (Nak cfg (Nay cfg fuel) 34) false st key [slV z l.length (Sms.cs l)]=some (.rsl key 9 0 l.length,st.put key (some (.cells (Sms.cs (Sms.cp l)) false))):=fun st key=>by
   have hfl:([slV z l.length (Sms.cs l)]).all PV.flat=true:=(by simp[Nbr]);unfold Nam;simp only[NbX hfl,hC,Ncr hfl,NaI,ite_self];unfold NmU;rw[if_neg h0l];rfl
  simp only[Naj];(try rw[Z0]);(try simp(maxSteps:=9^7)(disch:=first|omega|rfl|assumption)only[↓Yaa,Yab,Nae,Naa,rB,rC,rD,rE,reduceIte,unP,rF]);(try rw[Z0]);(try simp(maxSteps:=9^7)(disch:=first|omega|rfl|assumption)only[↓Yaa,Yab,Nae,Naa,rB,rC,rD,rE,reduceIte,unP,rF,gC]);refine NaL (fun x=>∃ (A:Nat),A<x.st.cnt∧x.env.get 0=.rsl A 9 0 l.length∧x.env.get 1=.s mo∧x.st.get A=some (.cells (Sms.cs (Sms.cp l)) false)∧(Top x.st)) ?_ ?_
  ·exact⟨17,Zab,Zad,Zad,(by exact Yaf _ _ _),(Top.put (fun k _=>rfl) Zae)⟩
  rintro⟨env,⟨sto,c⟩⟩ ⟨A,bA,g0,g1,kA,ht⟩;try simp only at bA g0 g1 ht
  replace kA:∀ n',St.get ⟨sto,n'⟩ A=some (.cells (Sms.cs (Sms.cp l)) false):=fun _=>kA
  iterate 2
   (try rw[Z0]);(try simp(maxSteps:=9^7)(disch:=first|omega|rfl|assumption)only[↓Yaa,Yab,Nae,Naa,rB,rC,rD,rE,reduceIte,unP,rF,g0,g1,kA])
  refine Z9 (k:=l.length - 0) (fun m x=>∃ (i:Nat),m=l.length - i∧x.env.get 0=.rsl A 9 0 l.length∧x.env.get 1=.s mo∧x.env.get 9=.i .i64 (l.length:Int)∧x.env.get 10=.i .i64 (i:Int)∧x.st.get A=some (.cells (Sms.cs (Sms.rn mo (l.take i))++Sms.cs (Sms.cp (l.drop i))) false)∧A<x.st.cnt∧(Top x.st)∧(i≤l.length)) ?_ ?_ Zaa
  ·clear bA g0 g1 kA ht;rintro m ⟨env,⟨sto,c⟩⟩ ⟨i,rfl,g0,g1,g9,g10,kA,bA,ht,hi⟩;try simp only at g0 g1 g9 g10 bA ht
   replace kA:∀ n',St.get ⟨sto,n'⟩ A=some (.cells (Sms.cs (Sms.rn mo (l.take i))++Sms.cs (Sms.cp (l.drop i))) false):=fun _=>kA;by_cases hil:i<l.length
   ·obtain⟨e,he⟩:∃ e,l[i]=e:=⟨_,rfl⟩;have hem:e∈l:=he▸List.getElem_mem hil;rw[List.drop_eq_getElem_cons hil,he,Sms.cp,Sms.cs]at kA;obtain⟨A0,hA0⟩:∃ A0,Sms.cs (Sms.rn mo (l.take i))=A0:=⟨_,rfl⟩;obtain⟨Z,hZ⟩:∃ Z,Sms.cs (Sms.cp (l.drop (i+1)))=Z:=⟨_,rfl⟩;obtain⟨row,hrow⟩:∃ row,e.cp.cs=row:=⟨_,rfl⟩;have lA0:A0.length=i * 9:=(by rw[←hA0,Sms.len,Sms.rn_len,List.length_take];congr 1;omega);rw[hA0,hrow,hZ]at kA;rw[Sm.cp_cs]at hrow;have hr2:row[2]? = some (.s e.J):=(by rw[←hrow];rfl);have hr6:row[6]? = some (slV true (Sms.cp e.B).length (Sms.cs (Sms.cp e.B))):=(by rw[←hrow];rfl);have hr7:row[7]? = some (slV true (Sms.cp e.E).length (Sms.cs (Sms.cp e.E))):=(by rw[←hrow];rfl);have hr9:row.length=9:=(by rw[←hrow];rfl);obtain⟨row1,hrow1⟩:∃ row1,row.set 2 (.s (NiJ mo e.J))=row1:=⟨_,rfl⟩
    iterate 2
     (try rw[Z0]);(try simp(maxSteps:=9^7)(disch:=first|omega|rfl|assumption)only[↓Yaa,Yab,Nae,Naa,rB,rC,rD,rE,reduceIte,unP,rF,g0,g1,g9,g10,kA])
    refine Ndx fun K9 hK9=>?_
    iterate 2
     (try rw[Z0]);(try simp(maxSteps:=9^7)(disch:=first|omega|rfl|assumption)only[↓Yaa,Yab,Nae,Naa,rB,rC,rD,rE,reduceIte,unP,rF,g0,g1,g9,g10,kA])
    refine NaT (fun x=>x.env.get 0=.rsl A 9 0 l.length∧x.env.get 1=.s mo∧x.env.get 5=.i .i64 (i:Int)∧x.env.get 9=.i .i64 (l.length:Int)∧x.env.get 10=.i .i64 (i:Int)∧x.st.get A=some (.cells (A0++(row1++Z)) false)∧A<x.st.cnt∧(Top x.st)) ?_ ?_
    ·intro K1 hK1;obtain⟨CS,hCS⟩:∃ CS,A0++(row++Z)=CS:=⟨_,rfl⟩;have hCl:i * 9+9≤CS.length:=(by rw[←hCS,List.length_append,List.length_append];omega);have t2:(i * 9+3≤CS.length)=True:=eq_true Zaa;have d2:List.take 1 (List.drop (i * 9+2) CS)=[.s e.J]:=(by rw[←hCS];exact Nfc lA0 hr2);have s2:∀ v,CS.take (i * 9+2)++[v]++CS.drop (i * 9+3)=A0++(row.set 2 v++Z):=fun v=>by rw[←hCS];exact NdX lA0 Zaa
     rw[hCS]at kA;cases hJ:e.J==([]:List UInt8)with
     |true =>
       have hJ2:e.J=[]:=(by simpa using hJ);have hr1:row1=row:=by rw[←hrow1,hJ2,Nek,←hrow,hJ2];rfl
       iterate 2
        (try rw[Z0]);(try simp(maxSteps:=9^7)(disch:=first|omega|rfl|assumption)only[↓Yaa,Yab,Nae,Naa,rB,rC,rD,rE,reduceIte,unP,rF,g0,g1,g9,g10,kA,t2,d2,hJ,Bool.not_true])
       refine hK1 _ ⟨?_,?_,?_,?_,?_,(by rw[hr1,hCS];exact kA _),Zab,(ht.le Zag)⟩<;>first|with_reducible rfl|with_reducible assumption|(simp[Yad,g0,g1,g9,g10]<;>omega)
     |false =>
       have hJ2:e.J≠[]:=(by simpa using hJ);have hJ3:=(NiA hj hem).1;have hJ4:e.J.length+mo.length<9223372036854775807:=by omega
       iterate 2
        (try rw[Z0]);(try simp(maxSteps:=9^7)(disch:=first|omega|rfl|assumption)only[↓Yaa,Yab,Nae,Naa,rB,rC,rD,rE,reduceIte,unP,rF,g0,g1,g9,g10,kA,t2,d2,hJ,Bool.not_false,hJ4])
       refine hK1 _ ⟨?_,?_,?_,?_,?_,(by rw[Yaf,s2,←hrow1,NdP hJ2]),Zab,((ht.le (c':=c+152) Zag).put Zag)⟩<;>first|with_reducible rfl|with_reducible assumption|(simp[Yad,g0,g1,g9,g10]<;>omega)
    clear g0 g1 g9 g10 kA bA ht;rintro⟨env,⟨sto,c⟩⟩ ⟨g0,g1,g5,g9,g10,kA,bA,ht⟩;try simp only at g0 g1 g5 g9 g10 bA ht
    replace kA:∀ n',St.get ⟨sto,n'⟩ A=some (.cells (A0++(row1++Z)) false):=fun _=>kA;obtain⟨CS,hCS⟩:∃ CS,A0++(row1++Z)=CS:=⟨_,rfl⟩;have hl1:row1.length=9:=(by rw[←hrow1,List.length_set];exact hr9);have hCl:i * 9+9≤CS.length:=(by rw[←hCS,List.length_append,List.length_append];omega);have t6:(i * 9+7≤CS.length)=True:=eq_true Zaa;have t7:(i * 9+8≤CS.length)=True:=eq_true Zaa;have hq6:row1[6]? = some (slV true (Sms.cp e.B).length (Sms.cs (Sms.cp e.B))):=(by rw[←hrow1,List.getElem?_set_ne Zaa];exact hr6);have hq7:row1[7]? = some (slV true (Sms.cp e.E).length (Sms.cs (Sms.cp e.E))):=(by rw[←hrow1,List.getElem?_set_ne Zaa];exact hr7);have d6:List.take 1 (List.drop (i * 9+6) CS)=[slV true (Sms.cp e.B).length (Sms.cs (Sms.cp e.B))]:=(by rw[←hCS];exact Nfc lA0 hq6);have d7:List.take 1 (List.drop (i * 9+7) CS)=[slV true (Sms.cp e.E).length (Sms.cs (Sms.cp e.E))]:=(by rw[←hCS];exact Nfc lA0 hq7);obtain⟨CS2,hCS2⟩:∃ CS2,A0++(row1.set 6 (slV true (Sms.rn mo e.B).length (Sms.cs (Sms.rn mo e.B)))++Z)=CS2:=⟨_,rfl⟩;have s6:CS.take (i * 9+6)++[slV true (Sms.rn mo e.B).length (Sms.cs (Sms.rn mo e.B))]++CS.drop (i * 9+7)=CS2:=(by rw[←hCS,←hCS2];exact NdX lA0 Zaa);have hCl2:i * 9+9≤CS2.length:=(by rw[←hCS2,List.length_append,List.length_append,List.length_set];omega);have t72:(i * 9+8≤CS2.length)=True:=eq_true Zaa;have s7:CS2.take (i * 9+7)++[slV true (Sms.rn mo e.E).length (Sms.cs (Sms.rn mo e.E))]++CS2.drop (i * 9+8)=A0++((e.rn mo).cs++Z):=by
     have h:=NdX (Z:=Z) (row:=row1.set 6 (slV true (Sms.rn mo e.B).length (Sms.cs (Sms.rn mo e.B)))) (v:=slV true (Sms.rn mo e.E).length (Sms.cs (Sms.rn mo e.E))) (k:=7) lA0 (by rw[List.length_set];omega);rw[hCS2]at h;refine h.trans ?_
     congr 2
     rw[←hrow1,←hrow];cases e;rw[Sm.rn];rfl
    rw[hCS]at kA;have gB:∀ (st:St) (key:Nat),Nam (Nak cfg (Nay cfg fuel) 20) false st key [slV true (Sms.cp e.B).length (Sms.cs (Sms.cp e.B)),.s mo]=some (slV true (Sms.rn mo e.B).length (Sms.cs (Sms.rn mo e.B)),st):=fun st key=>Nal (by simp only[List.all_cons,List.all_nil,Nbr,Bool.true_and];rfl) (hB e hem) (Ngf _ _ _);have gE:∀ (st:St) (key:Nat),Nam (Nak cfg (Nay cfg fuel) 20) false st key [slV true (Sms.cp e.E).length (Sms.cs (Sms.cp e.E)),.s mo]=some (slV true (Sms.rn mo e.E).length (Sms.cs (Sms.rn mo e.E)),st):=fun st key=>Nal (by simp only[List.all_cons,List.all_nil,Nbr,Bool.true_and];rfl) (hE e hem) (Ngf _ _ _);have kn:∀ d,c+d∉([]:List Nat)∧c+d∉[A]:=fun d=>⟨List.not_mem_nil,fun h=>by
     simp only[List.mem_cons,List.not_mem_nil,or_false]at h;omega⟩
    have hnn:∀ d n',St.get ⟨sto,n'⟩ (c+d)=none:=fun d _=>ht (c+d) Zae;refine Ngr hok ht ?_;refine Ngq (NbZ hok _) (NdC hok _).2 [] [A] 20 (by rfl) (by rfl) (ns:=[true,true,true,true,false,false,false,false,false,false,false,true,true,true,true,true,true,false,false,false,false,false,false,false]) (by rfl) ht ?_;(first|rw[Naq]|rw[Nan]);(try simp(maxSteps:=9^7)(disch:=first|omega|rfl|assumption)only[↓Yaa,Yac,Nae,Naa,rB,rC,rD,rE,reduceIte,unP,Xl,rF,g0,g1,g5,kA,NbU,NbV,cut?,t6,d6,gB]);(first|rw[Naq]|rw[Nan]);(try simp(maxSteps:=9^7)(disch:=first|omega|rfl|assumption)only[↓Yaa,Yac,Nae,Naa,rB,rC,rD,rE,reduceIte,unP,Xl,rF,g0,g1,g5,kA,NbU,NbV,cut?,t6,d6,gB]);(first|rw[Naq]|rw[Nan]);(try simp(maxSteps:=9^7)(disch:=first|omega|rfl|assumption)only[↓Yaa,Yac,Nae,Naa,rB,rC,rD,rE,reduceIte,unP,Xl,rF,g0,g1,g5,kA,NbU,NbV,cut?,t6,d6,gB]);(first|rw[Naq]|rw[Nan]);(try simp(maxSteps:=9^7)(disch:=first|omega|rfl|assumption)only[↓Yaa,Yac,Nae,Naa,rB,rC,rD,rE,reduceIte,unP,Xl,rF,g0,g1,g5,kA,NbU,NbV,cut?,t6,d6,gB]);(first|rw[Naq]|rw[Nan]);(try simp(maxSteps:=9^7)(disch:=first|omega|rfl|assumption)only[↓Yaa,Yac,Nae,Naa,rB,rC,rD,rE,reduceIte,unP,Xl,rF,g0,g1,g5,kA,NbU,NbV,cut?,t6,d6,gB]);(first|rw[Naq]|rw[Nan]);(try simp(maxSteps:=9^7)(disch:=first|omega|rfl|assumption)only[↓Yaa,Yac,Nae,Naa,rB,rC,rD,rE,reduceIte,unP,Xl,rF,g0,g1,g5,kA,NbU,NbV,cut?,t6,d6,gB]);(first|rw[Naq]|rw[Nan]);(try simp(maxSteps:=9^7)(disch:=first|omega|rfl|assumption)only[↓Yaa,Yac,Nae,Naa,rB,rC,rD,rE,reduceIte,unP,Xl,rF,g0,g1,g5,kA,NbU,NbV,cut?,t6,d6,gB]);(first|rw[Naq]|rw[Nan]);(try simp(maxSteps:=9^7)(disch:=first|omega|rfl|assumption)only[↓Yaa,Yac,Nae,Naa,rB,rC,rD,rE,reduceIte,unP,Xl,rF,g0,g1,g5,kA,NbU,NbV,cut?,t6,d6,gB]);(first|rw[Naq]|rw[Nan]);(try simp(maxSteps:=9^7)(disch:=first|omega|rfl|assumption)only[↓Yaa,Yac,Nae,Naa,rB,rC,rD,rE,reduceIte,unP,Xl,rF,g0,g1,g5,kA,NbU,NbV,cut?,t6,d6,gB]);(first|rw[Naq]|rw[Nan]);(try simp(maxSteps:=9^7)(disch:=first|omega|rfl|assumption)only[↓Yaa,Yac,Nae,Naa,rB,rC,rD,rE,reduceIte,unP,Xl,rF,g0,g1,g5,kA,NbU,NbV,cut?,t6,d6,gB]);(first|rw[Naq]|rw[Nan]);(try simp(maxSteps:=9^7)(disch:=first|omega|rfl|assumption)only[↓Yaa,Yac,Nae,Naa,rB,rC,rD,rE,reduceIte,unP,Xl,rF,g0,g1,g5,kA,NbU,NbV,cut?,t6,d6,gB]);refine⟨NbO rfl (kn 0),Nbx rfl (Nez _ _ _ _) (hnn 0 _),NbO rfl (kn 8),Nbx rfl (Ngh _ _) (hnn 8 _),NbO rfl (kn 16),Nbx rfl (Nez _ _ _ _) (hnn 16 _),NbO rfl (kn 24),Nbx rfl (Ngh _ _) (hnn 24 _),NbB (kn 32),NbC rfl,NbB (kn 40),NbC rfl,NbB (kn 48),NbC rfl,NbB (kn 56),NbC rfl,NbB (kn 64),NbC rfl,NbB (kn 72),NbC rfl,by rw[Ncg _ _ _ _ _ _ _ _ rfl];trivial,by rw[Nci _ _ _ _ _ _ _ _ _ rfl];exact fun _ _ _ _=>rfl,?_⟩;(first|rw[Naq]|rw[Nan]);(try simp(maxSteps:=9^7)(disch:=first|omega|rfl|assumption)only[↓Yaa,Yac,Nae,Naa,rB,rC,rD,rE,reduceIte,unP,Xl,rF,g0,g1,g5,kA,NbU,NbV,cut?,t7,d7,gE]);(first|rw[Naq]|rw[Nan]);(try simp(maxSteps:=9^7)(disch:=first|omega|rfl|assumption)only[↓Yaa,Yac,Nae,Naa,rB,rC,rD,rE,reduceIte,unP,Xl,rF,g0,g1,g5,kA,NbU,NbV,cut?,t7,d7,gE]);(first|rw[Naq]|rw[Nan]);(try simp(maxSteps:=9^7)(disch:=first|omega|rfl|assumption)only[↓Yaa,Yac,Nae,Naa,rB,rC,rD,rE,reduceIte,unP,Xl,rF,g0,g1,g5,kA,NbU,NbV,cut?,t7,d7,gE]);(first|rw[Naq]|rw[Nan]);(try simp(maxSteps:=9^7)(disch:=first|omega|rfl|assumption)only[↓Yaa,Yac,Nae,Naa,rB,rC,rD,rE,reduceIte,unP,Xl,rF,g0,g1,g5,kA,NbU,NbV,cut?,t7,d7,gE]);(first|rw[Naq]|rw[Nan]);(try simp(maxSteps:=9^7)(disch:=first|omega|rfl|assumption)only[↓Yaa,Yac,Nae,Naa,rB,rC,rD,rE,reduceIte,unP,Xl,rF,g0,g1,g5,kA,NbU,NbV,cut?,t7,d7,gE]);(first|rw[Naq]|rw[Nan]);(try simp(maxSteps:=9^7)(disch:=first|omega|rfl|assumption)only[↓Yaa,Yac,Nae,Naa,rB,rC,rD,rE,reduceIte,unP,Xl,rF,g0,g1,g5,kA,NbU,NbV,cut?,t7,d7,gE]);(first|rw[Naq]|rw[Nan]);(try simp(maxSteps:=9^7)(disch:=first|omega|rfl|assumption)only[↓Yaa,Yac,Nae,Naa,rB,rC,rD,rE,reduceIte,unP,Xl,rF,g0,g1,g5,kA,NbU,NbV,cut?,t7,d7,gE]);refine⟨NbO rfl (kn 88),Nbx rfl (Nez _ _ _ _) (hnn 88 _),NbO rfl (kn 96),Nbx rfl (Ngh _ _) (hnn 96 _),NbO rfl (kn 104),Nbx rfl (Ndg _ _) (hnn 104 _),NbO rfl (kn 112),Nbx rfl (Ndg _ _) (hnn 112 _),NhB (kn 120) (fun k o h=>by cases h;exact⟨by omega,List.not_mem_nil⟩),Nbx rfl (Nfd _ _ _) (hnn 120 _),NbO rfl (kn 128),Nbx rfl (Noy _) (hnn 128 _),by rw[Ncg _ _ _ _ _ _ _ _ rfl];trivial,by rw[Nci _ _ _ _ _ _ _ _ _ rfl];exact fun _ _ _ _=>rfl,?_⟩;(first|rw[Naq]|rw[Nan]);(try simp(maxSteps:=9^7)(disch:=first|omega|rfl|assumption)only[↓Yaa,Yac,Nae,Naa,rB,rC,rD,rE,reduceIte,unP,Xl,rF,kA,NiH,NiI,Nag,Naf,t6,t72,s6,s7,Yaf]);(first|rw[Naq]|rw[Nan]);(try simp(maxSteps:=9^7)(disch:=first|omega|rfl|assumption)only[↓Yaa,Yac,Nae,Naa,rB,rC,rD,rE,reduceIte,unP,Xl,rF,kA,NiH,NiI,Nag,Naf,t6,t72,s6,s7,Yaf]);(first|rw[Naq]|rw[Nan]);(try simp(maxSteps:=9^7)(disch:=first|omega|rfl|assumption)only[↓Yaa,Yac,Nae,Naa,rB,rC,rD,rE,reduceIte,unP,Xl,rF,kA,NiH,NiI,Nag,Naf,t6,t72,s6,s7,Yaf]);(first|rw[Naq]|rw[Nan]);(try simp(maxSteps:=9^7)(disch:=first|omega|rfl|assumption)only[↓Yaa,Yac,Nae,Naa,rB,rC,rD,rE,reduceIte,unP,Xl,rF,kA,NiH,NiI,Nag,Naf,t6,t72,s6,s7,Yaf]);(first|rw[Naq]|rw[Nan]);(try simp(maxSteps:=9^7)(disch:=first|omega|rfl|assumption)only[↓Yaa,Yac,Nae,Naa,rB,rC,rD,rE,reduceIte,unP,Xl,rF,kA,NiH,NiI,Nag,Naf,t6,t72,s6,s7,Yaf]);(first|rw[Naq]|rw[Nan]);(try simp(maxSteps:=9^7)(disch:=first|omega|rfl|assumption)only[↓Yaa,Yac,Nae,Naa,rB,rC,rD,rE,reduceIte,unP,Xl,rF,kA,NiH,NiI,Nag,Naf,t6,t72,s6,s7,Yaf]);refine⟨NbB (kn 144),NbC rfl,NbB (kn 152),NbC rfl,by rw[Ncg _ _ _ _ _ _ _ _ rfl];trivial,by rw[Nci _ _ _ _ _ _ _ _ _ rfl];exact fun q _ _ h=>Yae (fun e=>h Zaa (by rw[e];simp)),NbB (kn 168),NbC rfl,NbB (kn 176),NbC rfl,by rw[Ncg _ _ _ _ _ _ _ _ rfl];trivial,by rw[Nci _ _ _ _ _ _ _ _ _ rfl];exact fun q _ _ h=>Yae (fun e=>h Zaa (by rw[e];simp)),?_⟩;rw[NhQ];(try rw[Z0]);(try simp(maxSteps:=9^7)(disch:=first|omega|rfl|assumption)only[↓Yaa,Yab,Nae,Naa,rB,rC,rD,rE,reduceIte,unP,rF,g0,g1,g5,g9,g10,kA]);intro ht2;have hnx:Sms.cs (Sms.rn mo (l.take (i+1)))++Sms.cs (Sms.cp (l.drop (i+1)))=A0++((e.rn mo).cs++Z):=by
     rw[←hA0,←hZ,←List.append_assoc]
     congr 1
     rw[List.take_succ_eq_append_getElem hil,he,Sms.rn_map,Sms.rn_map,List.map_append,Sms.cs_app]
     congr 1
     simp[Sms.cs]
    refine hK9 _ ?_
    iterate 2
     (try rw[Z0]);(try simp(maxSteps:=9^7)(disch:=first|omega|rfl|assumption)only[↓Yaa,Yab,Nae,Naa,rB,rC,rD,rE,reduceIte,unP,rF,g0,g1,g5,g9,g10,kA])
    exact⟨l.length - (i+1),by omega,i+1,rfl,rfl,by rw[hnx],ht2.le (show c+192≤c+208 by omega),by omega⟩
   ·have e1:l.take i=l:=List.take_of_length_le Zaa;have e2:l.drop i=[]:=List.drop_of_length_le Zaa;rw[e1,e2,Sms.cp,Sms.cs,List.append_nil]at kA
    iterate 6
     (try rw[Z0]);(try simp(maxSteps:=9^7)(disch:=first|omega|rfl|assumption)only[↓Yaa,Yab,Nae,Naa,rB,rC,rD,rE,reduceIte,unP,rF,g0,g1,g9,g10,kA])
    subst hX;exact⟨nofun,_,rfl,by simp only[Nau,Yad,if_true];exact .inr ⟨A,by simp[g0],kA _,by rw[Sms.len,Sms.rn_len],by simp only;omega⟩,fun h=>absurd h h0⟩
  ·skip
   refine⟨0,rfl,?_,?_,?_,?_,(by rw[List.take_zero,List.drop_zero,Sms.rn,Sms.cs,Zan];exact kA _),Zab,(ht.le Zag),Zac⟩<;>first|with_reducible rfl|with_reducible assumption|(simp[Yad,g0,g1]<;>omega)
end Go.Pe
