/-
 The kit: copies of statements: walked. No condition.
-/
import Derived.Test.YtjnofhibldppoaaZCpyA
import Derived.Test.YtjnofhibldppoaaZPeD
set_option linter.unusedVariables false
set_option linter.unusedSimpArgs false
set_option maxHeartbeats 8000000
open Nat renaming reduceAdd → rB,reduceMul → rC,reduceLT → rD,reduceEqDiff → rE,reduceLeDiff → rF
namespace Go.Pe
open Go Go.Am Go.RowKit
mutual
def Sm.cp:Sm→Sm
 |.mk k o j i n za a zb b ze e r=>.mk k o j i n true (Exs.cp a) true (Sms.cp b) true (Sms.cp e) r
def Sms.cp:List Sm→List Sm
 |[]=>[]
 |s::r=>s.cp::Sms.cp r
end
theorem Sm.cp_cs(s:Sm):s.cp.cs=[.i .u8 (s.K.toNat:Int),.i .u8 (s.O.toNat:Int),.s s.J,.s s.I,.i .i64 s.N,slV true (Exs.cp s.A).length (Exs.cs (Exs.cp s.A)),slV true (Sms.cp s.B).length (Sms.cs (Sms.cp s.B)),slV true (Sms.cp s.E).length (Sms.cs (Sms.cp s.E)),.i .i64 s.R]:=by
 cases s;rw[Sm.cp,Sm.cs];rfl
theorem Sms.cp_len:∀ l:List Sm,(Sms.cp l).length=l.length
 |[]=>by rw[Sms.cp]
 |e::r=>by rw[Sms.cp,List.length_cons,List.length_cons,Sms.cp_len r]
mutual
theorem Sm.nrm_cs:∀ s:Sm,nrm.nrms s.cs=s.cp.cs
 |.mk k o j i n za a zb b ze e r=>by
   rw[Sm.cp,Sm.cs,Sm.cs];have h1:=Exs.nrm_sl za a;have h2:=Sms.nrm_sl zb b;have h3:=Sms.nrm_sl ze e;have q1:∀ k n,nrm (.i k n)=.i k n:=fun _ _=>by rw[nrm];intro _ _ h;cases h
   have q2:∀ s,nrm (.s s)=.s s:=fun _=>by rw[nrm];intro _ _ h;cases h
   simp only[nrm.nrms,h1,h2,h3,q1,q2]
theorem Sms.nrm_cs:∀ l:List Sm,nrm.nrms (Sms.cs l)=Sms.cs (Sms.cp l)
 |[]=>by rw[Sms.cs,nrm.nrms,Sms.cp,Sms.cs]
 |e::r=>by rw[Sms.cs,NdG,Sm.nrm_cs e,Sms.nrm_cs r,Sms.cp,Sms.cs]
theorem Sms.nrm_sl:∀ (z:Bool) (l:List Sm),nrm (slV z l.length (Sms.cs l))=slV true (Sms.cp l).length (Sms.cs (Sms.cp l))
 |z,[]=>by
   rw[Sms.cp];cases z
   ·rfl
   ·rfl
 |z,e::r=>by
   have h1:slV z (e::r).length (Sms.cs (e::r))=.fsl (e::r).length (Sms.cs (e::r)):=Nas (i:=0) Zaf;have h2:slV true (Sms.cp (e::r)).length (Sms.cs (Sms.cp (e::r)))=.fsl (Sms.cp (e::r)).length (Sms.cs (Sms.cp (e::r))):=Nas (i:=0) (by rw[Sms.cp];simp);have h3:nrm.nrms (Sms.cs (e::r))=Sms.cs (Sms.cp (e::r)):=(by rw[Sms.cs,NdG,Sm.nrm_cs e,Sms.nrm_cs r,Sms.cp,Sms.cs]);rw[h1,h2,nrm,if_neg Zaf,h3,Sms.cp_len]
end
section
variable {Gl:Gmap}{l:List Sm}{z:Bool}{d:Nat}
theorem Sms.cs_app(a b:List Sm):Sms.cs (a++b)=Sms.cs a++Sms.cs b:=by
 rw[Sms.flat,Sms.flat,Sms.flat,List.flatMap_append]
theorem Sms.cp_at:∀ (l:List Sm) (i:Nat) (h:i<l.length),Sms.cs ((Sms.cp l).take (i+1))=Sms.cs ((Sms.cp l).take i)++l[i].cp.cs
 |e::r,0,_=>by
   rw[Sms.cp,List.take_zero,List.take_succ_cons,List.take_zero,Sms.cs];simp[Sms.cs]
 |e::r,i+1,h=>by
   rw[Sms.cp,List.take_succ_cons,List.take_succ_cons,Sms.cs,Sms.cs,Sms.cp_at r i (by simpa using h),List.append_assoc];rfl
theorem NhL(l:List Sm):(Sms.cs l).all PV.flat=true:=by
 rw[Sms.flat,List.all_eq_true];intro p hp;obtain⟨e,-,he⟩:=List.mem_flatMap.1 hp;rw[Sm.cs_eq]at he;simp only[List.mem_cons,List.not_mem_nil,or_false]at he;rcases he with rfl|rfl|rfl|rfl|rfl|rfl|rfl|rfl|rfl<;>first|rfl|exact Nbr _ _ _
theorem NhZ{P:Program}{cfg:Cfg}(hok:CfgOK P Gl cfg)(hf:cfg.fn 34=some m34){fuel:Nat}(hfu:l.length+2≤fuel)(hl:l.length≤100000)
 (hA:∀ s∈l,Nak cfg (Nay cfg fuel) 44 [slV s.za s.A.length (Exs.cs s.A)]=some (slV true (Exs.cp s.A).length (Exs.cs (Exs.cp s.A))))
 (hB:∀ s∈l,Nak cfg (Nay cfg fuel) 34 [slV s.zb s.B.length (Sms.cs s.B)]=some (slV true (Sms.cp s.B).length (Sms.cs (Sms.cp s.B))))
 (hE:∀ s∈l,Nak cfg (Nay cfg fuel) 34 [slV s.ze s.E.length (Sms.cs s.E)]=some (slV true (Sms.cp s.E).length (Sms.cs (Sms.cp s.E)))) :
 ∃ r st',Nay cfg (fuel+1) 34 [slV z l.length (Sms.cs l)] { sto:=.leaf,cnt:=1 }=some (r,st')∧(Own st' 9 r l.length (Sms.cs (Sms.cp l))∧(l=[]→r=.nsl)):=by
 refine Nax hf ?_;delta m34 Qa Qr Qg Ql Qt Qn Qk Qm Qi Qo Qw;have hlv:=NaF z l.length (Sms.cs l);have hsz:=Sms.len l;obtain⟨X,hX⟩:∃ X:PV→St→Prop,X=fun r st'=>(Own st' 9 r l.length (Sms.cs (Sms.cp l))∧(l=[]→r=.nsl)):=⟨_,rfl⟩
 simp only[show ∀ r st',(Own st' 9 r l.length (Sms.cs (Sms.cp l))∧(l=[]→r=.nsl))=X r st' from fun _ _=>by rw[hX]];simp only[Naj]
 iterate 4
  (try rw[Z0]);(try simp(maxSteps:=9^7)(disch:=first|omega|rfl|assumption)only[↓Yaa,Yab,Nae,Naa,rB,rC,rD,rE,reduceIte,unP,rF])
 refine Z9 (k:=l.length - 0) (fun m x=>∃ (i:Nat) (v:PV),m=l.length - i∧x.env.get 0=slV z l.length (Sms.cs l)∧x.env.get 3=v∧x.env.get 4=.i .i64 (i:Int)∧(i≤l.length)∧(Own x.st 9 v i (Sms.cs ((Sms.cp l).take i)))∧(i=0→v=.nsl)∧(Top x.st)) ?_ ?_ Zaa
 ·skip
  rintro m ⟨env,⟨sto,c⟩⟩ ⟨i,v,rfl,g0,g3,g4,hi,ho,hz,ht⟩;try simp only at g0 g3 g4 ho ht
  by_cases hil:i<l.length
  ·rw[Nas hil]at g0 hlv;obtain⟨e,he⟩:∃ e,l[i]=e:=⟨_,rfl⟩;have hem:e∈l:=he▸List.getElem_mem hil;have hld:=fun st=>NeZ (st:=st) hil;simp only[he]at hld;have rs:∀ (st:St) (key:Nat) z n cs,NaE st key (slV z n cs)=some (slV z n cs,st):=fun st key z n cs=>by unfold slV;split<;>rfl
   have gA:∀ (st:St) (key:Nat),Nam (Nak cfg (Nay cfg fuel) 44) false st key [slV e.za e.A.length (Exs.cs e.A)]=some (slV true (Exs.cp e.A).length (Exs.cs (Exs.cp e.A)),st):=fun st key=>Nal Zam (hA e hem) (rs _ _ _ _ _);have gB:∀ (st:St) (key:Nat),Nam (Nak cfg (Nay cfg fuel) 34) false st key [slV e.zb e.B.length (Sms.cs e.B)]=some (slV true (Sms.cp e.B).length (Sms.cs (Sms.cp e.B)),st):=fun st key=>Nal Zam (hB e hem) (rs _ _ _ _ _);have gE:∀ (st:St) (key:Nat),Nam (Nak cfg (Nay cfg fuel) 34) false st key [slV e.ze e.E.length (Sms.cs e.E)]=some (slV true (Sms.cp e.E).length (Sms.cs (Sms.cp e.E)),st):=fun st key=>Nal Zam (hE e hem) (rs _ _ _ _ _);refine Ngr hok ht ?_;have lv:∀ q,q∈keyOf v→q<c:=fun q hq=>ho.lt q hq;have hv1:v.one=true:=(Nb2 ho).2;have hvc:v.cells=[v]:=(Nb2 ho).1
   iterate 4
    (try rw[Z0]);(try simp(maxSteps:=9^7)(disch:=first|omega|rfl|assumption)only[↓Yaa,Yab,Nae,Naa,rB,rC,rD,rE,reduceIte,unP,rF,g0,g3,g4,hlv,hsz,hld,Nag,Naf])
   refine NaL (fun x=>∃ (B:Nat),B<x.st.cnt∧x.env.get 0=.fsl l.length (Sms.cs l)∧x.env.get 3=v∧x.env.get 4=.i .i64 (i:Int)∧x.env.get 5=.ptr B 0∧x.st.get B=some (.cells [.i .u8 (e.K.toNat:Int),.i .u8 (e.O.toNat:Int),.s e.J,.s e.I,.i .i64 e.N,slV e.za e.A.length (Exs.cs e.A),slV e.zb e.B.length (Sms.cs e.B),slV e.ze e.E.length (Sms.cs e.E),.i .i64 e.R] false)∧(Own x.st 9 v i (Sms.cs ((Sms.cp l).take i)))∧((∀ q,q∈keyOf v→q<B))∧(Top x.st)) ?_ ?_
   ·refine⟨c+64,Zab,?_,?_,?_,?_,(by rw[Yaf]),(ho.move Zai fun q hq _=>by have:=lv q hq;simp(disch:=omega)only[NaG,NaN];rfl),(fun q hq=>by have:=lv q hq;omega),(Top.put (Top.put (ht.le Zag) Zag) (by first|omega|(simp only[Naz];omega)))⟩<;>first|with_reducible rfl|with_reducible assumption|(simp[Yad,g0,g3,g4]<;>omega)
   clear g0 g3 g4 ho ht;rintro⟨env,⟨sto,c⟩⟩ ⟨B,bB,g0,g3,g4,g5,kB,ho,kv,ht⟩;try simp only at bB g0 g3 g4 g5 ho ht
   replace kB:∀ n',St.get ⟨sto,n'⟩ B=some (.cells [.i .u8 (e.K.toNat:Int),.i .u8 (e.O.toNat:Int),.s e.J,.s e.I,.i .i64 e.N,slV e.za e.A.length (Exs.cs e.A),slV e.zb e.B.length (Sms.cs e.B),slV e.ze e.E.length (Sms.cs e.E),.i .i64 e.R] false):=fun _=>kB;have kn:∀ d,c+d∉([]:List Nat)∧c+d∉[B]:=fun d=>⟨List.not_mem_nil,fun h=>by
    simp only[List.mem_cons,List.not_mem_nil,or_false]at h;omega⟩
   have hnn:∀ d n',St.get ⟨sto,n'⟩ (c+d)=none:=fun d _=>ht (c+d) Zae;refine Ndx fun K9 hK9=>?_;refine Ngq (NbZ hok _) (NdC hok _).2 [] [B] 10 (by rfl) (by rfl) (ns:=[false,false,false,true,true,false,true,true,false,true,false,false,false,false,false]) (by rfl) ht ?_;(first|rw[Naq]|rw[Nan]);(try simp(maxSteps:=9^7)(disch:=first|omega|rfl|assumption)only[↓Yaa,Yac,Nae,Naa,rB,rC,rD,rE,reduceIte,unP,Xl,rF,g5,kB,NbU,NbV,gA,gB,gE,Nag,Naf]);(first|rw[Naq]|rw[Nan]);(try simp(maxSteps:=9^7)(disch:=first|omega|rfl|assumption)only[↓Yaa,Yac,Nae,Naa,rB,rC,rD,rE,reduceIte,unP,Xl,rF,g5,kB,NbU,NbV,gA,gB,gE,Nag,Naf]);(first|rw[Naq]|rw[Nan]);(try simp(maxSteps:=9^7)(disch:=first|omega|rfl|assumption)only[↓Yaa,Yac,Nae,Naa,rB,rC,rD,rE,reduceIte,unP,Xl,rF,g5,kB,NbU,NbV,gA,gB,gE,Nag,Naf]);(first|rw[Naq]|rw[Nan]);(try simp(maxSteps:=9^7)(disch:=first|omega|rfl|assumption)only[↓Yaa,Yac,Nae,Naa,rB,rC,rD,rE,reduceIte,unP,Xl,rF,g5,kB,NbU,NbV,gA,gB,gE,Nag,Naf]);(first|rw[Naq]|rw[Nan]);(try simp(maxSteps:=9^7)(disch:=first|omega|rfl|assumption)only[↓Yaa,Yac,Nae,Naa,rB,rC,rD,rE,reduceIte,unP,Xl,rF,g5,kB,NbU,NbV,gA,gB,gE,Nag,Naf]);(first|rw[Naq]|rw[Nan]);(try simp(maxSteps:=9^7)(disch:=first|omega|rfl|assumption)only[↓Yaa,Yac,Nae,Naa,rB,rC,rD,rE,reduceIte,unP,Xl,rF,g5,kB,NbU,NbV,gA,gB,gE,Nag,Naf]);(first|rw[Naq]|rw[Nan]);(try simp(maxSteps:=9^7)(disch:=first|omega|rfl|assumption)only[↓Yaa,Yac,Nae,Naa,rB,rC,rD,rE,reduceIte,unP,Xl,rF,g5,kB,NbU,NbV,gA,gB,gE,Nag,Naf]);(first|rw[Naq]|rw[Nan]);(try simp(maxSteps:=9^7)(disch:=first|omega|rfl|assumption)only[↓Yaa,Yac,Nae,Naa,rB,rC,rD,rE,reduceIte,unP,Xl,rF,g5,kB,NbU,NbV,gA,gB,gE,Nag,Naf]);(first|rw[Naq]|rw[Nan]);(try simp(maxSteps:=9^7)(disch:=first|omega|rfl|assumption)only[↓Yaa,Yac,Nae,Naa,rB,rC,rD,rE,reduceIte,unP,Xl,rF,g5,kB,NbU,NbV,gA,gB,gE,Nag,Naf]);(first|rw[Naq]|rw[Nan]);(try simp(maxSteps:=9^7)(disch:=first|omega|rfl|assumption)only[↓Yaa,Yac,Nae,Naa,rB,rC,rD,rE,reduceIte,unP,Xl,rF,g5,kB,NbU,NbV,gA,gB,gE,Nag,Naf]);(first|rw[Naq]|rw[Nan]);(try simp(maxSteps:=9^7)(disch:=first|omega|rfl|assumption)only[↓Yaa,Yac,Nae,Naa,rB,rC,rD,rE,reduceIte,unP,Xl,rF,g5,kB,NbU,NbV,gA,gB,gE,Nag,Naf]);(first|rw[Naq]|rw[Nan]);(try simp(maxSteps:=9^7)(disch:=first|omega|rfl|assumption)only[↓Yaa,Yac,Nae,Naa,rB,rC,rD,rE,reduceIte,unP,Xl,rF,g5,kB,NbU,NbV,gA,gB,gE,Nag,Naf]);(first|rw[Naq]|rw[Nan]);(try simp(maxSteps:=9^7)(disch:=first|omega|rfl|assumption)only[↓Yaa,Yac,Nae,Naa,rB,rC,rD,rE,reduceIte,unP,Xl,rF,g5,kB,NbU,NbV,gA,gB,gE,Nag,Naf]);(first|rw[Naq]|rw[Nan]);(try simp(maxSteps:=9^7)(disch:=first|omega|rfl|assumption)only[↓Yaa,Yac,Nae,Naa,rB,rC,rD,rE,reduceIte,unP,Xl,rF,g5,kB,NbU,NbV,gA,gB,gE,Nag,Naf]);(first|rw[Naq]|rw[Nan]);(try simp(maxSteps:=9^7)(disch:=first|omega|rfl|assumption)only[↓Yaa,Yac,Nae,Naa,rB,rC,rD,rE,reduceIte,unP,Xl,rF,g5,kB,NbU,NbV,gA,gB,gE,Nag,Naf]);refine⟨NbB ⟨List.not_mem_nil,by simp;omega⟩,NbC rfl,NbB (kn 8),NbC rfl,by rw[Ncg _ _ _ _ _ _ _ _ rfl];trivial,by rw[Nci _ _ _ _ _ _ _ _ _ rfl];exact fun _ _ _ _=>rfl,NbO rfl (kn 24),Nbx rfl (Ndg _ _) (hnn 24 _),NhB (kn 32) (fun k o h=>by cases h;exact⟨by omega,List.not_mem_nil⟩),Nbx rfl (Nfd _ _ _) (hnn 32 _),by rw[Ncg _ _ _ _ _ _ _ _ rfl];trivial,by rw[Nci _ _ _ _ _ _ _ _ _ rfl];exact fun _ _ _ _=>rfl,NbO rfl (kn 48),Nbx rfl (Ndg _ _) (hnn 48 _),NhB (kn 56) (fun k o h=>by cases h;exact⟨by omega,List.not_mem_nil⟩),Nbx rfl (Nfd _ _ _) (hnn 56 _),by rw[Ncg _ _ _ _ _ _ _ _ rfl];trivial,by rw[Nci _ _ _ _ _ _ _ _ _ rfl];exact fun _ _ _ _=>rfl,NbO rfl (kn 72),Nbx rfl (Ndg _ _) (hnn 72 _),by rw[Ncg _ _ _ _ _ _ _ _ rfl];trivial,by rw[Nci _ _ _ _ _ _ _ _ _ rfl];exact fun q _ _ h=>Yae (fun e=>h Zaa (by rw[e];simp)),NbB (kn 88),NbC rfl,by rw[Ncg _ _ _ _ _ _ _ _ rfl];trivial,by rw[Nci _ _ _ _ _ _ _ _ _ rfl];exact fun q _ _ h=>Yae (fun e=>h Zaa (by rw[e];simp)),NbB (kn 104),NbC rfl,by rw[Ncg _ _ _ _ _ _ _ _ rfl];trivial,by rw[Nci _ _ _ _ _ _ _ _ _ rfl];exact fun q _ _ h=>Yae (fun e=>h Zaa (by rw[e];simp)),?_⟩;rw[NhQ];refine hK9 _ ?_;refine NaL (fun x=>x.env.get 0=.fsl l.length (Sms.cs l)∧x.env.get 3=v∧x.env.get 4=.i .i64 (i:Int)∧x.env.get 5=.ptr B 0∧B<x.st.cnt∧x.st.get B=some (.cells [.i .u8 (e.K.toNat:Int),.i .u8 (e.O.toNat:Int),.s e.J,.s e.I,.i .i64 e.N,slV true (Exs.cp e.A).length (Exs.cs (Exs.cp e.A)),slV true (Sms.cp e.B).length (Sms.cs (Sms.cp e.B)),slV true (Sms.cp e.E).length (Sms.cs (Sms.cp e.E)),.i .i64 e.R] false)∧(Own x.st 9 v i (Sms.cs ((Sms.cp l).take i)))) ?_ ?_
   ·refine⟨?_,?_,?_,?_,Zab,(by rw[Yaf]),(ho.move Zai fun q hq _=>by have:=kv q hq;simp(disch:=omega)only[NaG,NaN];rfl)⟩<;>first|with_reducible rfl|with_reducible assumption|(simp[Yad,g0,g3,g4,g5]<;>omega)
   clear bB g0 g3 g4 g5 kB ho ht;rintro⟨env,⟨sto,c⟩⟩ ⟨g0,g3,g4,g5,bB,kB,ho⟩;try simp only at g0 g3 g4 g5 bB ho
   replace kB:∀ n',St.get ⟨sto,n'⟩ B=some (.cells [.i .u8 (e.K.toNat:Int),.i .u8 (e.O.toNat:Int),.s e.J,.s e.I,.i .i64 e.N,slV true (Exs.cp e.A).length (Exs.cs (Exs.cp e.A)),slV true (Sms.cp e.B).length (Sms.cs (Sms.cp e.B)),slV true (Sms.cp e.E).length (Sms.cs (Sms.cp e.E)),.i .i64 e.R] false):=fun _=>kB;(try rw[Z0]);(try simp(maxSteps:=9^7)(disch:=first|omega|rfl|assumption)only[↓Yaa,Yab,Nae,Naa,rB,rC,rD,rE,reduceIte,unP,rF,g0,g3,g4,g5,kB,Nag,Naf,hv1,hvc,Nc5,List.length_cons,List.length_nil]);rw[←Sm.cp_cs];have kvB:∀ q,q∈keyOf v→q<B:=kv;refine NfK (n:=i) (cs:=Sms.cs ((Sms.cp l).take i)) (news:=e.cp.cs) (m:=1) (ho.move Zai fun q hq _=>by have:=kvB q hq;simp(disch:=omega)only[NaG,NaN];rfl) Zai (fun h=>by have:=kvB _ h;omega) (by rw[Sm.cp_cs];rfl) Zaa (by unfold maxBytes;omega) ?_;rintro v' ⟨sto',c'⟩ hown hcnt hkey hj;simp only[Naz]at hcnt;subst hcnt;rw[←he,←Sms.cp_at l i hil]at hown
   iterate 2
    (try rw[Z0]);(try simp(maxSteps:=9^7)(disch:=first|omega|rfl|assumption)only[↓Yaa,Yab,Nae,Naa,rB,rC,rD,rE,reduceIte,unP,rF,g0,g3,g4,g5,kB])
   intro ht2;exact⟨l.length - (i+1),by omega,i+1,v',rfl,(Nas hil).symm,rfl,rfl,by omega,hown.cnt Zaa,(fun h=>by omega),ht2⟩
  ·obtain rfl:i=l.length:=by omega
   rw[List.take_of_length_le (by rw[Sms.cp_len];omega)]at ho
   iterate 6
    (try rw[Z0]);(try simp(maxSteps:=9^7)(disch:=first|omega|rfl|assumption)only[↓Yaa,Yab,Nae,Naa,rB,rC,rD,rE,reduceIte,unP,rF,g0,g3,g4,hlv])
   subst hX;exact⟨nofun,_,rfl,by simp only[Nau,Yad,if_true];exact ho.cnt Zaa,fun h=>by simp only[Nau,Yad,if_true];exact hz (by rw[h];rfl)⟩
 ·skip
  exact⟨0,.nsl,rfl,Zad,Zad,Zad,Zac,(by rw[List.take_zero,Sms.cs];exact Own.nil _ _),(fun _=>rfl),(fun k _=>rfl)⟩
open Classical in
noncomputable def NjX(d:Nat):List PV→Option PV
 |[v]=>if ∃ (z:Bool) (l:List Sm),v=slV z l.length (Sms.cs l)∧Sms.dp l≤d∧Sms.size l≤100000 then some (nrm v)else none
 |_=>none
theorem NeV(h1:Sms.dp l≤d)(h2:Sms.size l≤100000):NjX d [slV z l.length (Sms.cs l)]=some (slV true (Sms.cp l).length (Sms.cs (Sms.cp l))):=by
 unfold NjX
 dsimp only
 rw[if_pos ⟨z,l,rfl,h1,h2⟩,Sms.nrm_sl]
theorem Ngi:∀ {l:List Sm}{s:Sm},s∈l→s.dp+1≤Sms.dp l
 |[],_,h=>by simp at h
 |a::r,e,h=>by
   rw[Sms.dp];rcases List.mem_cons.1 h with rfl|h
   ·omega
   ·have:=Ngi h;omega
noncomputable def Ncd(d:Nat):Cfg:={ fn:=fun f=>NcA f tblL,ext:=fun f=>if f=44 then some (Nk4 d)else if f=34 then(match d with|0=>none|d+1=>some (NjX d))else none }
theorem NjF(hok:CfgOK Go.Proofs.Try.prog Gl (Ncd d))(hs:Sms.size l≤100000)(hd:Sms.dp l≤d) :
 (Ndr (Nay (Ncd d) (l.length+2+1)) 34 [slV z l.length (Sms.cs l)]).map frzV=some (slV true (Sms.cp l).length (Sms.cs (Sms.cp l))):=by
 have hlle:=Sms.len_le l;have hxe:(Ncd d).ext 44=some (Nk4 d):=by unfold Ncd;simp
 have hxs:∀ d',d=d'+1→(Ncd d).ext 34=some (NjX d'):=fun d' h=>by subst h;unfold Ncd;rfl
 have hin:∀ s∈l,s.dp+1≤d∧s.size≤100000:=fun s hm=>⟨by have:=Ngi hm;omega,by have:=Sms.size_mem hm;omega⟩;obtain⟨r,st',h1,h2,h3⟩:=NhZ hok (by kernel_rfl) (fuel:=l.length+2) (l:=l) (z:=z) (Nat.le_refl _) Zaa
  (fun s hm=>by
   obtain⟨q1,q2⟩:=hin s hm;have hz:=Sm.size_eq s;have hp:=Sm.dp_eq s;rw[Nav hxe];exact Nht Zaa Zaa)
  (fun s hm=>by
   obtain⟨q1,q2⟩:=hin s hm;have hz:=Sm.size_eq s;have hp:=Sm.dp_eq s;rw[Nav (hxs (d - 1) Zaa)];exact NeV Zaa Zaa)
  (fun s hm=>by
   obtain⟨q1,q2⟩:=hin s hm;have hz:=Sm.size_eq s;have hp:=Sm.dp_eq s;rw[Nav (hxs (d - 1) Zaa)];exact NeV Zaa Zaa)
 unfold Ndr;rw[NbS];simp only[h1];rw[Sms.cp_len];exact NeH h2 (NhL _) Zaj (fun h=>h3 (List.eq_nil_of_length_eq_zero h))
theorem Nh0(ih:∀ d',d=d'+1→Nbc Go.Proofs.Try.prog Gl 34 (NjX d')):Nbc Go.Proofs.Try.prog Gl 34 (NjX d):=by
 intro args r hr;unfold NjX at hr;split at hr
 ·rename_i v;split at hr
  ·rename_i hx;obtain⟨z,l,rfl,h1,h2⟩:=hx;rw[Sms.nrm_sl]at hr;have hok:CfgOK Go.Proofs.Try.prog Gl (Ncd d):=NbN NbP (fun f g h=>by
    by_cases hf:f=44
    ·subst hf;simp[Ncd]at h;subst h;exact NfS d
    ·by_cases hf2:f=34
     ·subst hf2;cases d with
      |zero=>simp[Ncd]at h
      |succ d =>
        simp[Ncd]at h;subst h;exact ih d rfl
     ·simp[Ncd,hf,hf2]at h)
   exact Ney (Nc3 (NbZ hok _) _) _ _ ((NjF hok h2 h1).trans hr)
  ·cases hr
 ·cases hr
theorem NfT{Gl:Gmap}:∀ d,Nbc Go.Proofs.Try.prog Gl 34 (NjX d)
 |0=>Nh0 (fun d' h=>by omega)
 |d+1=>Nh0 (fun d' h=>by
   have e:d'=d:=(by omega);rw[e];exact NfT d)
end
end Go.Pe
