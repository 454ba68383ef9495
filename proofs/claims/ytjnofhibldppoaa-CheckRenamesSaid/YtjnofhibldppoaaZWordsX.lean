/-
 Words: the token at a place, by the interpreter of plain data. No condition.
-/
import Derived.Test.YtjnofhibldppoaaZPe4
import Derived.Test.YtjnofhibldppoaaZPeTbl
set_option linter.unusedVariables false
set_option linter.unusedSimpArgs false
open Nat renaming reduceAdd → rB,reduceMul → rC,reduceLT → rD,reduceEqDiff → rE,reduceLeDiff → rF
namespace Go.Pe
open Go
def Nb0(c:UInt8):Bool:=c==9||c==10||c==13||c==32
def NnW(c:UInt8):Bool:=decide (48≤c.toNat)&&decide (c.toNat≤57)
def NlN(c:UInt8):Bool:=(decide (97≤c.toNat)&&decide (c.toNat≤122))||(decide (65≤c.toNat)&&decide (c.toNat≤90))||c==95
def Npu(c:UInt8):Bool:=c==60||c==43||c==45||c==42||c==40||c==41||c==123||c==125||c==59||c==61
def cls(c:UInt8):Nat:=if Nb0 c then 1 else if c==35 then 2 else if NnW c then 3 else if NlN c then 4 else if Npu c then 5 else 0
def clsCells:List PV:=(List.range 256).map fun i=>.i .u8 (cls (UInt8.ofNat i))
def pass:Bool→List UInt8→Nat
 |_,[]=>0
 |true,c::r=>1+(if c=10 then pass false r else pass true r)
 |false,c::r=>if Nb0 c then 1+pass false r else if c=35 then 1+pass true r else 0
theorem Nch:∀ (b:Bool) (l:List UInt8),pass b l≤l.length
 |true,[]=>Nat.le_refl _
 |false,[]=>Nat.le_refl _
 |true,c::r=>by
   simp only[pass,List.length_cons];have:=Nch true r;have:=Nch false r;split<;>omega
 |false,c::r=>by
   simp only[pass,List.length_cons];have:=Nch true r;have:=Nch false r;split
   ·omega
   ·split<;>omega
theorem Ngc(c:UInt8):∀ (l:List UInt8) (n:Nat),Ngo c l n=-1∨(n:Int)≤Ngo c l n
 |[],n=>.inl rfl
 |b::l,n=>by
   unfold Ngo;split
   ·exact .inr (Int.le_refl _)
   ·rcases Ngc c l (n+1)with h|h
    ·exact .inl h
    ·right;omega
theorem Ng0:∀ (l:List UInt8) (n:Nat),Ngo 10 l n=-1→pass true l=l.length
 |[],n,_=>rfl
 |b::l,n,h=>by
   unfold Ngo at h;split at h
   ·omega
   ·rename_i hb;simp only[pass,if_neg hb,List.length_cons];rw[Ng0 l _ h];omega
theorem Ng1:∀ (l:List UInt8) (n:Nat) (p:Nat),Ngo 10 l n=(n+p:Nat)→pass true l=p+pass false (l.drop p)∧p<l.length
 |[],n,p,h=>by simp[Ngo]at h;omega
 |b::l,n,p,h=>by
   unfold Ngo at h;split at h
   ·rename_i hb;have:p=0:=(by omega);subst this;subst hb;simp[pass,Nb0]
   ·rename_i hb;rcases Ngc 10 l (n+1)with h1|h1
    ·rw[h1]at h;omega
    ·obtain⟨q,rfl⟩:∃ q,p=q+1:=⟨p - 1,by omega⟩;obtain⟨h2,h3⟩:=Ng1 l (n+1) q (by rw[h];omega);simp only[pass,if_neg hb,List.drop_succ_cons,List.length_cons,h2];omega
theorem NqY{c:UInt8}(h:Nb0 c=true):cls c=1:=by simp[cls,h]
theorem NqZ{c:UInt8}(h:c=35):cls c=2:=by subst h;decide
theorem NqX{c:UInt8}(h:¬ Nb0 c=true)(h2:¬ c=35):cls c≠1∧cls c≠2:=by
 unfold cls;rw[if_neg h,if_neg (by simpa using h2)];constructor<;>(repeat' split)<;>decide
theorem Nbl{text:List UInt8}{i:Nat}(h:i<text.length):text.drop i=text.getD i 0::text.drop (i+1):=by
 rw[List.drop_eq_getElem_cons h];simp[List.getD_eq_getElem?_getD,List.getElem?_eq_getElem h]
def Ncb(first:Nat):List UInt8→Nat
 |[]=>0
 |c::r=>if cls c=3∨(cls c=4∧first=4)then 1+Ncb first r else 0
theorem NhI(first:Nat):∀ l,Ncb first l≤l.length
 |[]=>Nat.le_refl _
 |c::r=>by
   simp only[Ncb,List.length_cons];have:=NhI first r
   split<;>omega
def endL:List UInt8→Nat
 |[]=>0
 |c::r=>if cls c=5 then(if(c::r).take 2=[45,62]∨(c::r).take 2=[61,61]then 2 else 1)else 1+Ncb (cls c) r
def Neh:Nat→List UInt8→Option Nat
 |n,[]=>some n
 |n,c::r=>if(9223372036854775807 - (c.toNat+208) % 256) / 10<n then none else Neh (n * 10+(c.toNat+208) % 256) r
theorem NoV:∀ i,i<256→cut? clsCells i 1=some [.i .u8 (cls (UInt8.ofNat i))]:=by
 intro i hi;unfold cut? clsCells;rw[if_pos Zak];apply congrArg;apply List.ext_getElem?;intro j;cases j with
 |zero=>simp[List.getElem?_take,List.getElem?_drop,List.getElem?_map,List.getElem?_range,hi]
 |succ j=>simp[List.getElem?_take]
theorem Neu{st:St}{k:Nat}{fz:Bool}(hk:st.get k=some (.cells clsCells fz))(c:UInt8):NaX st 1 (.ptr k (0+c.toNat * 1))=some [.i .u8 (cls c)]:=by
 unfold NaX;simp only[hk];have h:=NoV c.toNat c.toNat_lt;simp only[UInt8.ofNat_toNat]at h;simpa using h
theorem Njw{cfg:Cfg}(hf:cfg.fn 79=some m79)(hx:cfg.ext 93=some gIndexByte){fuel:Nat}{text:List UInt8}{at0:Nat}(hat:at0≤text.length)(hlen:text.length≤16384)(hfu:text.length<fuel){st:St}{k:Nat}{fz:Bool}(hk:st.get k=some (.cells clsCells fz)) :
 ∃ r st',Nay cfg (fuel+1) 79 [.ptr k 0,.s text,.i .i64 at0] st=some (r,st')∧(r=.i .i64 ((at0+pass false (text.drop at0):Nat):Int)∧st'.sto=st.sto∧st.cnt≤st'.cnt):=by
 refine Nax hf ?_;delta m79 Qa Qc Ql Qt Qk Qm Qi Qo;simp only[Naj,↓Z0,↓Xp,↓Xt,Xq,Xc,Nae,Naa,rB,rC,rD,rE,reduceIte];refine Z9 (k:=text.length - at0) (fun d x=>∃ i:Nat,i≤text.length∧d=text.length - i∧i+pass false (text.drop i)=at0+pass false (text.drop at0)∧x.env.get 0=.ptr k 0∧x.env.get 1=.s text∧x.env.get 2=.i .i64 i∧x.st.sto=st.sto∧st.cnt≤x.st.cnt) ?_ ⟨at0,hat,rfl,rfl,?_⟩ Zaa
 ·rintro d ⟨env,st1⟩ ⟨i,hi,rfl,hp,h0,h1,h2,hs,hc⟩;simp only at h0 h1 h2 hs hc;simp only[↓Z0,↓Xp,↓Xt,Xq,Xc,Nae,Naa,rB,rC,rD,rE,reduceIte,h0,h1,h2];have hk1:∀ c,St.get ⟨st1.sto,c⟩ k=some (.cells clsCells fz):=by
   intro c;show Trie.get (Nat.add k 1) st1.sto k=_;rw[hs];exact hk
  have hld:=fun(c:Nat) (b:UInt8)=>Neu (hk1 c) b;refine⟨fun hlt=>?_,fun hlt=>?_⟩
  ·have hlt':i<text.length:=(by omega);have hd:=Nbl hlt';rw[hd]at hp;refine⟨by omega,hlt',by have:=(text.getD i 0).toNat_lt;omega,?_⟩;have hb1:=(text.getD i 0).toNat_lt;generalize text.getD i 0=c at *;simp only[↓Z0,↓Xp,↓Xt,Xq,Xc,Nae,Naa,rB,rC,rD,rE,reduceIte,hld];by_cases hb:Nb0 c=true
   ·have hp':1+pass false (text.drop (i+1))+i=at0+pass false (text.drop at0):=by
     rw[←hp];simp[pass,hb];omega
    simp only[↓Z0,↓Xp,↓Xt,Xq,Xc,Nae,Naa,rB,rC,rD,rE,reduceIte,NqY hb];simp only[show(((1:Nat):Int)==Int.ofNat 1)=true from rfl,↓Z0,↓Xp,↓Xt,Xq,Xc,Nae,Naa,rB,rC,rD,rE,reduceIte];refine⟨text.length - (i+1),by omega,i+1,by omega,rfl,by omega,?_,hs,by omega⟩;rw[NaD _ ⟨by show _≤(i:Int)+1;omega,by show(i:Int)+1<_;omega⟩];rfl
   ·by_cases hr:c=35
    ·simp only[↓Z0,↓Xp,↓Xt,Xq,Xc,Nae,Naa,rB,rC,rD,rE,reduceIte,NqZ hr];simp only[show(((2:Nat):Int)==Int.ofNat 1)=false from rfl,show(((2:Nat):Int)==Int.ofNat 2)=true from rfl,↓Z0,↓Xp,↓Xt,Xq,Xc,Nae,Naa,rB,rC,rD,rE,reduceIte,h1,h2];rw[Nbp ⟨by omega,by omega⟩];simp only[↓Z0,↓Xp,↓Xt,Xq,Xc,Nae,Naa,rB,rC,rD,rE,reduceIte];have hsub:List.take (text.length - i) (text.drop i)=text.drop i:=List.take_of_length_le Zaf;rw[hsub,Nal (r:=.i .i64 (Ngo 10 (text.drop i) 0)) rfl (by rw[Nav hx];rfl) rfl];simp only[↓Z0,↓Xp,↓Xt,Xq,Xc,Nae,Naa,rB,rC,rD,rE,reduceIte];have hpf:pass false (c::text.drop (i+1))=1+pass true (text.drop (i+1)):=by
      simp only[pass];rw[if_neg hb,if_pos hr]
     have hc10:c≠10:=(by rw[hr];decide);have hpt:pass true (text.drop i)=1+pass true (text.drop (i+1)):=by
      rw[hd];simp only[pass,hc10,if_false]
     rcases Ngc 10 (text.drop i) 0 with hn|hn
     ·have h1:=Ng0 _ _ hn;simp only[List.length_drop]at h1;rw[hn];simp only[show((-1:Int)<Int.ofNat 0)from by decide,↓Z0,↓Xp,↓Xt,Xq,Xc,Nae,Naa,rB,rC,rD,rE,reduceIte];refine⟨nofun,_,rfl,?_,hs,by omega⟩;simp only[Nau,↓Z0,↓Xp,↓Xt,Xq,Xc,Nae,Naa,rB,rC,rD,rE,reduceIte]
      congr 1
      rw[hpf]at hp;omega
     ·obtain⟨p,hpp⟩:∃ p:Nat,Ngo 10 (text.drop i) 0=p:=⟨(Ngo 10 (text.drop i) 0).toNat,by omega⟩;obtain⟨h1,h2⟩:=Ng1 (text.drop i) 0 p (by rw[hpp];simp);simp only[List.length_drop,List.drop_drop]at h1 h2;rw[hpp];have hneg:¬ ((p:Int)<Int.ofNat 0):=by
       show ¬ ((p:Int)<0);omega
      simp only[hneg,↓Z0,↓Xp,↓Xt,Xq,Xc,Nae,Naa,rB,rC,rD,rE,reduceIte];have hp0:p≠0:=by
       intro h0;subst h0;rw[hd]at hpp;unfold Ngo at hpp;rw[if_neg hc10]at hpp;rcases Ngc 10 (text.drop (i+1)) (0+1)with h|h<;>omega
      refine⟨text.length - (i+p),by omega,i+p,by omega,rfl,by omega,?_,hs,by omega⟩;rw[NaD _ ⟨by omega,by omega⟩];simp
    ·obtain⟨n1,n2⟩:=NqX hb hr;have hp':i=at0+pass false (text.drop at0):=by
      rw[←hp];simp[pass,hb,hr]
     have e1:(((cls c:Nat):Int)==Int.ofNat 1)=false:=by
      simp only[beq_eq_false_iff_ne,ne_eq];show ¬ ((cls c:Nat):Int)=((1:Nat):Int);omega
     have e2:(((cls c:Nat):Int)==Int.ofNat 2)=false:=by
      simp only[beq_eq_false_iff_ne,ne_eq];show ¬ ((cls c:Nat):Int)=((2:Nat):Int);omega
     simp only[e1,e2,↓Z0,↓Xp,↓Xt,Xq,Xc,Nae,Naa,rB,rC,rD,rE,reduceIte,h1,h2];refine⟨nofun,_,rfl,?_,hs,by omega⟩;simp only[Nau,↓Z0,↓Xp,↓Xt,Xq,Xc,Nae,Naa,rB,rC,rD,rE,reduceIte]
     congr 1
     omega
  ·have:i=text.length:=(by omega);subst this;refine⟨nofun,_,rfl,?_,hs,by omega⟩;simp only[Nau,↓Z0,↓Xp,↓Xt,Xq,Xc,Nae,Naa,rB,rC,rD,rE,reduceIte]
   congr 1
   simp[pass]at hp;omega
 ·simp[Yad]
end Go.Pe
set_option maxHeartbeats 2000000
namespace Go.Pe
open Go
theorem NoW(c:UInt8):cls c<6:=by
 unfold cls
 repeat' split
 all_goals decide
theorem Nnr{cfg:Cfg}(hf:cfg.fn 81=some m81){fuel:Nat}{text:List UInt8}{at0:Nat}(hat:at0<text.length)(hlen:text.length≤16384)(hfu:text.length<fuel){st:St}{k:Nat}{fz:Bool}(hk:st.get k=some (.cells clsCells fz)) :
 ∃ r st',Nay cfg (fuel+1) 81 [.ptr k 0,.s text,.i .i64 at0] st=some (r,st')∧(r=.i .i64 ((at0+endL (text.drop at0):Nat):Int)∧st'.sto=st.sto∧st.cnt≤st'.cnt):=by
 refine Nax hf ?_;delta m81 Qa Qr Qc Ql Qt Qs Qk Qm Qh Qi Qv Qo;have hk1:∀ c,St.get ⟨st.sto,c⟩ k=some (.cells clsCells fz):=fun c=>hk;have hld:=fun(c:Nat) (b:UInt8)=>Neu (hk1 c) b;simp only[Naj,↓Z0,↓Xp,↓Xt,Xq,Xc,Nae,Naa,rB,rC,rD,rE,reduceIte];refine⟨by omega,hat,by have:=(text.getD at0 0).toNat_lt;omega,?_⟩;have hd:=Nbl hat;have hcl:=NoW (text.getD at0 0);rw[hd];generalize text.getD at0 0=c at *;simp only[↓Z0,↓Xp,↓Xt,Xq,Xc,Nae,Naa,rB,rC,rD,rE,reduceIte,hld];by_cases h5:cls c=5
 ·simp only[h5];simp only[show(((5:Nat):Int)==Int.ofNat 5)=true from rfl,↓Z0,↓Xp,↓Xt,Xq,Xc,Nae,Naa,rB,rC,rD,rE,reduceIte];have hw:IntKind.i64.wrap ((at0:Int)+Int.ofNat 2)=(at0:Int)+2:=NaD _ ⟨by show _≤(at0:Int)+2;omega,by show(at0:Int)+2<_;omega⟩;have hw1:IntKind.i64.wrap ((at0:Int)+Int.ofNat 1)=((at0+1:Nat):Int):=by
   rw[NaD _ ⟨by show _≤(at0:Int)+1;omega,by show(at0:Int)+1<_;omega⟩];rfl
  have hw2:IntKind.i64.wrap (((at0+1:Nat):Int)+Int.ofNat 1)=((at0+2:Nat):Int):=by
   rw[NaD _ ⟨by show _≤((at0+1:Nat):Int)+1;omega,by show((at0+1:Nat):Int)+1<_;omega⟩];rfl
  have hm:(if((text.length:Nat):Int)<(at0:Int)+2 then((text.length:Nat):Int)else(at0:Int)+2)=((min (at0+2) text.length:Nat):Int):=by
   split<;>omega
  simp only[hw,hw1,Nk5,if_true,hm,↓Z0,↓Xp,↓Xt,Xq,Xc,Nae,Naa,rB,rC,rD,rE,reduceIte];rw[Nbp ⟨by omega,by omega⟩];simp only[↓Z0,↓Xp,↓Xt,Xq,Xc,Nae,Naa,rB,rC,rD,rE,reduceIte];rw[Nbp ⟨by omega,by omega⟩];simp only[↓Z0,↓Xp,↓Xt,Xq,Xc,Nae,Naa,rB,rC,rD,rE,reduceIte];have htk:List.take (min (at0+2) text.length - at0) (text.drop at0)=(c::text.drop (at0+1)).take 2:=by
   rw[←hd];by_cases h:at0+2≤text.length
   ·rw[Nat.min_eq_left h];congr 1;omega
   ·rw[Nat.min_eq_right Zaa,List.take_of_length_le Zaf,List.take_of_length_le Zak]
  rw[htk];have hend:endL (c::text.drop (at0+1))=if(c::text.drop (at0+1)).take 2=[45,62]∨(c::text.drop (at0+1)).take 2=[61,61]then 2 else 1:=by
   simp only[endL];rw[if_pos h5]
  rw[hend];generalize (c::text.drop (at0+1)).take 2=two at *;by_cases h1:two=[45,62]
  ·have b1:(two==[45,62])=true:=(by simpa using h1);simp only[b1,↓Z0,↓Xp,↓Xt,Xq,Xc,Nae,Naa,rB,rC,rD,rE,reduceIte,hw2];refine⟨nofun,_,rfl,?_,by omega⟩;simp only[Nau,↓Z0,↓Xp,↓Xt,Xq,Xc,Nae,Naa,rB,rC,rD,rE,reduceIte];rw[if_pos (.inl h1)]
  ·have b1:(two==[45,62])=false:=(by simpa using h1);by_cases h2:two=[61,61]
   ·have b2:(two==[61,61])=true:=(by simpa using h2);simp only[b1,b2,↓Z0,↓Xp,↓Xt,Xq,Xc,Nae,Naa,rB,rC,rD,rE,reduceIte,hw2];refine⟨nofun,_,rfl,?_,by omega⟩;simp only[Nau,↓Z0,↓Xp,↓Xt,Xq,Xc,Nae,Naa,rB,rC,rD,rE,reduceIte];rw[if_pos (.inr h2)]
   ·have b2:(two==[61,61])=false:=(by simpa using h2);simp only[b1,b2,↓Z0,↓Xp,↓Xt,Xq,Xc,Nae,Naa,rB,rC,rD,rE,reduceIte];refine⟨nofun,_,rfl,?_,by omega⟩;simp only[Nau,↓Z0,↓Xp,↓Xt,Xq,Xc,Nae,Naa,rB,rC,rD,rE,reduceIte];rw[if_neg (by rintro(h|h)<;>contradiction)]
 ·have e5:(((cls c:Nat):Int)==Int.ofNat 5)=false:=by
   simp only[beq_eq_false_iff_ne,ne_eq];show ¬ ((cls c:Nat):Int)=((5:Nat):Int);omega
  simp only[e5,↓Z0,↓Xp,↓Xt,Xq,Xc,Nae,Naa,rB,rC,rD,rE,reduceIte];have hw1:IntKind.i64.wrap ((at0:Int)+Int.ofNat 1)=((at0+1:Nat):Int):=by
   rw[NaD _ ⟨by show _≤(at0:Int)+1;omega,by show(at0:Int)+1<_;omega⟩];rfl
  rw[hw1];have hend:endL (c::text.drop (at0+1))=1+Ncb (cls c) (text.drop (at0+1)):=by
   simp only[endL];rw[if_neg h5]
  refine Z9 (k:=text.length - (at0+1)) (fun d x=>∃ i:Nat,i≤text.length∧d=text.length - i∧i+Ncb (cls c) (text.drop i)=at0+endL (c::text.drop (at0+1))∧x.env.get 0=.ptr k 0∧x.env.get 1=.s text∧x.env.get 7=.i .u8 (cls c)∧x.env.get 8=.i .i64 i∧x.st.sto=st.sto∧st.cnt≤x.st.cnt) ?_ ⟨at0+1,by omega,rfl,by rw[hend];omega,?_⟩ Zaa
  ·rintro d ⟨env,st1⟩ ⟨i,hi,rfl,hp,g0,g1,g7,g8,hs,hcn⟩;simp only at g0 g1 g7 g8 hs hcn;have hk2:∀ c,St.get ⟨st1.sto,c⟩ k=some (.cells clsCells fz):=by
    intro c;show Trie.get (Nat.add k 1) st1.sto k=_;rw[hs];exact hk
   have hld2:=fun(c:Nat) (b:UInt8)=>Neu (hk2 c) b;by_cases hlt:i<text.length
   ·have hdi:=Nbl hlt;rw[hdi]at hp;have hb2:=(text.getD i 0).toNat_lt;have hlti:((i:Nat):Int)<((text.length:Nat):Int):=(by omega);have hr3:Ncb (cls c) (text.getD i 0::text.drop (i+1))=if cls (text.getD i 0)=3∨(cls (text.getD i 0)=4∧cls c=4)then 1+Ncb (cls c) (text.drop (i+1))else 0:=rfl;rw[hr3]at hp;have hwi:IntKind.i64.wrap ((i:Int)+Int.ofNat 1)=((i+1:Nat):Int):=by
     rw[NaD _ ⟨by show _≤(i:Int)+1;omega,by show(i:Int)+1<_;omega⟩];rfl
    have hb:=hb2;have c3:∀ m:Nat,cls (text.getD i 0)=m→(((cls (text.getD i 0):Nat):Int)==Int.ofNat m)=true:=by
     intro m h;rw[h];simp
    have n3:∀ m:Nat,cls (text.getD i 0)≠m→(((cls (text.getD i 0):Nat):Int)==Int.ofNat m)=false:=by
     intro m h;simp only[beq_eq_false_iff_ne,ne_eq];show ¬ ((cls (text.getD i 0):Nat):Int)=(m:Int);omega
    by_cases h3:cls (text.getD i 0)=3
    ·simp only[↓Z0,↓Xp,↓Xt,Xq,Xc,Nae,Naa,rB,rC,rD,rE,reduceIte,g0,g1,g7,g8,hlti,hld2,c3 3 h3,hwi];refine⟨by omega,hlt,by omega,text.length - (i+1),by omega,i+1,by omega,rfl,?_,rfl,hs,by omega⟩;rw[if_pos (.inl h3)]at hp;omega
    ·by_cases h4:cls (text.getD i 0)=4
     ·by_cases hc4:cls c=4
      ·have ec:(((cls c:Nat):Int)==Int.ofNat 4)=true:=(by rw[hc4];rfl);simp only[↓Z0,↓Xp,↓Xt,Xq,Xc,Nae,Naa,rB,rC,rD,rE,reduceIte,g0,g1,g7,g8,hlti,hld2,n3 3 h3,c3 4 h4,ec,hwi];refine⟨by omega,hlt,by omega,by omega,hlt,by omega,text.length - (i+1),by omega,i+1,by omega,rfl,?_,rfl,hs,by omega⟩;rw[if_pos (.inr ⟨h4,hc4⟩)]at hp;omega
      ·have ec:(((cls c:Nat):Int)==Int.ofNat 4)=false:=by
        simp only[beq_eq_false_iff_ne,ne_eq];show ¬ ((cls c:Nat):Int)=((4:Nat):Int);omega
       simp only[↓Z0,↓Xp,↓Xt,Xq,Xc,Nae,Naa,rB,rC,rD,rE,reduceIte,g0,g1,g7,g8,hlti,hld2,n3 3 h3,c3 4 h4,ec,hwi];rw[if_neg Zaa]at hp;refine⟨by omega,hlt,by omega,by omega,hlt,by omega,nofun,_,rfl,?_,hs,by omega⟩;simp only[Nau,↓Z0,↓Xp,↓Xt,Xq,Xc,Nae,Naa,rB,rC,rD,rE,reduceIte]
       congr 1;omega
     ·simp only[↓Z0,↓Xp,↓Xt,Xq,Xc,Nae,Naa,rB,rC,rD,rE,reduceIte,g0,g1,g7,g8,hlti,hld2,n3 3 h3,n3 4 h4,hwi];rw[if_neg Zaa]at hp;refine⟨by omega,hlt,by omega,by omega,hlt,by omega,nofun,_,rfl,?_,hs,by omega⟩;simp only[Nau,↓Z0,↓Xp,↓Xt,Xq,Xc,Nae,Naa,rB,rC,rD,rE,reduceIte]
      congr 1;omega
   ·have hie:i=text.length:=(by omega);subst hie;simp only[↓Z0,↓Xp,↓Xt,Xq,Xc,Nae,Naa,rB,rC,rD,rE,reduceIte,g0,g1,g7,g8,Int.lt_irrefl];refine⟨nofun,_,rfl,?_,hs,by omega⟩;simp only[Nau,↓Z0,↓Xp,↓Xt,Xq,Xc,Nae,Naa,rB,rC,rD,rE,reduceIte]
    congr 1
    simp[Ncb]at hp;omega
  ·simp[Yad]
end Go.Pe
set_option maxHeartbeats 2000000
namespace Go.Pe
open Go
def numR(l:List UInt8):PV:=match Neh 0 l with
 |some n=>.tup [.i .i64 n,.b true]
 |none=>.tup [.i .i64 0,.b false]
theorem Nkk{cfg:Cfg}(hf:cfg.fn 82=some m82){fuel:Nat}{l:List UInt8}(hlen:l.length≤16384)(hfu:l.length<fuel){st:St} :
 ∃ r st',Nay cfg (fuel+1) 82 [.s l] st=some (r,st')∧r=numR l:=by
 refine Nax hf ?_;delta m82 Qa Qr Ql Qt Qk Qm Qi Qo;simp only[Naj,↓Z0,↓Xp,↓Xt,Xq,Xc,Nae,Naa,rB,rC,rD,rE,reduceIte];refine⟨by show l.length≤140737488355328;omega,?_⟩;simp only[↓Z0,↓Xp,↓Xt,Xq,Xc,Nae,Naa,rB,rC,rD,rE,reduceIte,Nd7];refine Z9 (k:=l.length - 0) (fun d x=>∃ i n:Nat,i≤l.length∧d=l.length - i∧n≤9223372036854775807∧Neh n (l.drop i)=Neh 0 l∧(∃ kk,x.env.get 9=.rsl kk 1 0 l.length∧x.st.get kk=some (.cells (Nbs l) false))∧x.env.get 10=.i .i64 l.length∧x.env.get 11=.i .i64 i∧x.env.get 4=.i .i64 n) ?_ ⟨0,0,Nat.zero_le _,rfl,by omega,rfl,⟨st.cnt+32,?_,?_⟩,?_⟩ Zaa
 ·rintro d ⟨env,st1⟩ ⟨i,n,hi,rfl,hn,hp,⟨kk,g9,hk⟩,g10,g11,g4⟩;simp only at g9 hk g10 g11 g4;by_cases hlt:i<l.length
  ·have hd:=Nbl hlt;rw[hd]at hp;have hlti:((i:Nat):Int)<((l.length:Nat):Int):=(by omega);have hld:=fun c=>Nj9 (st:=⟨st1.sto,c⟩) (k:=kk) (fz:=false) (l:=l) hk hlt;have hb:=(l.getD i 0).toNat_lt;have hw8:∀ c:UInt8,IntKind.u8.wrap ((c.toNat:Int) - Int.ofNat 48)=(((c.toNat+208) % 256:Nat):Int):=by
    intro c;rw[IntKind.wrap_u8];show((c.toNat:Int) - 48) % 256=_;omega
   have hwd:∀ m:Nat,m<256→IntKind.i64.wrap (m:Int)=(m:Int):=fun m hm=>NaD _ ⟨by omega,by omega⟩;have hm:=Nat.mod_lt ((l.getD i 0).toNat+208) (show 256 > 0 by omega);generalize hdd:((l.getD i 0).toNat+208) % 256=dd at *;have hws:IntKind.i64.wrap (Int.ofNat 9223372036854775807 - (dd:Int))=((9223372036854775807 - dd:Nat):Int):=by
    rw[NaD _ ⟨by show _≤(9223372036854775807:Int) - dd;omega,by show(9223372036854775807:Int) - dd<_;omega⟩];show(9223372036854775807:Int) - dd=_;omega
   have hq:(((9223372036854775807 - dd:Nat):Int)).tdiv (Int.ofNat 10)=(((9223372036854775807 - dd) / 10:Nat):Int):=rfl;have hwq:IntKind.i64.wrap ((((9223372036854775807 - dd) / 10:Nat):Int))=(((9223372036854775807 - dd) / 10:Nat):Int):=NaD _ ⟨by omega,by omega⟩;have hz:¬ (Int.ofNat 10=0):=(by decide);have hwi:IntKind.i64.wrap ((i:Int)+Int.ofNat 1)=((i+1:Nat):Int):=by
    rw[NaD _ ⟨by show _≤(i:Int)+1;omega,by show(i:Int)+1<_;omega⟩];rfl
   have hnl:Neh n (l.getD i 0::l.drop (i+1))=if(9223372036854775807 - dd) / 10<n then none else Neh (n * 10+dd) (l.drop (i+1)):=by
    rw[←hdd];rfl
   rw[hnl]at hp;by_cases hgt:(9223372036854775807 - dd) / 10<n
   ·have hgt':((n:Nat):Int) > (((9223372036854775807 - dd) / 10:Nat):Int):=(by omega);simp only[↓Z0,↓Xp,↓Xt,Xq,Xc,Nae,Naa,rB,rC,rD,rE,reduceIte,g9,g10,g11,g4,hlti,hld,hw8,hdd,hwd dd hm,hws,hz,hq,hwq,hgt'];rw[if_pos hgt]at hp;refine⟨by omega,nofun,_,rfl,?_⟩;simp only[numR,←hp,Nau,↓Z0,↓Xp,↓Xt,Xq,Xc,Nae,Naa,rB,rC,rD,rE,reduceIte];rfl
   ·have hgt':¬ (((n:Nat):Int) > (((9223372036854775807 - dd) / 10:Nat):Int)):=(by omega);have hwm:IntKind.i64.wrap ((n:Int) * Int.ofNat 10)=((n * 10:Nat):Int):=by
     rw[NaD _ ⟨by show _≤(n:Int) * 10;omega,by show(n:Int) * 10<_;omega⟩];rfl
    have hwa:IntKind.i64.wrap (((n * 10:Nat):Int)+(dd:Int))=((n * 10+dd:Nat):Int):=by
     rw[NaD _ ⟨by omega,by omega⟩];rfl
    simp only[↓Z0,↓Xp,↓Xt,Xq,Xc,Nae,Naa,rB,rC,rD,rE,reduceIte,g9,g10,g11,g4,hlti,hld,hw8,hdd,hwd dd hm,hws,hz,hq,hwq,hgt',hwi,hwm,hwa];rw[if_neg hgt]at hp;exact⟨by omega,l.length - (i+1),by omega,i+1,n * 10+dd,by omega,rfl,by omega,hp,⟨kk,rfl,hk⟩,rfl,rfl⟩
  ·have hie:i=l.length:=(by omega);subst hie;simp only[↓Z0,↓Xp,↓Xt,Xq,Xc,Nae,Naa,rB,rC,rD,rE,reduceIte,g9,g10,g11,g4,Int.lt_irrefl];refine⟨nofun,_,rfl,?_⟩;simp only[List.drop_length,Neh]at hp;simp only[numR,←hp,Nau,↓Z0,↓Xp,↓Xt,Xq,Xc,Nae,Naa,rB,rC,rD,rE,reduceIte]
 ·simp[Yad]
 ·simp[St.get_cnt,Yaf]
 ·simp[Yad]
end Go.Pe
namespace Go.Pe
open Go Go.Am Go.RowKit
section
variable {st:St}{k:Nat}{cs:List PV}
def NrZ:FuncId→Option (List PV→Option PV):=fun f=>if f=83 then some gContains else if f=80 then some gCount else if f=93 then some gIndexByte else none
noncomputable def cfgW:Cfg:={ fn:=fun f=>NcA f tblL,ext:=NrZ }
theorem NiR(n:Nat):fvP cfgW (n+60) 78 []=some (.agg clsCells):=by
 kernel_rfl
def keyText:List UInt8:=[32,97,99,113,117,105,114,101,32,97,100,100,32,97,114,114,105,118,101,32,98,97,114,114,105,101,114,32,98,114,111,97,100,99,97,115,116,32,99,111,110,100,32,100,111,32,100,111,110,101,32,101,108,115,101,32,105,102,32,108,111,99,107,32,108,111,99,107,102,111,114,32,108,111,111,112,32,109,117,116,101,120,32,111,110,99,101,32,112,117,116,32,113,117,101,117,101,32,114,101,97,100,32,114,101,108,101,97,115,101,32,114,108,111,99,107,32,114,117,110,108,111,99,107,32,114,119,108,111,99,107,32,115,101,109,32,115,101,116,32,115,105,103,110,97,108,32,116,97,107,101,32,116,104,114,101,97,100,32,116,114,121,97,99,113,117,105,114,101,32,116,114,121,108,111,99,107,32,117,110,108,111,99,107,32,118,97,114,32,119,97,105,116,32,119,97,105,116,102,111,114,32,119,97,105,116,111,110,32,119,108,111,99,107,32,119,114,105,116,101,32,119,117,110,108,111,99,107,32]
def Nbm(err line:Int):PV:=.tup [.agg [.i .u8 0,.s [],.i .i64 0,.i .i64 0,.i .i64 0,.i .i64 0],.agg [.i .i64 err,.i .i64 line]]
def Nck(kind:Int)(s:List UInt8)(n line a e:Int):PV:=.tup [.agg [.i .u8 kind,.s s,.i .i64 n,.i .i64 line,.i .i64 a,.i .i64 e],.agg [.i .i64 0,.i .i64 0]]
def Ndh(text:List UInt8)(at0:Nat):PV :=
 let a:=at0+pass false (text.drop at0)
 let line:Int:=Ned 10 (text.take a) 0+1
 if a=text.length then Nck 5 [] 0 line a a else
 let e:=a+endL (text.drop a)
 let s:=(text.drop a).take (endL (text.drop a))
 let c:=cls (text.getD a 0)
 if c=3 then match Neh 0 s with
  |some n=>Nck 1 [] n line a e
  |none=>Nbm 100 line
 else if c=4 then Nck (if Nep (32::s++[32]) keyText then 3 else 2) s 0 line a e
 else if c=5∧s≠[61]then Nck 4 s 0 line a e
 else Nbm 100 line
theorem NfO(n:Nat):Nak cfgW (Nay cfgW (n+60)) 78 []=some (.agg clsCells):=by
 have h:=NiR n;rw[NmJ]at h;exact h
theorem Nrn:cfgW.ext 93=some gIndexByte:=by kernel_rfl
theorem Nrl:cfgW.ext 80=some gCount:=by kernel_rfl
theorem Nrk:cfgW.ext 83=some gContains:=by kernel_rfl
theorem Nrj:cfgW.ext 79=none:=by kernel_rfl
theorem Nrm:cfgW.ext 81=none:=by kernel_rfl
theorem Nro:cfgW.ext 82=none:=by kernel_rfl
theorem Nrg:cfgW.fn 79=some m79:=by kernel_rfl
theorem Nrh:cfgW.fn 81=some m81:=by kernel_rfl
theorem Nri:cfgW.fn 82=some m82:=by kernel_rfl
theorem NlL:cfgW.fn 64=some m64:=by kernel_rfl
theorem Ngy:clsCells.length=256:=by simp[clsCells]
theorem Ngz:clsCells.all PV.one=true:=by
 rw[List.all_eq_true];intro p hp;simp only[clsCells,List.mem_map]at hp;obtain⟨i,_,rfl⟩:=hp;rfl
theorem NbH{n:Nat}{v:PV}(hk:st.get k=some (.cells cs false))(hv:v.cells.length=n)(hn:cs.length=n)(h1:v.cells.all PV.one=true):Na1 st n (.ptr k 0) v=some (st.put k (some (.cells v.cells false))):=by
 unfold Na1;simp only[hk];rw[if_pos ⟨hv,by omega,h1⟩];have:List.drop n cs=[]:=List.drop_of_length_le Zaa;simp[this]
theorem Nbq{n:Nat}{fz:Bool}(hk:st.get k=some (.cells cs fz))(hn:cs.length=n):NaX st n (.ptr k 0)=some cs:=by
 unfold NaX;simp only[hk];unfold cut?;rw[if_pos Zaa];subst hn;simp
theorem Nb4{off:Nat}{v:PV}(hk:st.get k=some (.cells cs false))(ho:off<cs.length)(hv:v.cells=[v])(h1:v.one=true):Na1 st 1 (.ptr k off) v=some (st.put k (some (.cells (cs.set off v) false))):=by
 unfold Na1;simp only[hk,hv];rw[if_pos ⟨rfl,by omega,by simp[h1]⟩];rw[List.set_eq_take_append_cons_drop,if_pos ho];simp
theorem Nd4{env:Env}{w w0 f f0:List PV}{R:PV}(h4:env.get 4=.ptr 1 0)(h5:env.get 5=.ptr 9 0)(k1:st.get 1=some (.cells w0 false))(k9:st.get 9=some (.cells f0 false))(l0:w0.length=6)(lf0:f0.length=2)(lw:w.length=6)(lf:f.length=2)(ow:w.all PV.one=true)(of:f.all PV.one=true)(hR:R=.tup [.agg w,.agg f]) :
 WV (Option.map (fun x=>(PV.tup [],x)) (Na1 st 6 (.ptr 1 0) (.agg w))) fun v st'=>WV (Option.map (fun x=>(PV.tup [],x)) (Na1 st' 2 (.ptr 9 0) (.agg f))) fun v st' =>
  (∀ (id:Nat),¬ MExit.ret=MExit.ex id)∧∃ vs,mapO (Nej ⟨env,st'⟩) [MRes.cell 4 true 6,MRes.cell 5 true 2]=some vs∧Nau vs=R:=by
 rw[NbH (v:=.agg w) k1 lw l0 ow];simp only[map_some,Zx,PV.cells];rw[NbH (v:=.agg f) (st:=st.put 1 (some (.cells w false))) (by rw[Yae (by decide)];exact k9) lf lf0 of];simp only[map_some,Zx,PV.cells];refine⟨nofun,[.agg w,.agg f],?_,by rw[hR];rfl⟩;have q1:((st.put 1 (some (.cells w false))).put 9 (some (.cells f false))).get 1=some (.cells w false):=by
  rw[Yae Zaj,Yaf]
 have q9:=Yaf (st.put 1 (some (.cells w false))) 9 (some (.cells f false));simp only[mapO,Nej,h4,h5,Nbq q1 lw,Nbq q9 lf,Naa,if_true]
theorem Nl2{M:Nat}{s:List UInt8}(hl:s.length≤16384)(hM:s.length<M):Nak cfgW (Nay cfgW (M+60)) 82 [.s s]=some (numR s):=by
 obtain⟨r,st',h1,h2⟩:=Nkk (fuel:=M+59) Nri hl Zaa (st:={ sto:=.leaf,cnt:=1 });unfold Nak;simp only[Nro];unfold Ndr;have h1':Nay cfgW (M+60) 82 (NaC [.s s]).1 (NaC [.s s]).2=some (r,st'):=h1;have hc:NaU st' (numR s)=some (numR s):=by
  unfold numR;cases Neh 0 s with
  |none=>exact Nb7 (vs:=[.i .i64 0,.b false]) rfl
  |some n=>exact Nb7 (vs:=[.i .i64 n,.b true]) rfl
 rw[h1',h2];exact hc
end
end Go.Pe
