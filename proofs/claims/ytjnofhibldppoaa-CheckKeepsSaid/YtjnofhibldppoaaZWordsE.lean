/-
 Words: where a token ends, by the interpreter of plain data. No condition.
-/
import Derived.Test.YtjnofhibldppoaaZWordsB
set_option linter.unusedVariables false
set_option linter.unusedSimpArgs false
set_option maxHeartbeats 2000000
open Nat renaming reduceAdd → rA,reduceMul → rB,reduceLT → rC,reduceEqDiff → rD,reduceLeDiff → rE
namespace Go.Pe
open Go
theorem NlC(c:UInt8):cls c<6:=by
 unfold cls
 repeat' split
 all_goals decide
theorem Nkn{cfg:Cfg}(hf:cfg.fn 81=some m81){fuel:Nat}{text:List UInt8}{at0:Nat}(hat:at0<text.length)(hlen:text.length≤16384)(hfu:text.length<fuel){st:St}{k:Nat}{fz:Bool}(hk:st.get k=some (.cells clsCells fz)) :
 ∃ r st',NaI cfg (fuel+1) 81 [.ptr k 0,.s text,.i .i64 at0] st=some (r,st')∧(r=.i .i64 ((at0+Nhc (text.drop at0):Nat):Int)∧st'.sto=st.sto∧st.cnt≤st'.cnt):=by
 refine Naz hf ?_;delta m81 Qa Qr Qc Ql Qt Qs Qk Qm Qh Qi Qv Qo;have hk1:∀ c,St.get ⟨st.sto,c⟩ k=some (.cells clsCells fz):=fun c=>hk;have hld:=fun(c:Nat) (b:UInt8)=>Ndr (hk1 c) b;simp only[Naj,↓Z0,↓Xp,↓Xt,Xq,Xc,Nae,Naa,rA,rB,rC,rD,reduceIte];refine⟨by omega,hat,by have:=(text.getD at0 0).toNat_lt;omega,?_⟩;have hd:=NbT hat;have hcl:=NlC (text.getD at0 0);rw[hd];generalize text.getD at0 0=c at *;simp only[↓Z0,↓Xp,↓Xt,Xq,Xc,Nae,Naa,rA,rB,rC,rD,reduceIte,hld];by_cases h5:cls c=5
 ·simp only[h5];simp only[show(((5:Nat):Int)==Int.ofNat 5)=true from rfl,↓Z0,↓Xp,↓Xt,Xq,Xc,Nae,Naa,rA,rB,rC,rD,reduceIte];have hw:IntKind.i64.wrap ((at0:Int)+Int.ofNat 2)=(at0:Int)+2:=NaZ _ ⟨by show _≤(at0:Int)+2;omega,by show(at0:Int)+2<_;omega⟩;have hw1:IntKind.i64.wrap ((at0:Int)+Int.ofNat 1)=((at0+1:Nat):Int):=by
   rw[NaZ _ ⟨by show _≤(at0:Int)+1;omega,by show(at0:Int)+1<_;omega⟩];rfl
  have hw2:IntKind.i64.wrap (((at0+1:Nat):Int)+Int.ofNat 1)=((at0+2:Nat):Int):=by
   rw[NaZ _ ⟨by show _≤((at0+1:Nat):Int)+1;omega,by show((at0+1:Nat):Int)+1<_;omega⟩];rfl
  have hm:(if((text.length:Nat):Int)<(at0:Int)+2 then((text.length:Nat):Int)else(at0:Int)+2)=((min (at0+2) text.length:Nat):Int):=by
   split<;>omega
  simp only[hw,hw1,Niz,if_true,hm,↓Z0,↓Xp,↓Xt,Xq,Xc,Nae,Naa,rA,rB,rC,rD,reduceIte];rw[Ncq ⟨by omega,by omega⟩];simp only[↓Z0,↓Xp,↓Xt,Xq,Xc,Nae,Naa,rA,rB,rC,rD,reduceIte];rw[Ncq ⟨by omega,by omega⟩];simp only[↓Z0,↓Xp,↓Xt,Xq,Xc,Nae,Naa,rA,rB,rC,rD,reduceIte];have htk:List.take (min (at0+2) text.length - at0) (text.drop at0)=(c::text.drop (at0+1)).take 2:=by
   rw[←hd];by_cases h:at0+2≤text.length
   ·rw[Nat.min_eq_left h];congr 1;omega
   ·rw[Nat.min_eq_right Zaa,List.take_of_length_le Zaf,List.take_of_length_le Zaj]
  rw[htk];have hend:Nhc (c::text.drop (at0+1))=if(c::text.drop (at0+1)).take 2=[45,62]∨(c::text.drop (at0+1)).take 2=[61,61]then 2 else 1:=by
   simp only[Nhc];rw[if_pos h5]
  rw[hend];generalize (c::text.drop (at0+1)).take 2=two at *;by_cases h1:two=[45,62]
  ·have b1:(two==[45,62])=true:=(by simpa using h1);simp only[b1,↓Z0,↓Xp,↓Xt,Xq,Xc,Nae,Naa,rA,rB,rC,rD,reduceIte,hw2];refine⟨nofun,_,rfl,?_,by omega⟩;simp only[NaF,↓Z0,↓Xp,↓Xt,Xq,Xc,Nae,Naa,rA,rB,rC,rD,reduceIte];rw[if_pos (.inl h1)]
  ·have b1:(two==[45,62])=false:=(by simpa using h1);by_cases h2:two=[61,61]
   ·have b2:(two==[61,61])=true:=(by simpa using h2);simp only[b1,b2,↓Z0,↓Xp,↓Xt,Xq,Xc,Nae,Naa,rA,rB,rC,rD,reduceIte,hw2];refine⟨nofun,_,rfl,?_,by omega⟩;simp only[NaF,↓Z0,↓Xp,↓Xt,Xq,Xc,Nae,Naa,rA,rB,rC,rD,reduceIte];rw[if_pos (.inr h2)]
   ·have b2:(two==[61,61])=false:=(by simpa using h2);simp only[b1,b2,↓Z0,↓Xp,↓Xt,Xq,Xc,Nae,Naa,rA,rB,rC,rD,reduceIte];refine⟨nofun,_,rfl,?_,by omega⟩;simp only[NaF,↓Z0,↓Xp,↓Xt,Xq,Xc,Nae,Naa,rA,rB,rC,rD,reduceIte];rw[if_neg (by rintro(h|h)<;>contradiction)]
 ·have e5:(((cls c:Nat):Int)==Int.ofNat 5)=false:=by
   simp only[beq_eq_false_iff_ne,ne_eq];show ¬ ((cls c:Nat):Int)=((5:Nat):Int);omega
  simp only[e5,↓Z0,↓Xp,↓Xt,Xq,Xc,Nae,Naa,rA,rB,rC,rD,reduceIte];have hw1:IntKind.i64.wrap ((at0:Int)+Int.ofNat 1)=((at0+1:Nat):Int):=by
   rw[NaZ _ ⟨by show _≤(at0:Int)+1;omega,by show(at0:Int)+1<_;omega⟩];rfl
  rw[hw1];have hend:Nhc (c::text.drop (at0+1))=1+NjA (cls c) (text.drop (at0+1)):=by
   simp only[Nhc];rw[if_neg h5]
  refine Z9 (k:=text.length - (at0+1)) (fun d x=>∃ i:Nat,i≤text.length∧d=text.length - i∧i+NjA (cls c) (text.drop i)=at0+Nhc (c::text.drop (at0+1))∧x.env.get 0=.ptr k 0∧x.env.get 1=.s text∧x.env.get 7=.i .u8 (cls c)∧x.env.get 8=.i .i64 i∧x.st.sto=st.sto∧st.cnt≤x.st.cnt) ?_ ⟨at0+1,by omega,rfl,by rw[hend];omega,?_⟩ Zaa
  ·rintro d ⟨env,st1⟩ ⟨i,hi,rfl,hp,g0,g1,g7,g8,hs,hcn⟩;simp only at g0 g1 g7 g8 hs hcn;have hk2:∀ c,St.get ⟨st1.sto,c⟩ k=some (.cells clsCells fz):=by
    intro c;show Trie.get (Nat.add k 1) st1.sto k=_;rw[hs];exact hk
   have hld2:=fun(c:Nat) (b:UInt8)=>Ndr (hk2 c) b;by_cases hlt:i<text.length
   ·have hdi:=NbT hlt;rw[hdi]at hp;have hb2:=(text.getD i 0).toNat_lt;have hlti:((i:Nat):Int)<((text.length:Nat):Int):=(by omega);have hr3:NjA (cls c) (text.getD i 0::text.drop (i+1))=if cls (text.getD i 0)=3∨(cls (text.getD i 0)=4∧cls c=4)then 1+NjA (cls c) (text.drop (i+1))else 0:=rfl;rw[hr3]at hp;have hwi:IntKind.i64.wrap ((i:Int)+Int.ofNat 1)=((i+1:Nat):Int):=by
     rw[NaZ _ ⟨by show _≤(i:Int)+1;omega,by show(i:Int)+1<_;omega⟩];rfl
    have hb:=hb2;have c3:∀ m:Nat,cls (text.getD i 0)=m→(((cls (text.getD i 0):Nat):Int)==Int.ofNat m)=true:=by
     intro m h;rw[h];simp
    have n3:∀ m:Nat,cls (text.getD i 0)≠m→(((cls (text.getD i 0):Nat):Int)==Int.ofNat m)=false:=by
     intro m h;simp only[beq_eq_false_iff_ne,ne_eq];show ¬ ((cls (text.getD i 0):Nat):Int)=(m:Int);omega
    by_cases h3:cls (text.getD i 0)=3
    ·simp only[↓Z0,↓Xp,↓Xt,Xq,Xc,Nae,Naa,rA,rB,rC,rD,reduceIte,g0,g1,g7,g8,hlti,hld2,c3 3 h3,hwi];refine⟨by omega,hlt,by omega,text.length - (i+1),by omega,i+1,by omega,rfl,?_,rfl,hs,by omega⟩;rw[if_pos (.inl h3)]at hp;omega
    ·by_cases h4:cls (text.getD i 0)=4
     ·by_cases hc4:cls c=4
      ·have ec:(((cls c:Nat):Int)==Int.ofNat 4)=true:=(by rw[hc4];rfl);simp only[↓Z0,↓Xp,↓Xt,Xq,Xc,Nae,Naa,rA,rB,rC,rD,reduceIte,g0,g1,g7,g8,hlti,hld2,n3 3 h3,c3 4 h4,ec,hwi];refine⟨by omega,hlt,by omega,by omega,hlt,by omega,text.length - (i+1),by omega,i+1,by omega,rfl,?_,rfl,hs,by omega⟩;rw[if_pos (.inr ⟨h4,hc4⟩)]at hp;omega
      ·have ec:(((cls c:Nat):Int)==Int.ofNat 4)=false:=by
        simp only[beq_eq_false_iff_ne,ne_eq];show ¬ ((cls c:Nat):Int)=((4:Nat):Int);omega
       simp only[↓Z0,↓Xp,↓Xt,Xq,Xc,Nae,Naa,rA,rB,rC,rD,reduceIte,g0,g1,g7,g8,hlti,hld2,n3 3 h3,c3 4 h4,ec,hwi];rw[if_neg Zaa]at hp;refine⟨by omega,hlt,by omega,by omega,hlt,by omega,nofun,_,rfl,?_,hs,by omega⟩;simp only[NaF,↓Z0,↓Xp,↓Xt,Xq,Xc,Nae,Naa,rA,rB,rC,rD,reduceIte]
       congr 1;omega
     ·simp only[↓Z0,↓Xp,↓Xt,Xq,Xc,Nae,Naa,rA,rB,rC,rD,reduceIte,g0,g1,g7,g8,hlti,hld2,n3 3 h3,n3 4 h4,hwi];rw[if_neg Zaa]at hp;refine⟨by omega,hlt,by omega,by omega,hlt,by omega,nofun,_,rfl,?_,hs,by omega⟩;simp only[NaF,↓Z0,↓Xp,↓Xt,Xq,Xc,Nae,Naa,rA,rB,rC,rD,reduceIte]
      congr 1;omega
   ·have hie:i=text.length:=(by omega);subst hie;simp only[↓Z0,↓Xp,↓Xt,Xq,Xc,Nae,Naa,rA,rB,rC,rD,reduceIte,g0,g1,g7,g8,Int.lt_irrefl];refine⟨nofun,_,rfl,?_,hs,by omega⟩;simp only[NaF,↓Z0,↓Xp,↓Xt,Xq,Xc,Nae,Naa,rA,rB,rC,rD,reduceIte]
    congr 1
    simp[NjA]at hp;omega
  ·simp[Yad]
end Go.Pe
