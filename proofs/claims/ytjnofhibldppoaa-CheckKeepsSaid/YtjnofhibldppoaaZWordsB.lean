/-
 Words: what is passed over, by the interpreter of plain data. No condition.
-/
import Derived.Test.YtjnofhibldppoaaZWordsM
import Derived.Test.YtjnofhibldppoaaZPeTbl
set_option linter.unusedVariables false
set_option linter.unusedSimpArgs false
open Nat renaming reduceAdd → rA,reduceMul → rB,reduceLT → rC,reduceEqDiff → rD,reduceLeDiff → rE
namespace Go.Pe
open Go
theorem NlB:∀ i,i<256→cut? clsCells i 1=some [.i .u8 (cls (UInt8.ofNat i))]:=by
 intro i hi;unfold cut? clsCells;rw[if_pos Zaj];apply congrArg;apply List.ext_getElem?;intro j;cases j with
 |zero=>simp[List.getElem?_take,List.getElem?_drop,List.getElem?_map,List.getElem?_range,hi]
 |succ j=>simp[List.getElem?_take]
theorem Ndr{st:St}{k:Nat}{fz:Bool}(hk:st.get k=some (.cells clsCells fz))(c:UInt8):NaS st 1 (.ptr k (0+c.toNat * 1))=some [.i .u8 (cls c)]:=by
 unfold NaS;simp only[hk];have h:=NlB c.toNat c.toNat_lt;simp only[UInt8.ofNat_toNat]at h;simpa using h
theorem Nho{cfg:Cfg}(hf:cfg.fn 79=some m79)(hx:cfg.ext 93=some gIndexByte){fuel:Nat}{text:List UInt8}{at0:Nat}(hat:at0≤text.length)(hlen:text.length≤16384)(hfu:text.length<fuel){st:St}{k:Nat}{fz:Bool}(hk:st.get k=some (.cells clsCells fz)) :
 ∃ r st',NaI cfg (fuel+1) 79 [.ptr k 0,.s text,.i .i64 at0] st=some (r,st')∧(r=.i .i64 ((at0+NcJ false (text.drop at0):Nat):Int)∧st'.sto=st.sto∧st.cnt≤st'.cnt):=by
 refine Naz hf ?_;delta m79 Qa Qc Ql Qt Qk Qm Qi Qo;simp only[Naj,↓Z0,↓Xp,↓Xt,Xq,Xc,Nae,Naa,rA,rB,rC,rD,reduceIte];refine Z9 (k:=text.length - at0) (fun d x=>∃ i:Nat,i≤text.length∧d=text.length - i∧i+NcJ false (text.drop i)=at0+NcJ false (text.drop at0)∧x.env.get 0=.ptr k 0∧x.env.get 1=.s text∧x.env.get 2=.i .i64 i∧x.st.sto=st.sto∧st.cnt≤x.st.cnt) ?_ ⟨at0,hat,rfl,rfl,?_⟩ Zaa
 ·rintro d ⟨env,st1⟩ ⟨i,hi,rfl,hp,h0,h1,h2,hs,hc⟩;simp only at h0 h1 h2 hs hc;simp only[↓Z0,↓Xp,↓Xt,Xq,Xc,Nae,Naa,rA,rB,rC,rD,reduceIte,h0,h1,h2];have hk1:∀ c,St.get ⟨st1.sto,c⟩ k=some (.cells clsCells fz):=by
   intro c;show Trie.get (Nat.add k 1) st1.sto k=_;rw[hs];exact hk
  have hld:=fun(c:Nat) (b:UInt8)=>Ndr (hk1 c) b;refine⟨fun hlt=>?_,fun hlt=>?_⟩
  ·have hlt':i<text.length:=(by omega);have hd:=NbT hlt';rw[hd]at hp;refine⟨by omega,hlt',by have:=(text.getD i 0).toNat_lt;omega,?_⟩;have hb1:=(text.getD i 0).toNat_lt;generalize text.getD i 0=c at *;simp only[↓Z0,↓Xp,↓Xt,Xq,Xc,Nae,Naa,rA,rB,rC,rD,reduceIte,hld];by_cases hb:Nc1 c=true
   ·have hp':1+NcJ false (text.drop (i+1))+i=at0+NcJ false (text.drop at0):=by
     rw[←hp];simp[NcJ,hb];omega
    simp only[↓Z0,↓Xp,↓Xt,Xq,Xc,Nae,Naa,rA,rB,rC,rD,reduceIte,Nnl hb];simp only[show(((1:Nat):Int)==Int.ofNat 1)=true from rfl,↓Z0,↓Xp,↓Xt,Xq,Xc,Nae,Naa,rA,rB,rC,rD,reduceIte];refine⟨text.length - (i+1),by omega,i+1,by omega,rfl,by omega,?_,hs,by omega⟩;rw[NaZ _ ⟨by show _≤(i:Int)+1;omega,by show(i:Int)+1<_;omega⟩];rfl
   ·by_cases hr:c=35
    ·simp only[↓Z0,↓Xp,↓Xt,Xq,Xc,Nae,Naa,rA,rB,rC,rD,reduceIte,Nnm hr];simp only[show(((2:Nat):Int)==Int.ofNat 1)=false from rfl,show(((2:Nat):Int)==Int.ofNat 2)=true from rfl,↓Z0,↓Xp,↓Xt,Xq,Xc,Nae,Naa,rA,rB,rC,rD,reduceIte,h1,h2];rw[Ncq ⟨by omega,by omega⟩];simp only[↓Z0,↓Xp,↓Xt,Xq,Xc,Nae,Naa,rA,rB,rC,rD,reduceIte];have hsub:List.take (text.length - i) (text.drop i)=text.drop i:=List.take_of_length_le Zaf;rw[hsub,Naq (r:=.i .i64 (NeS 10 (text.drop i) 0)) rfl (by rw[Nbr hx];rfl) rfl];simp only[↓Z0,↓Xp,↓Xt,Xq,Xc,Nae,Naa,rA,rB,rC,rD,reduceIte];have hpf:NcJ false (c::text.drop (i+1))=1+NcJ true (text.drop (i+1)):=by
      simp only[NcJ];rw[if_neg hb,if_pos hr]
     have hc10:c≠10:=(by rw[hr];decide);have hpt:NcJ true (text.drop i)=1+NcJ true (text.drop (i+1)):=by
      rw[hd];simp only[NcJ,hc10,if_false]
     rcases NeN 10 (text.drop i) 0 with hn|hn
     ·have h1:=Nfn _ _ hn;simp only[List.length_drop]at h1;rw[hn];simp only[show((-1:Int)<Int.ofNat 0)from by decide,↓Z0,↓Xp,↓Xt,Xq,Xc,Nae,Naa,rA,rB,rC,rD,reduceIte];refine⟨nofun,_,rfl,?_,hs,by omega⟩;simp only[NaF,↓Z0,↓Xp,↓Xt,Xq,Xc,Nae,Naa,rA,rB,rC,rD,reduceIte]
      congr 1
      rw[hpf]at hp;omega
     ·obtain⟨p,hpp⟩:∃ p:Nat,NeS 10 (text.drop i) 0=p:=⟨(NeS 10 (text.drop i) 0).toNat,by omega⟩;obtain⟨h1,h2⟩:=Nfo (text.drop i) 0 p (by rw[hpp];simp);simp only[List.length_drop,List.drop_drop]at h1 h2;rw[hpp];have hneg:¬ ((p:Int)<Int.ofNat 0):=by
       show ¬ ((p:Int)<0);omega
      simp only[hneg,↓Z0,↓Xp,↓Xt,Xq,Xc,Nae,Naa,rA,rB,rC,rD,reduceIte];have hp0:p≠0:=by
       intro h0;subst h0;rw[hd]at hpp;unfold NeS at hpp;rw[if_neg hc10]at hpp;rcases NeN 10 (text.drop (i+1)) (0+1)with h|h<;>omega
      refine⟨text.length - (i+p),by omega,i+p,by omega,rfl,by omega,?_,hs,by omega⟩;rw[NaZ _ ⟨by omega,by omega⟩];simp
    ·obtain⟨n1,n2⟩:=Nnk hb hr;have hp':i=at0+NcJ false (text.drop at0):=by
      rw[←hp];simp[NcJ,hb,hr]
     have e1:(((cls c:Nat):Int)==Int.ofNat 1)=false:=by
      simp only[beq_eq_false_iff_ne,ne_eq];show ¬ ((cls c:Nat):Int)=((1:Nat):Int);omega
     have e2:(((cls c:Nat):Int)==Int.ofNat 2)=false:=by
      simp only[beq_eq_false_iff_ne,ne_eq];show ¬ ((cls c:Nat):Int)=((2:Nat):Int);omega
     simp only[e1,e2,↓Z0,↓Xp,↓Xt,Xq,Xc,Nae,Naa,rA,rB,rC,rD,reduceIte,h1,h2];refine⟨nofun,_,rfl,?_,hs,by omega⟩;simp only[NaF,↓Z0,↓Xp,↓Xt,Xq,Xc,Nae,Naa,rA,rB,rC,rD,reduceIte]
     congr 1
     omega
  ·have:i=text.length:=(by omega);subst this;refine⟨nofun,_,rfl,?_,hs,by omega⟩;simp only[NaF,↓Z0,↓Xp,↓Xt,Xq,Xc,Nae,Naa,rA,rB,rC,rD,reduceIte]
   congr 1
   simp[NcJ]at hp;omega
 ·simp[Yad]
end Go.Pe
