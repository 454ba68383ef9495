/-
 Words: the document's answer, by the interpreter of plain data: the token at a place. No condition.
-/
import Derived.Test.YtjnofhibldppoaaZWordsG
import Derived.Test.YtjnofhibldppoaaZWordsS
set_option linter.unusedVariables false
set_option linter.unusedSimpArgs false
open Nat renaming reduceAdd → rB,reduceMul → rC,reduceLT → rD,reduceEqDiff → rE,reduceLeDiff → rF
namespace Go.Pe
open Go Go.Am Go.RowKit
section
variable {cfg:Cfg}{fuel:Nat}{c:UInt8}{st:St}
theorem NoX(l:List UInt8):Ned 10 l 0≤l.length:=by
 rw[NfR];have:=List.count_le_length (a:=(10:UInt8)) (l:=l);omega
theorem Nj7(l:List UInt8)(a:Nat):1≤Nb1 l a∧Nb1 l a≤l.length+1:=by
 unfold Nb1;have:=NoX (l.take a);simp only[List.length_take]at this;omega
theorem Nlc(hf:cfg.fn 75=some m75){l:List UInt8}(hlen:l.length≤16384)(hfu:l.length<fuel) :
 ∃ r st',Nay cfg (fuel+1) 75 [.i .u8 c.toNat,.s l] st=some (r,st')∧r=.b (NaO c l):=by
 refine Nax hf ?_;delta m75 Qa Ql Qt Qk Qm Qi Qo;simp only[Naj,↓Z0,↓Xp,↓Xt,Xq,Xc,Nae,Naa,rB,rC,rD,rE,reduceIte];refine Z9 (k:=l.length - 0) (fun d x=>∃ i:Nat,i≤l.length∧d=l.length - i∧NaO c (l.drop i)=NaO c l∧x.env.get 0=.i .u8 c.toNat∧x.env.get 1=.s l∧x.env.get 5=.i .i64 i) ?_ ⟨0,Nat.zero_le _,rfl,rfl,?_⟩ Zaa
 ·rintro d ⟨env,st1⟩ ⟨i,hi,rfl,hp,g0,g1,g5⟩;simp only at g0 g1 g5;by_cases hlt:i<l.length
  ·have hd:=Nbl hlt;rw[hd]at hp;have hlti:((i:Nat):Int)<((l.length:Nat):Int):=(by omega);have hwi:IntKind.i64.wrap ((i:Int)+Int.ofNat 1)=((i+1:Nat):Int):=by
    rw[NaD _ ⟨by show _≤(i:Int)+1;omega,by show(i:Int)+1<_;omega⟩];rfl
   by_cases hb:l.getD i 0=c
   ·have e1:((((l.getD i 0).toNat:Nat):Int)==((c.toNat:Nat):Int))=true:=(by rw[hb];simp);simp only[↓Z0,↓Xp,↓Xt,Xq,Xc,Nae,Naa,rB,rC,rD,rE,reduceIte,g0,g1,g5,hlti,hlt,e1,hwi];simp only[NaO,hb,beq_self_eq_true,Bool.true_or]at hp;refine⟨by omega,nofun,_,rfl,?_⟩;simp only[Nau,←hp,↓Z0,↓Xp,↓Xt,Xq,Xc,Nae,Naa,rB,rC,rD,rE,reduceIte]
   ·have e1:((((l.getD i 0).toNat:Nat):Int)==((c.toNat:Nat):Int))=false:=by
     simp only[beq_eq_false_iff_ne,ne_eq];intro h;exact hb (UInt8.toNat_inj.1 Zaa)
    have hb':(l.getD i 0==c)=false:=(by simpa using hb);simp only[↓Z0,↓Xp,↓Xt,Xq,Xc,Nae,Naa,rB,rC,rD,rE,reduceIte,g0,g1,g5,hlti,hlt,e1,hwi];simp only[NaO,hb',Bool.false_or]at hp;exact⟨by omega,l.length - (i+1),by omega,i+1,by omega,rfl,hp,rfl⟩
  ·have hie:i=l.length:=(by omega);subst hie;simp only[↓Z0,↓Xp,↓Xt,Xq,Xc,Nae,Naa,rB,rC,rD,rE,reduceIte,g0,g1,g5,Int.lt_irrefl];simp only[List.drop_length,NaO]at hp;refine⟨nofun,_,rfl,?_⟩;simp only[Nau,←hp,↓Z0,↓Xp,↓Xt,Xq,Xc,Nae,Naa,rB,rC,rD,rE,reduceIte]
 ·simp[Yad]
def NdD:List PV→Option PV
 |[.i .u8 c,.s l]=>if l.length≤16384∧0≤c∧c<256 then some (.b (NaO c.toNat.toUInt8 l))else none
 |_=>none
theorem Nc4(hx:cfg.ext 75=some NdD)(callE:CallE)(c:UInt8)(l:List UInt8)(hl:l.length≤16384)(st:St)(key:Nat):Nam (Nak cfg callE 75) false st key [.i .u8 c.toNat,.s l]=some (.b (NaO c l),st):=by
 refine Nal rfl ?_ rfl;rw[Nav hx];have:=c.toNat_lt;unfold NdD;simp only[];rw[if_pos ⟨hl,by omega,by omega⟩];simp
theorem Noc(hf:cfg.fn 76=some m76)(hx:cfg.ext 75=some NdD){t l:List UInt8}(hlen:t.length≤16384)(hll:l.length≤16384)(hfu:t.length<fuel) :
 ∃ r st',Nay cfg (fuel+1) 76 [.s t,.s l] st=some (r,st')∧r=.b (Nbo l t):=by
 refine Nax hf ?_;delta m76 Qa Ql Qt Qk Qm Qi Qo;simp only[Naj,↓Z0,↓Xp,↓Xt,Xq,Xc,Nae,Naa,rB,rC,rD,rE,reduceIte];refine Z9 (k:=t.length - 0) (fun d x=>∃ i:Nat,i≤t.length∧d=t.length - i∧Nbo l (t.drop i)=Nbo l t∧x.env.get 0=.s t∧x.env.get 1=.s l∧x.env.get 5=.i .i64 i) ?_ ⟨0,Nat.zero_le _,rfl,rfl,?_⟩ Zaa
 ·rintro d ⟨env,st1⟩ ⟨i,hi,rfl,hp,g0,g1,g5⟩;simp only at g0 g1 g5;by_cases hlt:i<t.length
  ·have hd:=Nbl hlt;rw[hd]at hp;have hlti:((i:Nat):Int)<((t.length:Nat):Int):=(by omega);have hwi:IntKind.i64.wrap ((i:Int)+Int.ofNat 1)=((i+1:Nat):Int):=by
    rw[NaD _ ⟨by show _≤(i:Int)+1;omega,by show(i:Int)+1<_;omega⟩];rfl
   have hcall:=fun(s:St) (key:Nat)=>Nc4 hx (Nay cfg fuel) (t.getD i 0) l hll s key;cases hb:NaO (t.getD i 0) l with
   |true =>
     simp only[↓Z0,↓Xp,↓Xt,Xq,Xc,Nae,Naa,rB,rC,rD,rE,reduceIte,g0,g1,g5,hlti,hlt,hcall,hb,unP,hwi];simp only[Nbo,hb,Bool.true_and]at hp;exact⟨by omega,t.length - (i+1),by omega,i+1,by omega,rfl,hp,rfl⟩
   |false =>
     simp only[↓Z0,↓Xp,↓Xt,Xq,Xc,Nae,Naa,rB,rC,rD,rE,reduceIte,g0,g1,g5,hlti,hlt,hcall,hb,unP,hwi];simp only[Nbo,hb,Bool.false_and]at hp;refine⟨by omega,nofun,_,rfl,?_⟩;simp only[Nau,←hp,↓Z0,↓Xp,↓Xt,Xq,Xc,Nae,Naa,rB,rC,rD,rE,reduceIte]
  ·have hie:i=t.length:=(by omega);subst hie;simp only[↓Z0,↓Xp,↓Xt,Xq,Xc,Nae,Naa,rB,rC,rD,rE,reduceIte,g0,g1,g5,Int.lt_irrefl];simp only[List.drop_length,Nbo]at hp;refine⟨nofun,_,rfl,?_⟩;simp only[Nau,←hp,↓Z0,↓Xp,↓Xt,Xq,Xc,Nae,Naa,rB,rC,rD,rE,reduceIte]
 ·simp[Yad]
def Ni0:List PV→Option PV
 |[.s t,.s l]=>if t.length≤16384∧l.length≤16384 then some (.b (Nbo l t))else none
 |_=>none
theorem Ngw(hx:cfg.ext 76=some Ni0)(callE:CallE)(t l:List UInt8)(ht:t.length≤16384)(hl:l.length≤16384)(st:St)(key:Nat):Nam (Nak cfg callE 76) false st key [.s t,.s l]=some (.b (Nbo l t),st):=by
 refine Nal rfl ?_ rfl;rw[Nav hx];unfold Ni0;simp only[];rw[if_pos ⟨ht,hl⟩]
theorem Nmv{n:Nat}(h:c≠UInt8.ofNat n)(hn:n<256):(((c.toNat:Nat):Int)==Int.ofNat n)=false:=by
 simp only[beq_eq_false_iff_ne,ne_eq];intro e;have e':c.toNat=n:=by have:((c.toNat:Nat):Int)=((n:Nat):Int):=e;omega
 exact h (UInt8.toNat_inj.1 (by rw[e',UInt8.toNat_ofNat'];omega))
theorem Nmu{n:Nat}(h:c=UInt8.ofNat n)(hn:n<256):(((c.toNat:Nat):Int)==Int.ofNat n)=true:=by
 rw[h,UInt8.toNat_ofNat',Nat.mod_eq_of_lt hn];simp
theorem Noo(hf:cfg.fn 59=some m59)(hx:cfg.ext 75=some NdD){t:List UInt8}(hlen:t.length≤16384)(hfu:t.length<fuel) :
 ∃ r st',Nay cfg (fuel+1) 59 [.s t] st=some (r,st')∧r=.b (Ncs false t):=by
 refine Nax hf ?_;delta m59 Qa Ql Qt Qs Qk Qm Qh Qi Qo;simp only[Naj,↓Z0,↓Xp,↓Xt,Xq,Xc,Nae,Naa,rB,rC,rD,rE,reduceIte];refine Z9 (k:=t.length - 0) (fun d x=>∃ (i:Nat) (rm:Bool),i≤t.length∧d=t.length - i∧Ncs rm (t.drop i)=Ncs false t∧x.env.get 0=.s t∧x.env.get 3=.b rm∧x.env.get 4=.i .i64 i) ?_ ⟨0,false,Nat.zero_le _,rfl,rfl,?_⟩ Zaa
 ·rintro d ⟨env,st1⟩ ⟨i,rm,hi,rfl,hp,g0,g3,g4⟩;simp only at g0 g3 g4;by_cases hlt:i<t.length
  ·have hd:=Nbl hlt;rw[hd]at hp;have hlti:((i:Nat):Int)<((t.length:Nat):Int):=(by omega);have hwi:IntKind.i64.wrap ((i:Int)+Int.ofNat 1)=((i+1:Nat):Int):=by
    rw[NaD _ ⟨by show _≤(i:Int)+1;omega,by show(i:Int)+1<_;omega⟩];rfl
   obtain⟨c,hc⟩:∃ c,t.getD i 0=c:=⟨_,rfl⟩;rw[hc]at hp;have hcall:=fun(s:St) (key:Nat)=>Nc4 hx (Nay cfg fuel) c [9,10,13,32] Zaf s key;by_cases h1:c=10
   ·have e1:=Nmu (n:=10) h1 Zaa;simp only[Ncs,h1,if_true]at hp;simp only[↓Z0,↓Xp,↓Xt,Xq,Xc,Nae,Naa,rB,rC,rD,rE,reduceIte,g0,g3,g4,hlti,hlt,hc,e1,hwi];exact⟨by omega,t.length - (i+1),by omega,i+1,false,by omega,rfl,hp,rfl,rfl⟩
   ·have e1:=Nmv (n:=10) h1 Zaa;by_cases h2:c=35
    ·have e2:=Nmu (n:=35) h2 Zaa;simp only[Ncs,h2,if_true]at hp;rw[if_neg Zaj]at hp;simp only[↓Z0,↓Xp,↓Xt,Xq,Xc,Nae,Naa,rB,rC,rD,rE,reduceIte,g0,g3,g4,hlti,hlt,hc,e1,e2,hwi];exact⟨by omega,by omega,t.length - (i+1),by omega,i+1,true,by omega,rfl,hp,rfl,rfl⟩
    ·have e2:=Nmv (n:=35) h2 Zaa;simp only[Ncs,h1,h2,if_false]at hp;cases rm with
     |true =>
       simp only[if_true]at hp;simp only[↓Z0,↓Xp,↓Xt,Xq,Xc,Nae,Naa,rB,rC,rD,rE,reduceIte,g0,g3,g4,hlti,hlt,hc,e1,e2,hwi,unP];exact⟨by omega,by omega,t.length - (i+1),by omega,i+1,true,by omega,rfl,hp,rfl,rfl⟩
     |false =>
       simp only[Bool.false_eq_true,if_false]at hp;cases hb:NaO c [9,10,13,32]with
       |true =>
         have hp':Ncs false (t.drop (i+1))=Ncs false t:=by
          have:NaO c Nfn=true:=hb;rw[if_pos this]at hp;exact hp
         simp only[↓Z0,↓Xp,↓Xt,Xq,Xc,Nae,Naa,rB,rC,rD,rE,reduceIte,g0,g3,g4,hlti,hlt,hc,e1,e2,hwi,unP,hcall,hb];exact⟨by omega,by omega,by omega,t.length - (i+1),by omega,i+1,false,by omega,rfl,hp',rfl,rfl⟩
       |false =>
         have hp':false=Ncs false t:=by
          have:¬ NaO c Nfn=true:=(by rw[show NaO c Nfn=false from hb];simp);rw[if_neg this]at hp;exact hp
         simp only[↓Z0,↓Xp,↓Xt,Xq,Xc,Nae,Naa,rB,rC,rD,rE,reduceIte,g0,g3,g4,hlti,hlt,hc,e1,e2,hwi,unP,hcall,hb];refine⟨by omega,by omega,by omega,nofun,_,rfl,?_⟩;simp only[Nau,←hp',↓Z0,↓Xp,↓Xt,Xq,Xc,Nae,Naa,rB,rC,rD,rE,reduceIte]
  ·have hie:i=t.length:=(by omega);subst hie;simp only[↓Z0,↓Xp,↓Xt,Xq,Xc,Nae,Naa,rB,rC,rD,rE,reduceIte,g0,g3,g4,Int.lt_irrefl];simp only[List.drop_length]at hp;refine⟨nofun,_,rfl,?_⟩;have:Ncs rm []=true:=(by cases rm<;>rfl);simp only[Nau,←hp,this,↓Z0,↓Xp,↓Xt,Xq,Xc,Nae,Naa,rB,rC,rD,rE,reduceIte]
 ·simp[Yad]
def Nj0:List PV→Option PV
 |[.s t]=>if t.length≤16384 then some (.b (Ncs false t))else none
 |_=>none
end
end Go.Pe
set_option maxHeartbeats 4000000
set_option maxRecDepth 100000
namespace Go.Pe
open Go Go.Am Go.RowKit
def Ner:List PV:=keyWs.map PV.s
theorem NlQ{st:St}{k:Nat}{fz:Bool}(hk:st.get k=some (.cells Ner fz))(i:Nat)(hi:i<37):NaX st 1 (.ptr k (0+i * 1))=some [.s (keyWs.getD i [])]:=by
 unfold NaX;simp only[hk];have hl:keyWs.length=37:=rfl;unfold cut? Ner;rw[if_pos (by simp[hl];omega)];apply congrArg;apply List.ext_getElem?;intro j;cases j with
 |zero=>simp[List.getElem?_take,List.getElem?_drop,List.getElem?_map,hl,hi,List.getD_eq_getElem?_getD]
 |succ j=>simp[List.getElem?_take]
theorem NiU{l:List (List UInt8)}{i:Nat}(h:i<l.length):l.drop i=l.getD i []::l.drop (i+1):=by
 rw[List.drop_eq_getElem_cons h];simp[List.getD_eq_getElem?_getD,List.getElem?_eq_getElem h]
theorem Npx{cfg:Cfg}(hf:cfg.fn 77=some m77){fuel:Nat}{t:List UInt8}(hfu:40<fuel){st:St} :
 ∃ r st',Nay cfg (fuel+1) 77 [.s t] st=some (r,st')∧r=.b (Njn t):=by
 refine Nax hf ?_;delta m77 Qa Qr Ql Qt Qn Qk Qm Qi Qo;have hl:keyWs.length=37:=rfl;simp only[Naj,↓Z0,↓Xp,↓Xt,Xq,Xc,Nae,Naa,rB,rC,rD,rE,reduceIte,Xm,rF];refine Z9 (k:=37 - 0) (fun d x=>∃ (i k:Nat),i≤37∧d=37 - i∧(keyWs.drop i).any (·==t)=Njn t∧x.env.get 0=.s t∧x.env.get 3=.ptr k 0∧x.env.get 4=.i .i64 i∧x.st.get k=some (.cells Ner false)) ?_ ⟨0,st.cnt+16,Nat.zero_le _,rfl,rfl,?_⟩ Zaa
 ·rintro d ⟨env,st1⟩ ⟨i,k,hi,rfl,hp,g0,g3,g4,hk⟩;simp only at g0 g3 g4 hk;by_cases hlt:i<37
  ·have hd:=NiU (l:=keyWs) (i:=i) Zaa;rw[hd]at hp;have hlti:((i:Nat):Int)<Int.ofNat 37:=(by show(i:Int)<37;omega);have hlti2:((i:Nat):Int)<((37:Nat):Int):=(by omega);have hwi:IntKind.i64.wrap ((i:Int)+Int.ofNat 1)=((i+1:Nat):Int):=by
    rw[NaD _ ⟨by show _≤(i:Int)+1;omega,by show(i:Int)+1<_;omega⟩];rfl
   have hld:∀ c,NaX ⟨st1.sto,c⟩ 1 (.ptr k (0+i * 1))=some [.s (keyWs.getD i [])]:=fun c=>NlQ (st:=⟨st1.sto,c⟩) hk i hlt;simp only[List.any_cons]at hp;cases hb:keyWs.getD i []==t with
   |true =>
     simp only[↓Z0,↓Xp,↓Xt,Xq,Xc,Nae,Naa,rB,rC,rD,rE,reduceIte,g0,g3,g4,hlti,hlti2,hld,hb,hwi];rw[hb,Bool.true_or]at hp;refine⟨by omega,nofun,_,rfl,?_⟩;simp only[Nau,←hp,↓Z0,↓Xp,↓Xt,Xq,Xc,Nae,Naa,rB,rC,rD,rE,reduceIte]
   |false =>
     simp only[↓Z0,↓Xp,↓Xt,Xq,Xc,Nae,Naa,rB,rC,rD,rE,reduceIte,g0,g3,g4,hlti,hlti2,hld,hb,hwi];rw[hb,Bool.false_or]at hp;exact⟨by omega,37 - (i+1),by omega,i+1,k,by omega,rfl,hp,rfl,rfl,hk⟩
  ·have hie:i=37:=(by omega);subst hie;simp only[↓Z0,↓Xp,↓Xt,Xq,Xc,Nae,Naa,rB,rC,rD,rE,reduceIte,g0,g3,g4,show ¬ (((37:Nat):Int)<Int.ofNat 37)from Int.lt_irrefl _];refine⟨nofun,_,rfl,?_⟩;have hp':false=Njn t:=(by rw[←hp];rfl);simp only[Nau,←hp',↓Z0,↓Xp,↓Xt,Xq,Xc,Nae,Naa,rB,rC,rD,rE,reduceIte]
 ·simp[Yad,NaG,Yaf,Ner,keyWs]
def NqO:List PV→Option PV
 |[.s t]=>some (.b (Njn t))
 |_=>none
theorem Nn1{cfg:Cfg}(hf:cfg.fn 60=some m60)(hx:cfg.ext 75=some NdD)(hx2:cfg.ext 76=some Ni0)(hx3:cfg.ext 77=some NqO){fuel:Nat}{t:List UInt8}(hlen:t.length≤16384){st:St} :
 ∃ r st',Nay cfg (fuel+1) 60 [.s t] st=some (r,st')∧r=.i .u8 (kindL t):=by
 refine Nax hf ?_;delta m60 Qa Ql Qt Qs Qk Qm Qh Qi;have c1:=fun(s:St) (key:Nat)=>Ngw hx2 (Nay cfg fuel) t [48,49,50,51,52,53,54,55,56,57] hlen Zaf s key;have c2:=fun(c:UInt8) (s:St) (key:Nat)=>Nc4 hx (Nay cfg fuel) c [97,98,99,100,101,102,103,104,105,106,107,108,109,110,111,112,113,114,115,116,117,118,119,120,121,122,65,66,67,68,69,70,71,72,73,74,75,76,77,78,79,80,81,82,83,84,85,86,87,88,89,90,95] Zaf s key;have c3:=fun(s:St) (key:Nat)=>Ngw hx2 (Nay cfg fuel) t [97,98,99,100,101,102,103,104,105,106,107,108,109,110,111,112,113,114,115,116,117,118,119,120,121,122,65,66,67,68,69,70,71,72,73,74,75,76,77,78,79,80,81,82,83,84,85,86,87,88,89,90,95,48,49,50,51,52,53,54,55,56,57] hlen Zaf s key;have c4:=fun(c:UInt8) (s:St) (key:Nat)=>Nc4 hx (Nay cfg fuel) c [60,43,45,42,40,41,123,125,59] Zaf s key;have c5:∀ (s:St) (key:Nat),Nam (Nak cfg (Nay cfg fuel) 77) false s key [.s t]=some (.b (Njn t),s):=fun s key=>Nal rfl (by rw[Nav hx3];rfl) rfl;cases t with
 |nil =>
   simp only[Naj,↓Z0,↓Xp,↓Xt,Xq,Xc,Nae,Naa,rB,rC,rD,rE,reduceIte,Xm,rF,show(([]:List UInt8)==[])=true from rfl];refine⟨nofun,_,rfl,?_⟩;simp only[Nau,↓Z0,↓Xp,↓Xt,Xq,Xc,Nae,Naa,rB,rC,rD,rE,reduceIte,kindL];rfl
 |cons c r =>
   have e0:(c::r==([]:List UInt8))=false:=rfl;have eg:(c::r).getD 0 0=c:=rfl;have e0t:(Int.ofNat 0).toNat=0:=rfl;have e00:0≤Int.ofNat 0:=(by decide);have ek:kindL (c::r)=if Nbo Nb8 (c::r)then 1 else if NaO c NeX&&Nbo NfL (c::r)then(if Njn (c::r)then 3 else 2)else if(c::r)==[45,62]||(c::r)==[61,61]||((c::r).length==1&&NaO c NkQ)then 4 else 0:=rfl
   rw[ek];have d1:Nbo Nb8 (c::r)=Nbo [48,49,50,51,52,53,54,55,56,57] (c::r):=rfl;have d2:NaO c NeX=NaO c [97,98,99,100,101,102,103,104,105,106,107,108,109,110,111,112,113,114,115,116,117,118,119,120,121,122,65,66,67,68,69,70,71,72,73,74,75,76,77,78,79,80,81,82,83,84,85,86,87,88,89,90,95]:=rfl;have d3:Nbo NfL (c::r)=Nbo [97,98,99,100,101,102,103,104,105,106,107,108,109,110,111,112,113,114,115,116,117,118,119,120,121,122,65,66,67,68,69,70,71,72,73,74,75,76,77,78,79,80,81,82,83,84,85,86,87,88,89,90,95,48,49,50,51,52,53,54,55,56,57] (c::r):=rfl;have d4:NaO c NkQ=NaO c [60,43,45,42,40,41,123,125,59]:=rfl;rw[d1,d2,d3,d4];have h0l:0<(c::r).length:=(by simp);have hl1:((((c::r).length:Nat):Int)==Int.ofNat 1)=((c::r).length==1):=by
    rw[Bool.eq_iff_iff];simp only[beq_iff_eq];constructor
    ·intro h;have:(((c::r).length:Nat):Int)=((1:Nat):Int):=h;omega
    ·intro h;rw[h];rfl
   generalize hcr:c::r=t at *;generalize Nbo [48,49,50,51,52,53,54,55,56,57] t=b1 at *;generalize Nbo [97,98,99,100,101,102,103,104,105,106,107,108,109,110,111,112,113,114,115,116,117,118,119,120,121,122,65,66,67,68,69,70,71,72,73,74,75,76,77,78,79,80,81,82,83,84,85,86,87,88,89,90,95,48,49,50,51,52,53,54,55,56,57] t=b3 at *;have c2:=c2 c;have c4:=c4 c;generalize NaO c [97,98,99,100,101,102,103,104,105,106,107,108,109,110,111,112,113,114,115,116,117,118,119,120,121,122,65,66,67,68,69,70,71,72,73,74,75,76,77,78,79,80,81,82,83,84,85,86,87,88,89,90,95]=b2 at *;generalize NaO c [60,43,45,42,40,41,123,125,59]=b4 at *;cases b1 with
   |true =>
     simp only[Naj,↓Z0,↓Xp,↓Xt,Xq,Xc,Nae,Naa,rB,rC,rD,rE,reduceIte,Xm,rF,e0,c1];refine⟨nofun,_,rfl,?_⟩;simp only[Nau,↓Z0,↓Xp,↓Xt,Xq,Xc,Nae,Naa,rB,rC,rD,rE,reduceIte];rfl
   |false =>
     cases b2 with
     |true =>
       cases b3 with
       |true =>
         cases hk:Njn t with
         |true =>
           simp only[Naj,↓Z0,↓Xp,↓Xt,Xq,Xc,Nae,Naa,rB,rC,rD,rE,reduceIte,Xm,rF,e0,c1,c2,c3,c5,eg,e0t,e00,h0l,hk];refine⟨nofun,_,rfl,?_⟩;simp only[Nau,↓Z0,↓Xp,↓Xt,Xq,Xc,Nae,Naa,rB,rC,rD,rE,reduceIte];rfl
         |false =>
           simp only[Naj,↓Z0,↓Xp,↓Xt,Xq,Xc,Nae,Naa,rB,rC,rD,rE,reduceIte,Xm,rF,e0,c1,c2,c3,c5,eg,e0t,e00,h0l,hk];refine⟨nofun,_,rfl,?_⟩;simp only[Nau,↓Z0,↓Xp,↓Xt,Xq,Xc,Nae,Naa,rB,rC,rD,rE,reduceIte];rfl
       |false =>
         generalize hq1:(t==[45,62])=q1;generalize hq2:(t==[61,61])=q2;generalize hq3:(t.length==1)=q3 at *;cases q1<;>cases q2<;>cases q3<;>cases b4 <;>
         ·simp only[Naj,↓Z0,↓Xp,↓Xt,Xq,Xc,Nae,Naa,rB,rC,rD,rE,reduceIte,Xm,rF,e0,c1,c2,c3,c4,eg,e0t,e00,h0l,hq1,hq2,hl1];refine⟨nofun,_,rfl,?_⟩;simp only[Nau,↓Z0,↓Xp,↓Xt,Xq,Xc,Nae,Naa,rB,rC,rD,rE,reduceIte];rfl
     |false =>
       generalize hq1:(t==[45,62])=q1;generalize hq2:(t==[61,61])=q2;generalize hq3:(t.length==1)=q3 at *;cases q1<;>cases q2<;>cases q3<;>cases b4 <;>
       ·simp only[Naj,↓Z0,↓Xp,↓Xt,Xq,Xc,Nae,Naa,rB,rC,rD,rE,reduceIte,Xm,rF,e0,c1,c2,c3,c4,eg,e0t,e00,h0l,hq1,hq2,hl1];refine⟨nofun,_,rfl,?_⟩;simp only[Nau,↓Z0,↓Xp,↓Xt,Xq,Xc,Nae,Naa,rB,rC,rD,rE,reduceIte];rfl
def NjY:List PV→Option PV
 |[.s t]=>if t.length≤16384 then some (.i .u8 (kindL t))else none
 |_=>none
end Go.Pe
set_option maxHeartbeats 4000000
namespace Go.Pe
open Go Go.Am Go.RowKit
theorem NfF(c d:UInt8)(r:List UInt8):NaW (c::d::r)=if c=48 then NaW (d::r)else c::d::r:=by rw[NaW]
theorem NpG{cfg:Cfg}(hf:cfg.fn 61=some m61){fuel:Nat}{t0:List UInt8}(hd0:digs t0)(hlen:t0.length≤16384)(hfu:t0.length<fuel){st:St} :
 ∃ r st',Nay cfg (fuel+1) 61 [.s t0] st=some (r,st')∧r=numR t0:=by
 refine Nax hf ?_;delta m61 Qa Ql Qt Qs Qk Qm Qh Qi Qo;have e0t:(Int.ofNat 0).toNat=0:=rfl;have e00:0≤Int.ofNat 0:=by decide
 rw[Z0];simp only[Naj,↓Xp,↓Xt,Xq,Xc,Nae,Naa,rB,rC,rD,rE,reduceIte,Xm,rF];refine Za (fun x=>x.env.get 0=.s (NaW t0)) ?_ ?_
 ·simp only[↓Z0,↓Xp,↓Xt,Xq,Xc,Nae,Naa,rB,rC,rD,rE,reduceIte,Xm,rF];refine Z9 (k:=t0.length) (fun d x=>∃ t:List UInt8,NaW t=NaW t0∧t.length≤t0.length∧d=t.length∧x.env.get 0=.s t) ?_ ⟨t0,rfl,Nat.le_refl _,rfl,?_⟩ Zaa
  ·rintro d ⟨env,st1⟩ ⟨t,hs,hl,rfl,g0⟩;simp only at g0;by_cases hgt1:1<t.length
   ·have hgt:((t.length:Nat):Int) > Int.ofNat 1:=(by show((t.length:Nat):Int) > 1;omega);have hl0:0<t.length:=(by omega);by_cases h48:t.getD 0 0=48
    ·have e1:=Nmu (n:=48) h48 Zaa;have b1:Na4 (some (.i .i64 (Int.ofNat 1))) 0 t.length=some 1:=Nbp ⟨by decide,by show(1:Int)≤_;omega⟩;have et:List.take (t.length - 1) (List.drop 1 t)=t.drop 1:=List.take_of_length_le Zaf;simp only[↓Z0,↓Xp,↓Xt,Xq,Xc,Nae,Naa,rB,rC,rD,rE,reduceIte,Xm,rF,g0,hgt,e0t,e00,hl0,e1,b1,et];refine⟨(t.drop 1).length,by simp;omega,t.drop 1,?_,by simp;omega,rfl,rfl⟩;rw[←hs];rcases t with _|⟨c,_|⟨d,r⟩⟩
     ·simp at hl0
     ·simp at hgt1
     ·have hc:c=48:=(by simpa using h48);rw[NfF,if_pos hc];rfl
    ·have e1:=Nmv (n:=48) h48 Zaa;simp only[↓Z0,↓Xp,↓Xt,Xq,Xc,Nae,Naa,rB,rC,rD,rE,reduceIte,Xm,rF,g0,hgt,e0t,e00,hl0,e1];rw[←hs];rcases t with _|⟨c,_|⟨d,r⟩⟩
     ·simp at hl0
     ·simp at hgt1
     ·have hc:¬ c=48:=(by simpa using h48);rw[NfF,if_neg hc]
   ·have hgt:¬ ((t.length:Nat):Int) > Int.ofNat 1:=(by show ¬ ((t.length:Nat):Int) > 1;omega);simp only[↓Z0,↓Xp,↓Xt,Xq,Xc,Nae,Naa,rB,rC,rD,rE,reduceIte,Xm,rF,g0,hgt];rw[←hs];rcases t with _|⟨c,_|⟨d,r⟩⟩
    ·rfl
    ·rfl
    ·simp at hgt1
  ·simp[Yad]
 rintro⟨env,st1⟩ g0;simp only at g0;obtain⟨t,hst⟩:∃ t,NaW t0=t:=⟨_,rfl⟩;rw[hst]at g0;have hdt:digs t:=hst▸Ncv hd0;have hv:=Nc0 t0;rw[hst]at hv;have hn:=Noa t0 0 hd0 Zaa;have htl:=Nhb t0;rw[hst]at htl;by_cases hlong:19<t.length
 ·have h1:((t.length:Nat):Int) > Int.ofNat 19:=by show((t.length:Nat):Int) > 19;omega
  have hbig:=Nji hd0 (by rw[hst];exact hlong);rw[if_neg Zaa]at hn;simp only[↓Z0,↓Xp,↓Xt,Xq,Xc,Nae,Naa,rB,rC,rD,rE,reduceIte,Xm,rF,g0,h1];refine⟨nofun,_,rfl,?_⟩;simp only[Nau,↓Z0,↓Xp,↓Xt,Xq,Xc,Nae,Naa,rB,rC,rD,rE,reduceIte,numR,hn];rfl
 ·have h1:¬ (((t.length:Nat):Int) > Int.ofNat 19):=by show ¬ (((t.length:Nat):Int) > 19);omega
  have fits:(Nc1 0 t0≤9223372036854775807∧(t.length=19→(!(Op.bytesLess t [57,50,50,51,51,55,50,48,51,54,56,53,52,55,55,53,56,48,55]||t==[57,50,50,51,51,55,50,48,51,54,56,53,52,55,55,53,56,48,55]))=false))∨(9223372036854775807<Nc1 0 t0∧t.length=19∧(!(Op.bytesLess t [57,50,50,51,51,55,50,48,51,54,56,53,52,55,55,53,56,48,55]||t==[57,50,50,51,51,55,50,48,51,54,56,53,52,55,55,53,56,48,55]))=true):=by
   by_cases h19:t.length=19
   ·have:=Njj hd0 (by rw[hst];exact h19);rw[hst]at this;unfold mostT at this;rw[this];by_cases hb:9223372036854775807<Nc1 0 t0
    ·exact .inr ⟨hb,h19,by simpa using hb⟩
    ·exact .inl ⟨by omega,fun _=>by simpa using hb⟩
   ·exact .inl ⟨NhM hd0 (by rw[hst];omega),fun q=>absurd q h19⟩
  rcases fits with⟨hfit,hls⟩|⟨hbig,h19,hls⟩
  ·have hn':numR t0=.tup [.i .i64 ((Nc1 0 t0:Nat):Int),.b true]:=by
    unfold numR;rw[hn,if_pos hfit]
   refine Za (fun x=>x.env.get 0=.s t) ?_ ?_
   ·by_cases h19:t.length=19
    ·have h2:(((t.length:Nat):Int)==Int.ofNat 19)=true:=(by rw[h19];rfl);have hls:=hls h19;simp only[↓Z0,↓Xp,↓Xt,Xq,Xc,Nae,Naa,rB,rC,rD,rE,reduceIte,Xm,rF,g0,h1,h2,hls]
    ·have h2:(((t.length:Nat):Int)==Int.ofNat 19)=false:=by
      simp only[beq_eq_false_iff_ne,ne_eq];intro q;have:((t.length:Nat):Int)=((19:Nat):Int):=q;omega
     simp only[↓Z0,↓Xp,↓Xt,Xq,Xc,Nae,Naa,rB,rC,rD,rE,reduceIte,Xm,rF,g0,h1,h2]
   rintro⟨env,st1⟩ g0;simp only at g0;rw[hn'];simp only[↓Z0,↓Xp,↓Xt,Xq,Xc,Nae,Naa,rB,rC,rD,rE,reduceIte,Xm,rF,g0];refine Z9 (k:=t.length - 0) (fun d x=>∃ i n:Nat,i≤t.length∧d=t.length - i∧Nc1 n (t.drop i)=Nc1 0 t0∧x.env.get 0=.s t∧x.env.get 5=.i .i64 i∧x.env.get 4=.i .i64 n) ?_ ⟨0,0,Nat.zero_le _,rfl,hv,?_,?_⟩ Zaa
   ·rintro d ⟨env,st1⟩ ⟨i,n,hi,rfl,hp,g0,g5,g4⟩;simp only at g0 g5 g4;have hnn:=Nfh (t.drop i) n;by_cases hlt:i<t.length
    ·have hd:=Nbl hlt;rw[hd]at hp;have hlti:((i:Nat):Int)<((t.length:Nat):Int):=(by omega);have hwi:IntKind.i64.wrap ((i:Int)+Int.ofNat 1)=((i+1:Nat):Int):=by
      rw[NaD _ ⟨by show _≤(i:Int)+1;omega,by show(i:Int)+1<_;omega⟩];rfl
     have hcd:=hdt (t.getD i 0) (by rw[List.getD_eq_getElem?_getD,List.getElem?_eq_getElem hlt];exact List.getElem_mem hlt);obtain⟨c,hc⟩:∃ c,t.getD i 0=c:=⟨_,rfl⟩;rw[hc]at hp hcd;have ep:Nc1 n (c::t.drop (i+1))=Nc1 (n * 10+(c.toNat - 48)) (t.drop (i+1)):=rfl;rw[ep]at hp;have hnn2:=Nfh (t.drop (i+1)) (n * 10+(c.toNat - 48));have hw8:IntKind.u8.wrap ((c.toNat:Int) - Int.ofNat 48)=((c.toNat - 48:Nat):Int):=by
      rw[IntKind.wrap_u8];show((c.toNat:Int) - 48) % 256=_;omega
     have hwd:IntKind.i64.wrap ((c.toNat - 48:Nat):Int)=((c.toNat - 48:Nat):Int):=NaD _ ⟨by omega,by omega⟩;have hwm:IntKind.i64.wrap (Int.ofNat 10 * (n:Int))=((n * 10:Nat):Int):=by
      rw[NaD _ ⟨by show _≤(10:Int) * n;omega,by show(10:Int) * n<_;omega⟩];show(10:Int) * n=_;omega
     have hwa:IntKind.i64.wrap (((n * 10:Nat):Int)+((c.toNat - 48:Nat):Int))=((n * 10+(c.toNat - 48):Nat):Int):=by
      rw[NaD _ ⟨by omega,by omega⟩];rfl
     simp only[↓Z0,↓Xp,↓Xt,Xq,Xc,Nae,Naa,rB,rC,rD,rE,reduceIte,Xm,rF,g0,g5,g4,hlti,hlt,hc,hw8,hwd,hwm,hwa,hwi];exact⟨by omega,t.length - (i+1),by omega,i+1,n * 10+(c.toNat - 48),by omega,rfl,hp,rfl,rfl⟩
    ·have hie:i=t.length:=(by omega);subst hie;simp only[↓Z0,↓Xp,↓Xt,Xq,Xc,Nae,Naa,rB,rC,rD,rE,reduceIte,Xm,rF,g0,g5,g4,Int.lt_irrefl];refine⟨nofun,_,rfl,?_⟩;rw[List.drop_length]at hp;have:n=Nc1 0 t0:=hp;simp only[Nau,↓Z0,↓Xp,↓Xt,Xq,Xc,Nae,Naa,rB,rC,rD,rE,reduceIte,this]
   ·simp[Yad,g0]
   ·simp[Yad]
  ·have h2:(((t.length:Nat):Int)==Int.ofNat 19)=true:=(by rw[h19];rfl);rw[if_neg Zaa]at hn;simp only[↓Z0,↓Xp,↓Xt,Xq,Xc,Nae,Naa,rB,rC,rD,rE,reduceIte,Xm,rF,g0,h1,h2,hls];refine⟨nofun,_,rfl,?_⟩;simp only[Nau,↓Z0,↓Xp,↓Xt,Xq,Xc,Nae,Naa,rB,rC,rD,rE,reduceIte,numR,hn];rfl
end Go.Pe
set_option maxHeartbeats 8000000
set_option maxRecDepth 100000
namespace Go.Pe
open Go Go.Am Go.RowKit
def NjZ:List PV→Option PV
 |[.s t]=>if t.length≤16384∧Nbo Nb8 t=true then some (numR t)else none
 |_=>none
def zF:List PV:=[.i .i64 (.ofNat 0),.i .i64 (.ofNat 0)]
theorem NlS{t:List UInt8}(h:kindL t=1):Nbo Nb8 t=true:=by
 unfold kindL at h;split at h
 ·omega
 ·split at h
  ·assumption
  ·split at h
   ·split at h<;>omega
   ·split at h<;>omega
theorem Nlm{text:List UInt8}{i a:Nat}(h:i<a)(ha:a≤text.length):Ned 10 ((text.take a).drop i) 0=(if text.getD i 0=10 then 1 else 0)+Ned 10 ((text.take a).drop (i+1)) 0:=by
 have hl:i<(text.take a).length:=by simp;omega
 rw[Nbl hl];have e:(text.take a).getD i 0=text.getD i 0:=by
  rw[List.getD_eq_getElem?_getD,List.getD_eq_getElem?_getD,List.getElem?_take_of_lt h]
 rw[e];have e2:Ned 10 (text.getD i 0::(text.take a).drop (i+1)) 0=Ned 10 ((text.take a).drop (i+1)) (if text.getD i 0=10 then 0+1 else 0):=by rw[Ned]
 rw[e2];split
 ·have:=NhY 10 ((text.take a).drop (i+1)) 0 1;rw[this];omega
 ·omega
theorem Nou{cfg:Cfg}(hf:cfg.fn 41=some m41)(hx1:cfg.ext 59=some Nj0)(hx2:cfg.ext 60=some NjY)(hx3:cfg.ext 61=some NjZ){fuel:Nat}{text:List UInt8}{at0:Nat}(hlen:text.length≤16384)(hat:at0≤text.length)(hfu:text.length+5<fuel) :
 ∃ r st',Nay cfg (fuel+1) 41 [.s text,.i .i64 at0] { sto:=.leaf,cnt:=1 }=some (r,st')∧NaU st' r=some (Noq text at0):=by
 refine Nax hf ?_;delta m41 Qa Qr Qg Ql Qt Qn Qs Qk Qm Qh Qi Qo Qw;have h1:¬ (((text.length:Nat):Int) > Int.ofNat 16384):=by show ¬ (((text.length:Nat):Int) > 16384);omega
 have h2:¬ (((at0:Nat):Int)<Int.ofNat 0):=by show ¬ (((at0:Nat):Int)<0);omega
 have h3:¬ (((at0:Nat):Int) > ((text.length:Nat):Int)):=by omega
 have hpl:=Nch false (text.drop at0);simp only[List.length_drop]at hpl;have call1:∀ (t:List UInt8) (s:St) (key:Nat),t.length≤16384→Nam (Nak cfg (Nay cfg fuel) 59) false s key [.s t]=some (.b (Ncs false t),s):=by
  intro t s key ht;refine Nal rfl ?_ rfl;rw[Nav hx1];unfold Nj0;simp only[];rw[if_pos ht]
 have call2:∀ (t:List UInt8) (s:St) (key:Nat),t.length≤16384→Nam (Nak cfg (Nay cfg fuel) 60) false s key [.s t]=some (.i .u8 (kindL t),s):=by
  intro t s key ht;refine Nal rfl ?_ rfl;rw[Nav hx2];unfold NjY;simp only[];rw[if_pos ht]
 rw[Z0];simp only[Naj,↓Xp,↓Xt,Xq,Xc,Nae,Naa,rB,rC,rD,rE,reduceIte,Xm,rF]
 -- the ways out at the beginning
 refine Za (fun x=>x.env.get 0=.s text∧x.env.get 1=.i .i64 at0∧x.env.get 4=.ptr 1 0∧x.env.get 5=.ptr 9 0∧x.st.get 1=some (.cells zW false)∧x.st.get 9=some (.cells zF false)∧17≤x.st.cnt) ?_ ?_
 ·simp only[↓Z0,↓Xp,↓Xt,Xq,Xc,Nae,Naa,rB,rC,rD,rE,reduceIte,Xm,rF,h1];(repeat' (first|exact True.intro|rfl|assumption|omega|apply And.intro))
 rintro⟨env,st1⟩ ⟨g0,g1,g4,g5,k1,k9,kc⟩;simp only at g0 g1 g4 g5 k1 k9 kc;refine Za (fun x=>x.env.get 0=.s text∧x.env.get 1=.i .i64 at0∧x.env.get 4=.ptr 1 0∧x.env.get 5=.ptr 9 0∧x.st.get 1=some (.cells zW false)∧x.st.get 9=some (.cells zF false)∧17≤x.st.cnt) ?_ ?_
 ·simp only[↓Z0,↓Xp,↓Xt,Xq,Xc,Nae,Naa,rB,rC,rD,rE,reduceIte,Xm,rF,h2,h3,g0,g1,g4,g5];(repeat' (first|exact True.intro|rfl|assumption|omega|apply And.intro))
 clear g0 g1 g4 g5 k1 k9 kc;rintro⟨env,st1⟩ ⟨g0,g1,g4,g5,k1,k9,kc⟩;simp only at g0 g1 g4 g5 k1 k9 kc;refine Za (fun x=>x.env.get 0=.s text∧x.env.get 1=.i .i64 at0∧x.env.get 4=.ptr 1 0∧x.env.get 5=.ptr 9 0∧x.env.get 6=.i .i64 at0∧x.st.get 1=some (.cells zW false)∧x.st.get 9=some (.cells zF false)∧17≤x.st.cnt) ?_ ?_
 ·simp only[↓Z0,↓Xp,↓Xt,Xq,Xc,Nae,Naa,rB,rC,rD,rE,reduceIte,Xm,rF,g0,g1,g4,g5];(repeat' (first|exact True.intro|rfl|assumption|omega|apply And.intro))
 clear g0 g1 g4 g5 k1 k9 kc;rintro⟨env,st1⟩ ⟨g0,g1,g4,g5,g6,k1,k9,kc⟩;simp only at g0 g1 g4 g5 g6 k1 k9 kc
 -- what is passed over
 obtain⟨a,ha⟩:∃ a,at0+pass false (text.drop at0)=a:=⟨_,rfl⟩;have hal:at0≤a∧a≤text.length:=by omega
 refine Za (fun x=>x.env.get 0=.s text∧x.env.get 4=.ptr 1 0∧x.env.get 5=.ptr 9 0∧x.env.get 6=.i .i64 a∧x.st.get 1=some (.cells zW false)∧x.st.get 9=some (.cells zF false)∧17≤x.st.cnt) ?_ ?_
 ·simp only[↓Z0,↓Xp,↓Xt,Xq,Xc,Nae,Naa,rB,rC,rD,rE,reduceIte,Xm,rF];refine Z9 (k:=a - at0) (fun d x=>∃ i:Nat,at0≤i∧i≤a∧d=a - i∧x.env.get 0=.s text∧x.env.get 1=.i .i64 at0∧x.env.get 4=.ptr 1 0∧x.env.get 5=.ptr 9 0∧x.env.get 6=.i .i64 i∧x.st.get 1=some (.cells zW false)∧x.st.get 9=some (.cells zF false)∧17≤x.st.cnt) ?_ ⟨at0,Nat.le_refl _,hal.1,rfl,g0,g1,g4,g5,g6,k1,k9,kc⟩ Zaa;rintro d ⟨env,st1⟩ ⟨i,hi1,hi,rfl,g0,g1,g4,g5,g6,k1,k9,kc⟩;simp only at g0 g1 g4 g5 g6 k1 k9 kc;have hwi:IntKind.i64.wrap ((i:Int)+Int.ofNat 1)=((i+1:Nat):Int):=by
   rw[NaD _ ⟨by show _≤(i:Int)+1;omega,by show(i:Int)+1<_;omega⟩];rfl
  by_cases hlt:i<text.length
  ·have hlti:((i:Nat):Int)<((text.length:Nat):Int):=(by omega);have b1:Na4 (some (.i .i64 ((i+1:Nat):Int))) text.length text.length=some (i+1):=Nbp ⟨by omega,by omega⟩;have b2:Na4 (some (.i .i64 (at0:Int))) 0 (i+1)=some at0:=Nbp ⟨by omega,by omega⟩;have ho:=NcV false (text.drop at0) (i+1 - at0) (by simp only[List.length_drop];omega);have hc:=fun s key=>call1 (List.take (i+1 - at0) (text.drop at0)) s key Zak;rw[ho]at hc;by_cases hin:i<a
   ·have e1:decide (i+1 - at0≤pass false (text.drop at0))=true:=(by simp;omega);rw[e1]at hc;simp only[↓Z0,↓Xp,↓Xt,Xq,Xc,Nae,Naa,rB,rC,rD,rE,reduceIte,Xm,rF,g0,g1,g4,g5,g6,hlti,hwi,b1,b2,hc];refine⟨a - (i+1),by omega,i+1,?_⟩;(repeat' (first|exact True.intro|rfl|assumption|omega|apply And.intro))
   ·have e1:decide (i+1 - at0≤pass false (text.drop at0))=false:=(by simp;omega);have hia:i=a:=(by omega);subst hia;rw[e1]at hc;simp only[↓Z0,↓Xp,↓Xt,Xq,Xc,Nae,Naa,rB,rC,rD,rE,reduceIte,Xm,rF,g0,g1,g4,g5,g6,hlti,hwi,b1,b2,hc];(repeat' (first|exact True.intro|rfl|assumption|omega|apply And.intro))
  ·have hia:i=a:=(by omega);have hlti:¬ ((i:Nat):Int)<((text.length:Nat):Int):=(by omega);subst hia;simp only[↓Z0,↓Xp,↓Xt,Xq,Xc,Nae,Naa,rB,rC,rD,rE,reduceIte,Xm,rF,g0,g1,g4,g5,g6,hlti];(repeat' (first|exact True.intro|rfl|assumption|omega|apply And.intro))
 clear g0 g1 g4 g5 g6 k1 k9 kc;rintro⟨env,st1⟩ ⟨g0,g4,g5,g6,k1,k9,kc⟩;simp only at g0 g4 g5 g6 k1 k9 kc;rw[Z0];simp only[↓Xp,↓Xt,Xq,Xc,Nae,Naa,rB,rC,rD,rE,reduceIte,Xm,rF]
 -- the line
 have hln:=Nj7 text a;refine Za (fun x=>x.env.get 0=.s text∧x.env.get 4=.ptr 1 0∧x.env.get 5=.ptr 9 0∧x.env.get 6=.i .i64 a∧x.env.get 7=.i .i64 (Nb1 text a)∧x.st.get 1=some (.cells zW false)∧x.st.get 9=some (.cells zF false)∧17≤x.st.cnt) ?_ ?_
 ·simp only[↓Z0,↓Xp,↓Xt,Xq,Xc,Nae,Naa,rB,rC,rD,rE,reduceIte,Xm,rF];refine Z9 (k:=a - 0) (fun d x=>∃ (i n:Nat),i≤a∧d=a - i∧((n+Ned 10 ((text.take a).drop i) 0:Nat):Int)=Nb1 text a∧x.env.get 0=.s text∧x.env.get 4=.ptr 1 0∧x.env.get 5=.ptr 9 0∧x.env.get 6=.i .i64 a∧x.env.get 7=.i .i64 n∧x.env.get 8=.i .i64 i∧x.st.get 1=some (.cells zW false)∧x.st.get 9=some (.cells zF false)∧17≤x.st.cnt) ?_ ⟨0,1,Nat.zero_le _,rfl,?_,?_⟩ Zaa
  ·rintro d ⟨env,st1⟩ ⟨i,n,hi,rfl,hp,g0,g4,g5,g6,g7,g8,k1,k9,kc⟩;simp only at g0 g4 g5 g6 g7 g8 k1 k9 kc;have hwi:IntKind.i64.wrap ((i:Int)+Int.ofNat 1)=((i+1:Nat):Int):=by
    rw[NaD _ ⟨by show _≤(i:Int)+1;omega,by show(i:Int)+1<_;omega⟩];rfl
   have hwn:IntKind.i64.wrap ((n:Int)+Int.ofNat 1)=((n+1:Nat):Int):=by
    rw[NaD _ ⟨by show _≤(n:Int)+1;omega,by show(n:Int)+1<_;omega⟩];rfl
   by_cases hlt:i<a
   ·have hlti:((i:Nat):Int)<((a:Nat):Int):=(by omega);have hil:i<text.length:=(by omega);rw[Nlm hlt hal.2]at hp;by_cases h10:text.getD i 0=10
    ·have e1:=Nmu (n:=10) h10 Zaa;rw[if_pos h10]at hp;simp only[↓Z0,↓Xp,↓Xt,Xq,Xc,Nae,Naa,rB,rC,rD,rE,reduceIte,Xm,rF,g0,g4,g5,g6,g7,g8,hlti,hil,e1,hwi,hwn];refine⟨by omega,a - (i+1),by omega,i+1,n+1,?_⟩;(repeat' (first|exact True.intro|rfl|assumption|omega|apply And.intro))
    ·have e1:=Nmv (n:=10) h10 Zaa;rw[if_neg h10]at hp;simp only[↓Z0,↓Xp,↓Xt,Xq,Xc,Nae,Naa,rB,rC,rD,rE,reduceIte,Xm,rF,g0,g4,g5,g6,g7,g8,hlti,hil,e1,hwi,hwn];refine⟨by omega,a - (i+1),by omega,i+1,n,?_⟩;(repeat' (first|exact True.intro|rfl|assumption|omega|apply And.intro))
   ·have hia:i=a:=(by omega);have hlti:¬ ((i:Nat):Int)<((a:Nat):Int):=(by omega);subst hia;simp only[↓Z0,↓Xp,↓Xt,Xq,Xc,Nae,Naa,rB,rC,rD,rE,reduceIte,Xm,rF,g0,g4,g5,g6,g7,g8,hlti];have e0:(text.take i).drop i=[]:=List.drop_of_length_le Zak;rw[e0]at hp;have hp':(n:Int)=Nb1 text i:=(by rw[←hp];simp[Ned]);rw[hp'];(repeat' (first|exact True.intro|rfl|assumption|omega|apply And.intro))
  ·unfold Nb1;simp;omega
  ·simp only[Yad,rE,reduceIte,g0,g4,g5,g6];(repeat' (first|exact True.intro|rfl|assumption|omega|apply And.intro))
 clear g0 g4 g5 g6 k1 k9 kc;rintro⟨env,st1⟩ ⟨g0,g4,g5,g6,g7,k1,k9,kc⟩;simp only at g0 g4 g5 g6 g7 k1 k9 kc;generalize hL:Nb1 text a=line at *;have hn19:∀ j,(st1.cnt+j=1)=False:=fun j=>by simp;omega
 have hn99:∀ j,(st1.cnt+j=9)=False:=fun j=>by simp;omega
 by_cases hend:a=text.length
 ·have e1:(((a:Nat):Int)==((text.length:Nat):Int))=true:=by rw[hend];simp
  have eR:Noq text at0=Nck 5 [] 0 line a a:=by unfold Noq;simp only[ha,hL];rw[if_pos hend]
  rw[eR];simp only[↓Z0,↓Xp,↓Xt,Xq,Xc,Nae,Naa,rB,rC,rD,rE,reduceIte,Xm,rF,g0,g4,g5,g6,g7,e1,k1,k9,zW,zF];refine⟨nofun,[.agg [.i .u8 5,.s [],.i .i64 0,.i .i64 line,.i .i64 a,.i .i64 a],.agg [.i .i64 0,.i .i64 0]],?_,rfl⟩;simp only[mapO,Nej,↓Z0,↓Xp,↓Xt,Xq,Xc,Nae,Naa,rB,rC,rD,rE,reduceIte,Xm,rF,g0,g4,g5];rfl
 have e1:(((a:Nat):Int)==((text.length:Nat):Int))=false:=by simp only[beq_eq_false_iff_ne,ne_eq];omega
 obtain⟨t,ht⟩:∃ t,text.drop a=t:=⟨_,rfl⟩;have htl:t.length=text.length - a:=by rw[←ht];simp
 have htn:t≠[]:=by intro q;rw[q]at htl;simp at htl;omega
 obtain⟨s,hs⟩:∃ s,t.take (Njm t)=s:=⟨_,rfl⟩;have hee:Njm t≤t.length:=by unfold Njm;split;exact NeI t;omega
 have eR:Noq text at0=(if kindL s=0 then Nbm 100 line else if kindL s=1 then(match Neh 0 s with
  |some n=>Nck 1 [] n line a ((a+Njm t:Nat):Int)
  |none=>Nbm 100 line)else Nck (kindL s) s 0 line a ((a+Njm t:Nat):Int)):=by
  unfold Noq;simp only[ha,hL];rw[if_neg hend,ht,hs];cases Neh 0 s<;>rfl
 rw[eR];refine Za (fun x=>x.env.get 0=.s text∧x.env.get 4=.ptr 1 0∧x.env.get 5=.ptr 9 0∧x.env.get 6=.i .i64 a∧x.env.get 7=.i .i64 line∧x.st.get 1=some (.cells zW false)∧x.st.get 9=some (.cells zF false)∧17≤x.st.cnt) ?_ ?_
 ·simp only[↓Z0,↓Xp,↓Xt,Xq,Xc,Nae,Naa,rB,rC,rD,rE,reduceIte,Xm,rF,g0,g4,g5,g6,g7,e1];(repeat' (first|exact True.intro|rfl|assumption|omega|apply And.intro))
 clear g0 g4 g5 g6 g7 k1 k9 kc hn19 hn99;rintro⟨env,st1⟩ ⟨g0,g4,g5,g6,g7,k1,k9,kc⟩;simp only at g0 g4 g5 g6 g7 k1 k9 kc;rw[Z0];simp only[↓Xp,↓Xt,Xq,Xc,Nae,Naa,rB,rC,rD,rE,reduceIte,Xm,rF,g6]
 -- the longest piece
 refine Za (fun x=>x.env.get 0=.s text∧x.env.get 4=.ptr 1 0∧x.env.get 5=.ptr 9 0∧x.env.get 6=.i .i64 a∧x.env.get 7=.i .i64 line∧x.env.get 9=.i .i64 ((a+Njm t:Nat):Int)∧x.st.get 1=some (.cells zW false)∧x.st.get 9=some (.cells zF false)∧17≤x.st.cnt) ?_ ?_
 ·have hw1:IntKind.i64.wrap ((a:Int)+Int.ofNat 1)=((a+1:Nat):Int):=by
   rw[NaD _ ⟨by show _≤(a:Int)+1;omega,by show(a:Int)+1<_;omega⟩];rfl
  have hw2:IntKind.i64.wrap ((a:Int)+Int.ofNat 2)=((a+2:Nat):Int):=by
   rw[NaD _ ⟨by show _≤(a:Int)+2;omega,by show(a:Int)+2<_;omega⟩];rfl
  simp only[↓Z0,↓Xp,↓Xt,Xq,Xc,Nae,Naa,rB,rC,rD,rE,reduceIte,Xm,rF,Yad,g6,hw1];refine Z9 (k:=t.length+1 - 1) (fun d x=>∃ j:Nat,1≤j∧j≤t.length+1∧d=t.length+1 - j∧x.env.get 0=.s text∧x.env.get 4=.ptr 1 0∧x.env.get 5=.ptr 9 0∧x.env.get 6=.i .i64 a∧x.env.get 7=.i .i64 line∧x.env.get 9=.i .i64 ((a+eF t j:Nat):Int)∧x.env.get 10=.i .i64 ((a+j:Nat):Int)∧x.st.get 1=some (.cells zW false)∧x.st.get 9=some (.cells zF false)∧17≤x.st.cnt) ?_ ⟨1,Nat.le_refl _,by omega,rfl,?_⟩ Zaa
  ·rintro d ⟨env,st1⟩ ⟨j,hj1,hj,rfl,g0,g4,g5,g6,g7,g9,g10,k1,k9,kc⟩;simp only at g0 g4 g5 g6 g7 g9 g10 k1 k9 kc;have hwj:IntKind.i64.wrap (((a+j:Nat):Int)+Int.ofNat 1)=((a+(j+1):Nat):Int):=by
    rw[NaD _ ⟨by show _≤((a+j:Nat):Int)+1;omega,by show((a+j:Nat):Int)+1<_;omega⟩];rfl
   have hF:eF t (j+1)=if 0<j∧0<kindL (t.take j)then j else eF t j:=rfl;by_cases hin:j≤t.length
   ·have c1:((a+j:Nat):Int)≤((text.length:Nat):Int):=(by omega);have b3:Na4 (some (.i .i64 ((a+j:Nat):Int))) text.length text.length=some (a+j):=Nbp ⟨by omega,by omega⟩;have b4:Na4 (some (.i .i64 (a:Int))) 0 (a+j)=some a:=Nbp ⟨by omega,by omega⟩;have et:List.take (a+j - a) (List.drop a text)=t.take j:=(by rw[ht,Nat.add_sub_cancel_left]);have hk:=fun s key=>call2 (t.take j) s key Zak;by_cases hkj:0<kindL (t.take j)
    ·have c2:((kindL (t.take j):Nat):Int) > Int.ofNat 0:=(by show((kindL (t.take j):Nat):Int) > 0;omega);rw[if_pos ⟨by omega,hkj⟩]at hF;by_cases hj2:j≤2
     ·have c3:((a+j:Nat):Int)≤((a+2:Nat):Int):=(by omega);simp only[↓Z0,↓Xp,↓Xt,Xq,Xc,Nae,Naa,rB,rC,rD,rE,reduceIte,Xm,rF,g0,g4,g5,g6,g7,g9,g10,c1,hw2,c3,b3,b4,et,hk,c2,hwj];refine⟨t.length+1 - (j+1),by omega,j+1,?_⟩;rw[hF];(repeat' (first|exact True.intro|rfl|assumption|omega|apply And.intro))
     ·have c3:¬ ((a+j:Nat):Int)≤((a+2:Nat):Int):=(by omega);simp only[↓Z0,↓Xp,↓Xt,Xq,Xc,Nae,Naa,rB,rC,rD,rE,reduceIte,Xm,rF,g0,g4,g5,g6,g7,g9,g10,c1,hw2,c3,b3,b4,et,hk,c2,hwj];refine⟨t.length+1 - (j+1),by omega,j+1,?_⟩;rw[hF];(repeat' (first|exact True.intro|rfl|assumption|omega|apply And.intro))
    ·have c2:¬ ((kindL (t.take j):Nat):Int) > Int.ofNat 0:=(by show ¬ ((kindL (t.take j):Nat):Int) > 0;omega);rw[if_neg Zaa]at hF;by_cases hj2:j≤2
     ·have c3:((a+j:Nat):Int)≤((a+2:Nat):Int):=(by omega);simp only[↓Z0,↓Xp,↓Xt,Xq,Xc,Nae,Naa,rB,rC,rD,rE,reduceIte,Xm,rF,g0,g4,g5,g6,g7,g9,g10,c1,hw2,c3,b3,b4,et,hk,c2,hwj];refine⟨t.length+1 - (j+1),by omega,j+1,?_⟩;rw[hF];(repeat' (first|exact True.intro|rfl|assumption|omega|apply And.intro))
     ·have c3:¬ ((a+j:Nat):Int)≤((a+2:Nat):Int):=(by omega);have hfin:=NmE htn hj1 hj (.inr ⟨by omega,hkj⟩);rw[hfin]at g9;simp only[↓Z0,↓Xp,↓Xt,Xq,Xc,Nae,Naa,rB,rC,rD,rE,reduceIte,Xm,rF,g0,g4,g5,g6,g7,g9,g10,c1,hw2,c3,b3,b4,et,hk,c2,hwj];(repeat' (first|exact True.intro|rfl|assumption|omega|apply And.intro))
   ·have c1:¬ ((a+j:Nat):Int)≤((text.length:Nat):Int):=(by omega);have hfin:=NmE htn hj1 hj (.inl Zaa);rw[hfin]at g9;simp only[↓Z0,↓Xp,↓Xt,Xq,Xc,Nae,Naa,rB,rC,rD,rE,reduceIte,Xm,rF,g0,g4,g5,g6,g7,g9,g10,c1];(repeat' (first|exact True.intro|rfl|assumption|omega|apply And.intro))
  ·simp only[Yad,rE,reduceIte,g0,g4,g5,g6,g7];have:eF t 1=0:=(by simp[eF]);rw[this];(repeat' (first|exact True.intro|rfl|assumption|omega|apply And.intro))
 clear g0 g4 g5 g6 g7 k1 k9 kc;rintro⟨env,st1⟩ ⟨g0,g4,g5,g6,g7,g9,k1,k9,kc⟩;simp only at g0 g4 g5 g6 g7 g9 k1 k9 kc;have hn1:∀ j,(st1.cnt+j=1)=False:=fun j=>by simp;omega
 have hn9:∀ j,(st1.cnt+j=9)=False:=fun j=>by simp;omega
 have hn1':∀ j,(1=st1.cnt+j)=False:=fun j=>by simp;omega
 have hn9':∀ j,(9=st1.cnt+j)=False:=fun j=>by simp;omega
 generalize Njm t=e at *;have b3:Na4 (some (.i .i64 ((a+e:Nat):Int))) text.length text.length=some (a+e):=Nbp ⟨by omega,by omega⟩;have b4:Na4 (some (.i .i64 (a:Int))) 0 (a+e)=some a:=Nbp ⟨by omega,by omega⟩;have et:List.take (a+e - a) (List.drop a text)=s:=by rw[ht,Nat.add_sub_cancel_left,hs]
 have hsl:s.length≤16384:=by rw[←hs];simp;omega
 have hk:=fun st key=>call2 s st key hsl;by_cases hk0:kindL s=0
 ·rw[if_pos hk0];have e0:(((kindL s:Nat):Int)==Int.ofNat 0)=true:=by rw[hk0];rfl
  simp only[↓Z0,↓Xp,↓Xt,Xq,Xc,Nae,Naa,rB,rC,rD,rE,reduceIte,Xm,rF,g0,g4,g5,g6,g7,g9,b3,b4,et,hk,e0,k1,k9,zW,zF,hn1,hn9,hn1',hn9'];refine⟨nofun,[.agg [.i .u8 0,.s [],.i .i64 0,.i .i64 0,.i .i64 0,.i .i64 0],.agg [.i .i64 100,.i .i64 line]],?_,rfl⟩;simp only[mapO,Nej,↓Z0,↓Xp,↓Xt,Xq,Xc,Nae,Naa,rB,rC,rD,rE,reduceIte,Xm,rF,g0,g4,g5];rfl
 rw[if_neg hk0];have e0:(((kindL s:Nat):Int)==Int.ofNat 0)=false:=by
  simp only[beq_eq_false_iff_ne,ne_eq];intro q;have:((kindL s:Nat):Int)=0:=q;omega
 by_cases hk1:kindL s=1
 ·rw[if_pos hk1];have e2:(((kindL s:Nat):Int)==Int.ofNat 1)=true:=by rw[hk1];rfl
  have hnum:∀ (st:St) (key:Nat),Nam (Nak cfg (Nay cfg fuel) 61) false st key [.s s]=some (numR s,st):=by
   intro st key;refine Nal rfl ?_ ?_
   ·rw[Nav hx3];unfold NjZ;simp only[];rw[if_pos ⟨hsl,NlS hk1⟩]
   ·unfold numR;cases Neh 0 s<;>rfl
  cases hnl:Neh 0 s with
  |none =>
    have hnr:numR s=.tup [.i .i64 0,.b false]:=(by unfold numR;rw[hnl]);rw[hnr]at hnum;simp only[↓Z0,↓Xp,↓Xt,Xq,Xc,Nae,Naa,rB,rC,rD,rE,reduceIte,Xm,rF,g0,g4,g5,g6,g7,g9,b3,b4,et,hk,e0,e2,hnum,unP,k1,k9,zW,zF,hn1,hn9,hn1',hn9'];refine⟨nofun,[.agg [.i .u8 0,.s [],.i .i64 0,.i .i64 0,.i .i64 0,.i .i64 0],.agg [.i .i64 100,.i .i64 line]],?_,rfl⟩;simp only[mapO,Nej,↓Z0,↓Xp,↓Xt,Xq,Xc,Nae,Naa,rB,rC,rD,rE,reduceIte,Xm,rF,g0,g4,g5];rfl
  |some n =>
    have hnr:numR s=.tup [.i .i64 n,.b true]:=(by unfold numR;rw[hnl]);rw[hnr]at hnum;simp only[↓Z0,↓Xp,↓Xt,Xq,Xc,Nae,Naa,rB,rC,rD,rE,reduceIte,Xm,rF,g0,g4,g5,g6,g7,g9,b3,b4,et,hk,e0,e2,hnum,unP,k1,k9,zW,zF,hn1,hn9,hn1',hn9'];refine⟨nofun,[.agg [.i .u8 1,.s [],.i .i64 n,.i .i64 line,.i .i64 a,.i .i64 ((a+e:Nat):Int)],.agg [.i .i64 0,.i .i64 0]],?_,rfl⟩;simp only[mapO,Nej,↓Z0,↓Xp,↓Xt,Xq,Xc,Nae,Naa,rB,rC,rD,rE,reduceIte,Xm,rF,g0,g4,g5,hk1];rfl
 ·rw[if_neg hk1];have e2:(((kindL s:Nat):Int)==Int.ofNat 1)=false:=by
   simp only[beq_eq_false_iff_ne,ne_eq];intro q;have:((kindL s:Nat):Int)=((1:Nat):Int):=q;omega
  simp only[↓Z0,↓Xp,↓Xt,Xq,Xc,Nae,Naa,rB,rC,rD,rE,reduceIte,Xm,rF,g0,g4,g5,g6,g7,g9,b3,b4,et,hk,e0,e2,unP,k1,k9,zW,zF,hn1,hn9,hn1',hn9'];refine⟨nofun,[.agg [.i .u8 (kindL s:Nat),.s s,.i .i64 0,.i .i64 line,.i .i64 a,.i .i64 ((a+e:Nat):Int)],.agg [.i .i64 0,.i .i64 0]],?_,rfl⟩;simp only[mapO,Nej,↓Z0,↓Xp,↓Xt,Xq,Xc,Nae,Naa,rB,rC,rD,rE,reduceIte,Xm,rF,g0,g4,g5];rfl
end Go.Pe
