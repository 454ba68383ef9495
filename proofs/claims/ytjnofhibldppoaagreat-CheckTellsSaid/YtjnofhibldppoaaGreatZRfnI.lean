/-
 Words: the document's answer, by the interpreter of plain data: the token at a place. No condition.
-/
import Derived.Test.YtjnofhibldppoaaGreatZWordsG
import Derived.Test.YtjnofhibldppoaaGreatZWordsS
set_option linter.unusedVariables false
set_option linter.unusedSimpArgs false
open Nat renaming reduceAdd → rB,reduceMul → rC,reduceLT → rD,reduceEqDiff → rE,reduceLeDiff → rF
namespace Go.Pe
open Go Go.Am Go.RowKit
section
variable {cfg:Cfg}{fuel:Nat}{c:UInt8}{st:St}
theorem Npw(l:List UInt8):Nek 10 l 0≤l.length:=by
 rw[NfZ];have:=List.count_le_length (a:=(10:UInt8)) (l:=l);omega
theorem Nkj(l:List UInt8)(a:Nat):1≤Nca l a∧Nca l a≤l.length+1:=by
 unfold Nca;have:=Npw (l.take a);simp only[List.length_take]at this;omega
theorem Nlu(hf:cfg.fn 89=some m89){l:List UInt8}(hlen:l.length≤16384)(hfu:l.length<fuel) :
 ∃ r st',NaC cfg (fuel+1) 89 [.i .u8 c.toNat,.s l] st=some (r,st')∧r=.b (Na0 c l):=by
 refine NaA hf ?_;delta m89 Qa Ql Qt Qk Qm Qi Qo;simp only[Nai,↓Z0,↓Xp,↓Xt,Xq,Xc,Nae,Naa,rB,rC,rD,rE,reduceIte];refine Z9 (k:=l.length - 0) (fun d x=>∃ i:Nat,i≤l.length∧d=l.length - i∧Na0 c (l.drop i)=Na0 c l∧x.env.get 0=.i .u8 c.toNat∧x.env.get 1=.s l∧x.env.get 5=.i .i64 i) ?_ ⟨0,Nat.zero_le _,rfl,rfl,?_⟩ Zaa
 ·rintro d ⟨env,st1⟩ ⟨i,hi,rfl,hp,g0,g1,g5⟩;simp only at g0 g1 g5;by_cases hlt:i<l.length
  ·have hd:=Nbw hlt;rw[hd]at hp;have hlti:((i:Nat):Int)<((l.length:Nat):Int):=(by omega);have hwi:IntKind.i64.wrap ((i:Int)+Int.ofNat 1)=((i+1:Nat):Int):=by
    rw[NaG _ ⟨by show _≤(i:Int)+1;omega,by show(i:Int)+1<_;omega⟩];rfl
   by_cases hb:l.getD i 0=c
   ·have e1:((((l.getD i 0).toNat:Nat):Int)==((c.toNat:Nat):Int))=true:=(by rw[hb];simp);simp only[↓Z0,↓Xp,↓Xt,Xq,Xc,Nae,Naa,rB,rC,rD,rE,reduceIte,g0,g1,g5,hlti,hlt,e1,hwi];simp only[Na0,hb,beq_self_eq_true,Bool.true_or]at hp;refine⟨by omega,nofun,_,rfl,?_⟩;simp only[Nay,←hp,↓Z0,↓Xp,↓Xt,Xq,Xc,Nae,Naa,rB,rC,rD,rE,reduceIte]
   ·have e1:((((l.getD i 0).toNat:Nat):Int)==((c.toNat:Nat):Int))=false:=by
     simp only[beq_eq_false_iff_ne,ne_eq];intro h;exact hb (UInt8.toNat_inj.1 Zaa)
    have hb':(l.getD i 0==c)=false:=(by simpa using hb);simp only[↓Z0,↓Xp,↓Xt,Xq,Xc,Nae,Naa,rB,rC,rD,rE,reduceIte,g0,g1,g5,hlti,hlt,e1,hwi];simp only[Na0,hb',Bool.false_or]at hp;exact⟨by omega,l.length - (i+1),by omega,i+1,by omega,rfl,hp,rfl⟩
  ·have hie:i=l.length:=(by omega);subst hie;simp only[↓Z0,↓Xp,↓Xt,Xq,Xc,Nae,Naa,rB,rC,rD,rE,reduceIte,g0,g1,g5,Int.lt_irrefl];simp only[List.drop_length,Na0]at hp;refine⟨nofun,_,rfl,?_⟩;simp only[Nay,←hp,↓Z0,↓Xp,↓Xt,Xq,Xc,Nae,Naa,rB,rC,rD,rE,reduceIte]
 ·simp[Yad]
def NdH:List PV→Option PV
 |[.i .u8 c,.s l]=>if l.length≤16384∧0≤c∧c<256 then some (.b (Na0 c.toNat.toUInt8 l))else none
 |_=>none
theorem Ndb(hx:cfg.ext 89=some NdH)(callE:CallE)(c:UInt8)(l:List UInt8)(hl:l.length≤16384)(st:St)(key:Nat):Nam (Naj cfg callE 89) false st key [.i .u8 c.toNat,.s l]=some (.b (Na0 c l),st):=by
 refine Nal rfl ?_ rfl;rw[NaM hx];have:=c.toNat_lt;unfold NdH;simp only[];rw[if_pos ⟨hl,by omega,by omega⟩];simp
theorem NoO(hf:cfg.fn 90=some m90)(hx:cfg.ext 89=some NdH){t l:List UInt8}(hlen:t.length≤16384)(hll:l.length≤16384)(hfu:t.length<fuel) :
 ∃ r st',NaC cfg (fuel+1) 90 [.s t,.s l] st=some (r,st')∧r=.b (Nbz l t):=by
 refine NaA hf ?_;delta m90 Qa Ql Qt Qk Qm Qi Qo;simp only[Nai,↓Z0,↓Xp,↓Xt,Xq,Xc,Nae,Naa,rB,rC,rD,rE,reduceIte];refine Z9 (k:=t.length - 0) (fun d x=>∃ i:Nat,i≤t.length∧d=t.length - i∧Nbz l (t.drop i)=Nbz l t∧x.env.get 0=.s t∧x.env.get 1=.s l∧x.env.get 5=.i .i64 i) ?_ ⟨0,Nat.zero_le _,rfl,rfl,?_⟩ Zaa
 ·rintro d ⟨env,st1⟩ ⟨i,hi,rfl,hp,g0,g1,g5⟩;simp only at g0 g1 g5;by_cases hlt:i<t.length
  ·have hd:=Nbw hlt;rw[hd]at hp;have hlti:((i:Nat):Int)<((t.length:Nat):Int):=(by omega);have hwi:IntKind.i64.wrap ((i:Int)+Int.ofNat 1)=((i+1:Nat):Int):=by
    rw[NaG _ ⟨by show _≤(i:Int)+1;omega,by show(i:Int)+1<_;omega⟩];rfl
   have hcall:=fun(s:St) (key:Nat)=>Ndb hx (NaC cfg fuel) (t.getD i 0) l hll s key;cases hb:Na0 (t.getD i 0) l with
   |true =>
     simp only[↓Z0,↓Xp,↓Xt,Xq,Xc,Nae,Naa,rB,rC,rD,rE,reduceIte,g0,g1,g5,hlti,hlt,hcall,hb,unP,hwi];simp only[Nbz,hb,Bool.true_and]at hp;exact⟨by omega,t.length - (i+1),by omega,i+1,by omega,rfl,hp,rfl⟩
   |false =>
     simp only[↓Z0,↓Xp,↓Xt,Xq,Xc,Nae,Naa,rB,rC,rD,rE,reduceIte,g0,g1,g5,hlti,hlt,hcall,hb,unP,hwi];simp only[Nbz,hb,Bool.false_and]at hp;refine⟨by omega,nofun,_,rfl,?_⟩;simp only[Nay,←hp,↓Z0,↓Xp,↓Xt,Xq,Xc,Nae,Naa,rB,rC,rD,rE,reduceIte]
  ·have hie:i=t.length:=(by omega);subst hie;simp only[↓Z0,↓Xp,↓Xt,Xq,Xc,Nae,Naa,rB,rC,rD,rE,reduceIte,g0,g1,g5,Int.lt_irrefl];simp only[List.drop_length,Nbz]at hp;refine⟨nofun,_,rfl,?_⟩;simp only[Nay,←hp,↓Z0,↓Xp,↓Xt,Xq,Xc,Nae,Naa,rB,rC,rD,rE,reduceIte]
 ·simp[Yad]
def Njc:List PV→Option PV
 |[.s t,.s l]=>if t.length≤16384∧l.length≤16384 then some (.b (Nbz l t))else none
 |_=>none
theorem NgD(hx:cfg.ext 90=some Njc)(callE:CallE)(t l:List UInt8)(ht:t.length≤16384)(hl:l.length≤16384)(st:St)(key:Nat):Nam (Naj cfg callE 90) false st key [.s t,.s l]=some (.b (Nbz l t),st):=by
 refine Nal rfl ?_ rfl;rw[NaM hx];unfold Njc;simp only[];rw[if_pos ⟨ht,hl⟩]
theorem Nm3{n:Nat}(h:c≠UInt8.ofNat n)(hn:n<256):(((c.toNat:Nat):Int)==Int.ofNat n)=false:=by
 simp only[beq_eq_false_iff_ne,ne_eq];intro e;have e':c.toNat=n:=by have:((c.toNat:Nat):Int)=((n:Nat):Int):=e;omega
 exact h (UInt8.toNat_inj.1 (by rw[e',UInt8.toNat_ofNat'];omega))
theorem Nm2{n:Nat}(h:c=UInt8.ofNat n)(hn:n<256):(((c.toNat:Nat):Int)==Int.ofNat n)=true:=by
 rw[h,UInt8.toNat_ofNat',Nat.mod_eq_of_lt hn];simp
theorem No0(hf:cfg.fn 68=some m68)(hx:cfg.ext 89=some NdH){t:List UInt8}(hlen:t.length≤16384)(hfu:t.length<fuel) :
 ∃ r st',NaC cfg (fuel+1) 68 [.s t] st=some (r,st')∧r=.b (Ncy false t):=by
 refine NaA hf ?_;delta m68 Qa Ql Qt Qs Qk Qm Qh Qi Qo;simp only[Nai,↓Z0,↓Xp,↓Xt,Xq,Xc,Nae,Naa,rB,rC,rD,rE,reduceIte];refine Z9 (k:=t.length - 0) (fun d x=>∃ (i:Nat) (rm:Bool),i≤t.length∧d=t.length - i∧Ncy rm (t.drop i)=Ncy false t∧x.env.get 0=.s t∧x.env.get 3=.b rm∧x.env.get 4=.i .i64 i) ?_ ⟨0,false,Nat.zero_le _,rfl,rfl,?_⟩ Zaa
 ·rintro d ⟨env,st1⟩ ⟨i,rm,hi,rfl,hp,g0,g3,g4⟩;simp only at g0 g3 g4;by_cases hlt:i<t.length
  ·have hd:=Nbw hlt;rw[hd]at hp;have hlti:((i:Nat):Int)<((t.length:Nat):Int):=(by omega);have hwi:IntKind.i64.wrap ((i:Int)+Int.ofNat 1)=((i+1:Nat):Int):=by
    rw[NaG _ ⟨by show _≤(i:Int)+1;omega,by show(i:Int)+1<_;omega⟩];rfl
   obtain⟨c,hc⟩:∃ c,t.getD i 0=c:=⟨_,rfl⟩;rw[hc]at hp;have hcall:=fun(s:St) (key:Nat)=>Ndb hx (NaC cfg fuel) c [9,10,13,32] Zaf s key;by_cases h1:c=10
   ·have e1:=Nm2 (n:=10) h1 Zaa;simp only[Ncy,h1,if_true]at hp;simp only[↓Z0,↓Xp,↓Xt,Xq,Xc,Nae,Naa,rB,rC,rD,rE,reduceIte,g0,g3,g4,hlti,hlt,hc,e1,hwi];exact⟨by omega,t.length - (i+1),by omega,i+1,false,by omega,rfl,hp,rfl,rfl⟩
   ·have e1:=Nm3 (n:=10) h1 Zaa;by_cases h2:c=35
    ·have e2:=Nm2 (n:=35) h2 Zaa;simp only[Ncy,h2,if_true]at hp;rw[if_neg Zaj]at hp;simp only[↓Z0,↓Xp,↓Xt,Xq,Xc,Nae,Naa,rB,rC,rD,rE,reduceIte,g0,g3,g4,hlti,hlt,hc,e1,e2,hwi];exact⟨by omega,by omega,t.length - (i+1),by omega,i+1,true,by omega,rfl,hp,rfl,rfl⟩
    ·have e2:=Nm3 (n:=35) h2 Zaa;simp only[Ncy,h1,h2,if_false]at hp;cases rm with
     |true =>
       simp only[if_true]at hp;simp only[↓Z0,↓Xp,↓Xt,Xq,Xc,Nae,Naa,rB,rC,rD,rE,reduceIte,g0,g3,g4,hlti,hlt,hc,e1,e2,hwi,unP];exact⟨by omega,by omega,t.length - (i+1),by omega,i+1,true,by omega,rfl,hp,rfl,rfl⟩
     |false =>
       simp only[Bool.false_eq_true,if_false]at hp;cases hb:Na0 c [9,10,13,32]with
       |true =>
         have hp':Ncy false (t.drop (i+1))=Ncy false t:=by
          have:Na0 c Nfu=true:=hb;rw[if_pos this]at hp;exact hp
         simp only[↓Z0,↓Xp,↓Xt,Xq,Xc,Nae,Naa,rB,rC,rD,rE,reduceIte,g0,g3,g4,hlti,hlt,hc,e1,e2,hwi,unP,hcall,hb];exact⟨by omega,by omega,by omega,t.length - (i+1),by omega,i+1,false,by omega,rfl,hp',rfl,rfl⟩
       |false =>
         have hp':false=Ncy false t:=by
          have:¬ Na0 c Nfu=true:=(by rw[show Na0 c Nfu=false from hb];simp);rw[if_neg this]at hp;exact hp
         simp only[↓Z0,↓Xp,↓Xt,Xq,Xc,Nae,Naa,rB,rC,rD,rE,reduceIte,g0,g3,g4,hlti,hlt,hc,e1,e2,hwi,unP,hcall,hb];refine⟨by omega,by omega,by omega,nofun,_,rfl,?_⟩;simp only[Nay,←hp',↓Z0,↓Xp,↓Xt,Xq,Xc,Nae,Naa,rB,rC,rD,rE,reduceIte]
  ·have hie:i=t.length:=(by omega);subst hie;simp only[↓Z0,↓Xp,↓Xt,Xq,Xc,Nae,Naa,rB,rC,rD,rE,reduceIte,g0,g3,g4,Int.lt_irrefl];simp only[List.drop_length]at hp;refine⟨nofun,_,rfl,?_⟩;have:Ncy rm []=true:=(by cases rm<;>rfl);simp only[Nay,←hp,this,↓Z0,↓Xp,↓Xt,Xq,Xc,Nae,Naa,rB,rC,rD,rE,reduceIte]
 ·simp[Yad]
def Nkc:List PV→Option PV
 |[.s t]=>if t.length≤16384 then some (.b (Ncy false t))else none
 |_=>none
end
end Go.Pe
set_option maxHeartbeats 4000000
set_option maxRecDepth 100000
namespace Go.Pe
open Go Go.Am Go.RowKit
def Ney:List PV:=keyWs.map PV.s
theorem Nme{st:St}{k:Nat}{fz:Bool}(hk:st.get k=some (.cells Ney fz))(i:Nat)(hi:i<37):NaY st 1 (.ptr k (0+i * 1))=some [.s (keyWs.getD i [])]:=by
 unfold NaY;simp only[hk];have hl:keyWs.length=37:=rfl;unfold cut? Ney;rw[if_pos (by simp[hl];omega)];apply congrArg;apply List.ext_getElem?;intro j;cases j with
 |zero=>simp[List.getElem?_take,List.getElem?_drop,List.getElem?_map,hl,hi,List.getD_eq_getElem?_getD]
 |succ j=>simp[List.getElem?_take]
theorem Ni5{l:List (List UInt8)}{i:Nat}(h:i<l.length):l.drop i=l.getD i []::l.drop (i+1):=by
 rw[List.drop_eq_getElem_cons h];simp[List.getD_eq_getElem?_getD,List.getElem?_eq_getElem h]
theorem Np4{cfg:Cfg}(hf:cfg.fn 91=some m91){fuel:Nat}{t:List UInt8}(hfu:40<fuel){st:St} :
 ∃ r st',NaC cfg (fuel+1) 91 [.s t] st=some (r,st')∧r=.b (NjD t):=by
 refine NaA hf ?_;delta m91 Qa Qr Ql Qt Qn Qk Qm Qi Qo;have hl:keyWs.length=37:=rfl;simp only[Nai,↓Z0,↓Xp,↓Xt,Xq,Xc,Nae,Naa,rB,rC,rD,rE,reduceIte,Xm,rF];refine Z9 (k:=37 - 0) (fun d x=>∃ (i k:Nat),i≤37∧d=37 - i∧(keyWs.drop i).any (·==t)=NjD t∧x.env.get 0=.s t∧x.env.get 3=.ptr k 0∧x.env.get 4=.i .i64 i∧x.st.get k=some (.cells Ney false)) ?_ ⟨0,st.cnt+16,Nat.zero_le _,rfl,rfl,?_⟩ Zaa
 ·rintro d ⟨env,st1⟩ ⟨i,k,hi,rfl,hp,g0,g3,g4,hk⟩;simp only at g0 g3 g4 hk;by_cases hlt:i<37
  ·have hd:=Ni5 (l:=keyWs) (i:=i) Zaa;rw[hd]at hp;have hlti:((i:Nat):Int)<Int.ofNat 37:=(by show(i:Int)<37;omega);have hlti2:((i:Nat):Int)<((37:Nat):Int):=(by omega);have hwi:IntKind.i64.wrap ((i:Int)+Int.ofNat 1)=((i+1:Nat):Int):=by
    rw[NaG _ ⟨by show _≤(i:Int)+1;omega,by show(i:Int)+1<_;omega⟩];rfl
   have hld:∀ c,NaY ⟨st1.sto,c⟩ 1 (.ptr k (0+i * 1))=some [.s (keyWs.getD i [])]:=fun c=>Nme (st:=⟨st1.sto,c⟩) hk i hlt;simp only[List.any_cons]at hp;cases hb:keyWs.getD i []==t with
   |true =>
     simp only[↓Z0,↓Xp,↓Xt,Xq,Xc,Nae,Naa,rB,rC,rD,rE,reduceIte,g0,g3,g4,hlti,hlti2,hld,hb,hwi];rw[hb,Bool.true_or]at hp;refine⟨by omega,nofun,_,rfl,?_⟩;simp only[Nay,←hp,↓Z0,↓Xp,↓Xt,Xq,Xc,Nae,Naa,rB,rC,rD,rE,reduceIte]
   |false =>
     simp only[↓Z0,↓Xp,↓Xt,Xq,Xc,Nae,Naa,rB,rC,rD,rE,reduceIte,g0,g3,g4,hlti,hlti2,hld,hb,hwi];rw[hb,Bool.false_or]at hp;exact⟨by omega,37 - (i+1),by omega,i+1,k,by omega,rfl,hp,rfl,rfl,hk⟩
  ·have hie:i=37:=(by omega);subst hie;simp only[↓Z0,↓Xp,↓Xt,Xq,Xc,Nae,Naa,rB,rC,rD,rE,reduceIte,g0,g3,g4,show ¬ (((37:Nat):Int)<Int.ofNat 37)from Int.lt_irrefl _];refine⟨nofun,_,rfl,?_⟩;have hp':false=NjD t:=(by rw[←hp];rfl);simp only[Nay,←hp',↓Z0,↓Xp,↓Xt,Xq,Xc,Nae,Naa,rB,rC,rD,rE,reduceIte]
 ·simp[Yad,NaP,Yaf,Ney,keyWs]
def Nri:List PV→Option PV
 |[.s t]=>some (.b (NjD t))
 |_=>none
theorem NoA{cfg:Cfg}(hf:cfg.fn 69=some m69)(hx:cfg.ext 89=some NdH)(hx2:cfg.ext 90=some Njc)(hx3:cfg.ext 91=some Nri){fuel:Nat}{t:List UInt8}(hlen:t.length≤16384){st:St} :
 ∃ r st',NaC cfg (fuel+1) 69 [.s t] st=some (r,st')∧r=.i .u8 (kindL t):=by
 refine NaA hf ?_;delta m69 Qa Ql Qt Qs Qk Qm Qh Qi;have c1:=fun(s:St) (key:Nat)=>NgD hx2 (NaC cfg fuel) t [48,49,50,51,52,53,54,55,56,57] hlen Zaf s key;have c2:=fun(c:UInt8) (s:St) (key:Nat)=>Ndb hx (NaC cfg fuel) c [97,98,99,100,101,102,103,104,105,106,107,108,109,110,111,112,113,114,115,116,117,118,119,120,121,122,65,66,67,68,69,70,71,72,73,74,75,76,77,78,79,80,81,82,83,84,85,86,87,88,89,90,95] Zaf s key;have c3:=fun(s:St) (key:Nat)=>NgD hx2 (NaC cfg fuel) t [97,98,99,100,101,102,103,104,105,106,107,108,109,110,111,112,113,114,115,116,117,118,119,120,121,122,65,66,67,68,69,70,71,72,73,74,75,76,77,78,79,80,81,82,83,84,85,86,87,88,89,90,95,48,49,50,51,52,53,54,55,56,57] hlen Zaf s key;have c4:=fun(c:UInt8) (s:St) (key:Nat)=>Ndb hx (NaC cfg fuel) c [60,43,45,42,40,41,123,125,59] Zaf s key;have c5:∀ (s:St) (key:Nat),Nam (Naj cfg (NaC cfg fuel) 91) false s key [.s t]=some (.b (NjD t),s):=fun s key=>Nal rfl (by rw[NaM hx3];rfl) rfl;cases t with
 |nil =>
   simp only[Nai,↓Z0,↓Xp,↓Xt,Xq,Xc,Nae,Naa,rB,rC,rD,rE,reduceIte,Xm,rF,show(([]:List UInt8)==[])=true from rfl];refine⟨nofun,_,rfl,?_⟩;simp only[Nay,↓Z0,↓Xp,↓Xt,Xq,Xc,Nae,Naa,rB,rC,rD,rE,reduceIte,kindL];rfl
 |cons c r =>
   have e0:(c::r==([]:List UInt8))=false:=rfl;have eg:(c::r).getD 0 0=c:=rfl;have e0t:(Int.ofNat 0).toNat=0:=rfl;have e00:0≤Int.ofNat 0:=(by decide);have ek:kindL (c::r)=if Nbz Ncj (c::r)then 1 else if Na0 c Ne4&&Nbz NfT (c::r)then(if NjD (c::r)then 3 else 2)else if(c::r)==[45,62]||(c::r)==[61,61]||((c::r).length==1&&Na0 c Nk2)then 4 else 0:=rfl
   rw[ek];have d1:Nbz Ncj (c::r)=Nbz [48,49,50,51,52,53,54,55,56,57] (c::r):=rfl;have d2:Na0 c Ne4=Na0 c [97,98,99,100,101,102,103,104,105,106,107,108,109,110,111,112,113,114,115,116,117,118,119,120,121,122,65,66,67,68,69,70,71,72,73,74,75,76,77,78,79,80,81,82,83,84,85,86,87,88,89,90,95]:=rfl;have d3:Nbz NfT (c::r)=Nbz [97,98,99,100,101,102,103,104,105,106,107,108,109,110,111,112,113,114,115,116,117,118,119,120,121,122,65,66,67,68,69,70,71,72,73,74,75,76,77,78,79,80,81,82,83,84,85,86,87,88,89,90,95,48,49,50,51,52,53,54,55,56,57] (c::r):=rfl;have d4:Na0 c Nk2=Na0 c [60,43,45,42,40,41,123,125,59]:=rfl;rw[d1,d2,d3,d4];have h0l:0<(c::r).length:=(by simp);have hl1:((((c::r).length:Nat):Int)==Int.ofNat 1)=((c::r).length==1):=by
    rw[Bool.eq_iff_iff];simp only[beq_iff_eq];constructor
    ·intro h;have:(((c::r).length:Nat):Int)=((1:Nat):Int):=h;omega
    ·intro h;rw[h];rfl
   generalize hcr:c::r=t at *;generalize Nbz [48,49,50,51,52,53,54,55,56,57] t=b1 at *;generalize Nbz [97,98,99,100,101,102,103,104,105,106,107,108,109,110,111,112,113,114,115,116,117,118,119,120,121,122,65,66,67,68,69,70,71,72,73,74,75,76,77,78,79,80,81,82,83,84,85,86,87,88,89,90,95,48,49,50,51,52,53,54,55,56,57] t=b3 at *;have c2:=c2 c;have c4:=c4 c;generalize Na0 c [97,98,99,100,101,102,103,104,105,106,107,108,109,110,111,112,113,114,115,116,117,118,119,120,121,122,65,66,67,68,69,70,71,72,73,74,75,76,77,78,79,80,81,82,83,84,85,86,87,88,89,90,95]=b2 at *;generalize Na0 c [60,43,45,42,40,41,123,125,59]=b4 at *;cases b1 with
   |true =>
     simp only[Nai,↓Z0,↓Xp,↓Xt,Xq,Xc,Nae,Naa,rB,rC,rD,rE,reduceIte,Xm,rF,e0,c1];refine⟨nofun,_,rfl,?_⟩;simp only[Nay,↓Z0,↓Xp,↓Xt,Xq,Xc,Nae,Naa,rB,rC,rD,rE,reduceIte];rfl
   |false =>
     cases b2 with
     |true =>
       cases b3 with
       |true =>
         cases hk:NjD t with
         |true =>
           simp only[Nai,↓Z0,↓Xp,↓Xt,Xq,Xc,Nae,Naa,rB,rC,rD,rE,reduceIte,Xm,rF,e0,c1,c2,c3,c5,eg,e0t,e00,h0l,hk];refine⟨nofun,_,rfl,?_⟩;simp only[Nay,↓Z0,↓Xp,↓Xt,Xq,Xc,Nae,Naa,rB,rC,rD,rE,reduceIte];rfl
         |false =>
           simp only[Nai,↓Z0,↓Xp,↓Xt,Xq,Xc,Nae,Naa,rB,rC,rD,rE,reduceIte,Xm,rF,e0,c1,c2,c3,c5,eg,e0t,e00,h0l,hk];refine⟨nofun,_,rfl,?_⟩;simp only[Nay,↓Z0,↓Xp,↓Xt,Xq,Xc,Nae,Naa,rB,rC,rD,rE,reduceIte];rfl
       |false =>
         generalize hq1:(t==[45,62])=q1;generalize hq2:(t==[61,61])=q2;generalize hq3:(t.length==1)=q3 at *;cases q1<;>cases q2<;>cases q3<;>cases b4 <;>
         ·simp only[Nai,↓Z0,↓Xp,↓Xt,Xq,Xc,Nae,Naa,rB,rC,rD,rE,reduceIte,Xm,rF,e0,c1,c2,c3,c4,eg,e0t,e00,h0l,hq1,hq2,hl1];refine⟨nofun,_,rfl,?_⟩;simp only[Nay,↓Z0,↓Xp,↓Xt,Xq,Xc,Nae,Naa,rB,rC,rD,rE,reduceIte];rfl
     |false =>
       generalize hq1:(t==[45,62])=q1;generalize hq2:(t==[61,61])=q2;generalize hq3:(t.length==1)=q3 at *;cases q1<;>cases q2<;>cases q3<;>cases b4 <;>
       ·simp only[Nai,↓Z0,↓Xp,↓Xt,Xq,Xc,Nae,Naa,rB,rC,rD,rE,reduceIte,Xm,rF,e0,c1,c2,c3,c4,eg,e0t,e00,h0l,hq1,hq2,hl1];refine⟨nofun,_,rfl,?_⟩;simp only[Nay,↓Z0,↓Xp,↓Xt,Xq,Xc,Nae,Naa,rB,rC,rD,rE,reduceIte];rfl
def Nka:List PV→Option PV
 |[.s t]=>if t.length≤16384 then some (.i .u8 (kindL t))else none
 |_=>none
end Go.Pe
set_option maxHeartbeats 4000000
namespace Go.Pe
open Go Go.Am Go.RowKit
theorem NfN(c d:UInt8)(r:List UInt8):Nba (c::d::r)=if c=48 then Nba (d::r)else c::d::r:=by rw[Nba]
theorem Nqg{cfg:Cfg}(hf:cfg.fn 70=some m70){fuel:Nat}{t0:List UInt8}(hd0:digs t0)(hlen:t0.length≤16384)(hfu:t0.length<fuel){st:St} :
 ∃ r st',NaC cfg (fuel+1) 70 [.s t0] st=some (r,st')∧r=numR t0:=by
 refine NaA hf ?_;delta m70 Qa Ql Qt Qs Qk Qm Qh Qi Qo;have e0t:(Int.ofNat 0).toNat=0:=rfl;have e00:0≤Int.ofNat 0:=by decide
 rw[Z0];simp only[Nai,↓Xp,↓Xt,Xq,Xc,Nae,Naa,rB,rC,rD,rE,reduceIte,Xm,rF];refine Za (fun x=>x.env.get 0=.s (Nba t0)) ?_ ?_
 ·simp only[↓Z0,↓Xp,↓Xt,Xq,Xc,Nae,Naa,rB,rC,rD,rE,reduceIte,Xm,rF];refine Z9 (k:=t0.length) (fun d x=>∃ t:List UInt8,Nba t=Nba t0∧t.length≤t0.length∧d=t.length∧x.env.get 0=.s t) ?_ ⟨t0,rfl,Nat.le_refl _,rfl,?_⟩ Zaa
  ·rintro d ⟨env,st1⟩ ⟨t,hs,hl,rfl,g0⟩;simp only at g0;by_cases hgt1:1<t.length
   ·have hgt:((t.length:Nat):Int) > Int.ofNat 1:=(by show((t.length:Nat):Int) > 1;omega);have hl0:0<t.length:=(by omega);by_cases h48:t.getD 0 0=48
    ·have e1:=Nm2 (n:=48) h48 Zaa;have b1:Nbf (some (.i .i64 (Int.ofNat 1))) 0 t.length=some 1:=NbA ⟨by decide,by show(1:Int)≤_;omega⟩;have et:List.take (t.length - 1) (List.drop 1 t)=t.drop 1:=List.take_of_length_le Zaf;simp only[↓Z0,↓Xp,↓Xt,Xq,Xc,Nae,Naa,rB,rC,rD,rE,reduceIte,Xm,rF,g0,hgt,e0t,e00,hl0,e1,b1,et];refine⟨(t.drop 1).length,by simp;omega,t.drop 1,?_,by simp;omega,rfl,rfl⟩;rw[←hs];rcases t with _|⟨c,_|⟨d,r⟩⟩
     ·simp at hl0
     ·simp at hgt1
     ·have hc:c=48:=(by simpa using h48);rw[NfN,if_pos hc];rfl
    ·have e1:=Nm3 (n:=48) h48 Zaa;simp only[↓Z0,↓Xp,↓Xt,Xq,Xc,Nae,Naa,rB,rC,rD,rE,reduceIte,Xm,rF,g0,hgt,e0t,e00,hl0,e1];rw[←hs];rcases t with _|⟨c,_|⟨d,r⟩⟩
     ·simp at hl0
     ·simp at hgt1
     ·have hc:¬ c=48:=(by simpa using h48);rw[NfN,if_neg hc]
   ·have hgt:¬ ((t.length:Nat):Int) > Int.ofNat 1:=(by show ¬ ((t.length:Nat):Int) > 1;omega);simp only[↓Z0,↓Xp,↓Xt,Xq,Xc,Nae,Naa,rB,rC,rD,rE,reduceIte,Xm,rF,g0,hgt];rw[←hs];rcases t with _|⟨c,_|⟨d,r⟩⟩
    ·rfl
    ·rfl
    ·simp at hgt1
  ·simp[Yad]
 rintro⟨env,st1⟩ g0;simp only at g0;obtain⟨t,hst⟩:∃ t,Nba t0=t:=⟨_,rfl⟩;rw[hst]at g0;have hdt:digs t:=hst▸NcC hd0;have hv:=Nc8 t0;rw[hst]at hv;have hn:=NoM t0 0 hd0 Zaa;have htl:=Nhk t0;rw[hst]at htl;by_cases hlong:19<t.length
 ·have h1:((t.length:Nat):Int) > Int.ofNat 19:=by show((t.length:Nat):Int) > 19;omega
  have hbig:=Njv hd0 (by rw[hst];exact hlong);rw[if_neg Zaa]at hn;simp only[↓Z0,↓Xp,↓Xt,Xq,Xc,Nae,Naa,rB,rC,rD,rE,reduceIte,Xm,rF,g0,h1];refine⟨nofun,_,rfl,?_⟩;simp only[Nay,↓Z0,↓Xp,↓Xt,Xq,Xc,Nae,Naa,rB,rC,rD,rE,reduceIte,numR,hn];rfl
 ·have h1:¬ (((t.length:Nat):Int) > Int.ofNat 19):=by show ¬ (((t.length:Nat):Int) > 19);omega
  have fits:(Nc9 0 t0≤9223372036854775807∧(t.length=19→(!(Op.bytesLess t [57,50,50,51,51,55,50,48,51,54,56,53,52,55,55,53,56,48,55]||t==[57,50,50,51,51,55,50,48,51,54,56,53,52,55,55,53,56,48,55]))=false))∨(9223372036854775807<Nc9 0 t0∧t.length=19∧(!(Op.bytesLess t [57,50,50,51,51,55,50,48,51,54,56,53,52,55,55,53,56,48,55]||t==[57,50,50,51,51,55,50,48,51,54,56,53,52,55,55,53,56,48,55]))=true):=by
   by_cases h19:t.length=19
   ·have:=Njw hd0 (by rw[hst];exact h19);rw[hst]at this;unfold mostT at this;rw[this];by_cases hb:9223372036854775807<Nc9 0 t0
    ·exact .inr ⟨hb,h19,by simpa using hb⟩
    ·exact .inl ⟨by omega,fun _=>by simpa using hb⟩
   ·exact .inl ⟨NhY hd0 (by rw[hst];omega),fun q=>absurd q h19⟩
  rcases fits with⟨hfit,hls⟩|⟨hbig,h19,hls⟩
  ·have hn':numR t0=.tup [.i .i64 ((Nc9 0 t0:Nat):Int),.b true]:=by
    unfold numR;rw[hn,if_pos hfit]
   refine Za (fun x=>x.env.get 0=.s t) ?_ ?_
   ·by_cases h19:t.length=19
    ·have h2:(((t.length:Nat):Int)==Int.ofNat 19)=true:=(by rw[h19];rfl);have hls:=hls h19;simp only[↓Z0,↓Xp,↓Xt,Xq,Xc,Nae,Naa,rB,rC,rD,rE,reduceIte,Xm,rF,g0,h1,h2,hls]
    ·have h2:(((t.length:Nat):Int)==Int.ofNat 19)=false:=by
      simp only[beq_eq_false_iff_ne,ne_eq];intro q;have:((t.length:Nat):Int)=((19:Nat):Int):=q;omega
     simp only[↓Z0,↓Xp,↓Xt,Xq,Xc,Nae,Naa,rB,rC,rD,rE,reduceIte,Xm,rF,g0,h1,h2]
   rintro⟨env,st1⟩ g0;simp only at g0;rw[hn'];simp only[↓Z0,↓Xp,↓Xt,Xq,Xc,Nae,Naa,rB,rC,rD,rE,reduceIte,Xm,rF,g0];refine Z9 (k:=t.length - 0) (fun d x=>∃ i n:Nat,i≤t.length∧d=t.length - i∧Nc9 n (t.drop i)=Nc9 0 t0∧x.env.get 0=.s t∧x.env.get 5=.i .i64 i∧x.env.get 4=.i .i64 n) ?_ ⟨0,0,Nat.zero_le _,rfl,hv,?_,?_⟩ Zaa
   ·rintro d ⟨env,st1⟩ ⟨i,n,hi,rfl,hp,g0,g5,g4⟩;simp only at g0 g5 g4;have hnn:=Nfn (t.drop i) n;by_cases hlt:i<t.length
    ·have hd:=Nbw hlt;rw[hd]at hp;have hlti:((i:Nat):Int)<((t.length:Nat):Int):=(by omega);have hwi:IntKind.i64.wrap ((i:Int)+Int.ofNat 1)=((i+1:Nat):Int):=by
      rw[NaG _ ⟨by show _≤(i:Int)+1;omega,by show(i:Int)+1<_;omega⟩];rfl
     have hcd:=hdt (t.getD i 0) (by rw[List.getD_eq_getElem?_getD,List.getElem?_eq_getElem hlt];exact List.getElem_mem hlt);obtain⟨c,hc⟩:∃ c,t.getD i 0=c:=⟨_,rfl⟩;rw[hc]at hp hcd;have ep:Nc9 n (c::t.drop (i+1))=Nc9 (n * 10+(c.toNat - 48)) (t.drop (i+1)):=rfl;rw[ep]at hp;have hnn2:=Nfn (t.drop (i+1)) (n * 10+(c.toNat - 48));have hw8:IntKind.u8.wrap ((c.toNat:Int) - Int.ofNat 48)=((c.toNat - 48:Nat):Int):=by
      rw[IntKind.wrap_u8];show((c.toNat:Int) - 48) % 256=_;omega
     have hwd:IntKind.i64.wrap ((c.toNat - 48:Nat):Int)=((c.toNat - 48:Nat):Int):=NaG _ ⟨by omega,by omega⟩;have hwm:IntKind.i64.wrap (Int.ofNat 10 * (n:Int))=((n * 10:Nat):Int):=by
      rw[NaG _ ⟨by show _≤(10:Int) * n;omega,by show(10:Int) * n<_;omega⟩];show(10:Int) * n=_;omega
     have hwa:IntKind.i64.wrap (((n * 10:Nat):Int)+((c.toNat - 48:Nat):Int))=((n * 10+(c.toNat - 48):Nat):Int):=by
      rw[NaG _ ⟨by omega,by omega⟩];rfl
     simp only[↓Z0,↓Xp,↓Xt,Xq,Xc,Nae,Naa,rB,rC,rD,rE,reduceIte,Xm,rF,g0,g5,g4,hlti,hlt,hc,hw8,hwd,hwm,hwa,hwi];exact⟨by omega,t.length - (i+1),by omega,i+1,n * 10+(c.toNat - 48),by omega,rfl,hp,rfl,rfl⟩
    ·have hie:i=t.length:=(by omega);subst hie;simp only[↓Z0,↓Xp,↓Xt,Xq,Xc,Nae,Naa,rB,rC,rD,rE,reduceIte,Xm,rF,g0,g5,g4,Int.lt_irrefl];refine⟨nofun,_,rfl,?_⟩;rw[List.drop_length]at hp;have:n=Nc9 0 t0:=hp;simp only[Nay,↓Z0,↓Xp,↓Xt,Xq,Xc,Nae,Naa,rB,rC,rD,rE,reduceIte,this]
   ·simp[Yad,g0]
   ·simp[Yad]
  ·have h2:(((t.length:Nat):Int)==Int.ofNat 19)=true:=(by rw[h19];rfl);rw[if_neg Zaa]at hn;simp only[↓Z0,↓Xp,↓Xt,Xq,Xc,Nae,Naa,rB,rC,rD,rE,reduceIte,Xm,rF,g0,h1,h2,hls];refine⟨nofun,_,rfl,?_⟩;simp only[Nay,↓Z0,↓Xp,↓Xt,Xq,Xc,Nae,Naa,rB,rC,rD,rE,reduceIte,numR,hn];rfl
end Go.Pe
set_option maxHeartbeats 8000000
set_option maxRecDepth 100000
namespace Go.Pe
open Go Go.Am Go.RowKit
def Nkb:List PV→Option PV
 |[.s t]=>if t.length≤16384∧Nbz Ncj t=true then some (numR t)else none
 |_=>none
def zF:List PV:=[.i .i64 (.ofNat 0),.i .i64 (.ofNat 0)]
theorem Nmh{t:List UInt8}(h:kindL t=1):Nbz Ncj t=true:=by
 unfold kindL at h;split at h
 ·omega
 ·split at h
  ·assumption
  ·split at h
   ·split at h<;>omega
   ·split at h<;>omega
theorem NlH{text:List UInt8}{i a:Nat}(h:i<a)(ha:a≤text.length):Nek 10 ((text.take a).drop i) 0=(if text.getD i 0=10 then 1 else 0)+Nek 10 ((text.take a).drop (i+1)) 0:=by
 have hl:i<(text.take a).length:=by simp;omega
 rw[Nbw hl];have e:(text.take a).getD i 0=text.getD i 0:=by
  rw[List.getD_eq_getElem?_getD,List.getD_eq_getElem?_getD,List.getElem?_take_of_lt h]
 rw[e];have e2:Nek 10 (text.getD i 0::(text.take a).drop (i+1)) 0=Nek 10 ((text.take a).drop (i+1)) (if text.getD i 0=10 then 0+1 else 0):=by rw[Nek]
 rw[e2];split
 ·have:=Nh7 10 ((text.take a).drop (i+1)) 0 1;rw[this];omega
 ·omega
theorem No5{cfg:Cfg}(hf:cfg.fn 52=some m52)(hx1:cfg.ext 68=some Nkc)(hx2:cfg.ext 69=some Nka)(hx3:cfg.ext 70=some Nkb){fuel:Nat}{text:List UInt8}{at0:Nat}(hlen:text.length≤16384)(hat:at0≤text.length)(hfu:text.length+5<fuel) :
 ∃ r st',NaC cfg (fuel+1) 52 [.s text,.i .i64 at0] { sto:=.leaf,cnt:=1 }=some (r,st')∧Na5 st' r=some (No3 text at0):=by
 refine NaA hf ?_;delta m52 Qa Qr Qg Ql Qt Qn Qs Qk Qm Qh Qi Qo Qw;have h1:¬ (((text.length:Nat):Int) > Int.ofNat 16384):=by show ¬ (((text.length:Nat):Int) > 16384);omega
 have h2:¬ (((at0:Nat):Int)<Int.ofNat 0):=by show ¬ (((at0:Nat):Int)<0);omega
 have h3:¬ (((at0:Nat):Int) > ((text.length:Nat):Int)):=by omega
 have hpl:=NcM false (text.drop at0);simp only[List.length_drop]at hpl;have call1:∀ (t:List UInt8) (s:St) (key:Nat),t.length≤16384→Nam (Naj cfg (NaC cfg fuel) 68) false s key [.s t]=some (.b (Ncy false t),s):=by
  intro t s key ht;refine Nal rfl ?_ rfl;rw[NaM hx1];unfold Nkc;simp only[];rw[if_pos ht]
 have call2:∀ (t:List UInt8) (s:St) (key:Nat),t.length≤16384→Nam (Naj cfg (NaC cfg fuel) 69) false s key [.s t]=some (.i .u8 (kindL t),s):=by
  intro t s key ht;refine Nal rfl ?_ rfl;rw[NaM hx2];unfold Nka;simp only[];rw[if_pos ht]
 rw[Z0];simp only[Nai,↓Xp,↓Xt,Xq,Xc,Nae,Naa,rB,rC,rD,rE,reduceIte,Xm,rF]
 -- the ways out at the beginning
 refine Za (fun x=>x.env.get 0=.s text∧x.env.get 1=.i .i64 at0∧x.env.get 4=.ptr 1 0∧x.env.get 5=.ptr 9 0∧x.st.get 1=some (.cells zW false)∧x.st.get 9=some (.cells zF false)∧17≤x.st.cnt) ?_ ?_
 ·simp only[↓Z0,↓Xp,↓Xt,Xq,Xc,Nae,Naa,rB,rC,rD,rE,reduceIte,Xm,rF,h1];(repeat' (first|exact True.intro|rfl|assumption|omega|apply And.intro))
 rintro⟨env,st1⟩ ⟨g0,g1,g4,g5,k1,k9,kc⟩;simp only at g0 g1 g4 g5 k1 k9 kc;refine Za (fun x=>x.env.get 0=.s text∧x.env.get 1=.i .i64 at0∧x.env.get 4=.ptr 1 0∧x.env.get 5=.ptr 9 0∧x.st.get 1=some (.cells zW false)∧x.st.get 9=some (.cells zF false)∧17≤x.st.cnt) ?_ ?_
 ·simp only[↓Z0,↓Xp,↓Xt,Xq,Xc,Nae,Naa,rB,rC,rD,rE,reduceIte,Xm,rF,h2,h3,g0,g1,g4,g5];(repeat' (first|exact True.intro|rfl|assumption|omega|apply And.intro))
 clear g0 g1 g4 g5 k1 k9 kc;rintro⟨env,st1⟩ ⟨g0,g1,g4,g5,k1,k9,kc⟩;simp only at g0 g1 g4 g5 k1 k9 kc;refine Za (fun x=>x.env.get 0=.s text∧x.env.get 1=.i .i64 at0∧x.env.get 4=.ptr 1 0∧x.env.get 5=.ptr 9 0∧x.env.get 6=.i .i64 at0∧x.st.get 1=some (.cells zW false)∧x.st.get 9=some (.cells zF false)∧17≤x.st.cnt) ?_ ?_
 ·simp only[↓Z0,↓Xp,↓Xt,Xq,Xc,Nae,Naa,rB,rC,rD,rE,reduceIte,Xm,rF,g0,g1,g4,g5];(repeat' (first|exact True.intro|rfl|assumption|omega|apply And.intro))
 clear g0 g1 g4 g5 k1 k9 kc;rintro⟨env,st1⟩ ⟨g0,g1,g4,g5,g6,k1,k9,kc⟩;simp only at g0 g1 g4 g5 g6 k1 k9 kc
 -- what is passed over
 obtain⟨a,ha⟩:∃ a,at0+NbV false (text.drop at0)=a:=⟨_,rfl⟩;have hal:at0≤a∧a≤text.length:=by omega
 refine Za (fun x=>x.env.get 0=.s text∧x.env.get 4=.ptr 1 0∧x.env.get 5=.ptr 9 0∧x.env.get 6=.i .i64 a∧x.st.get 1=some (.cells zW false)∧x.st.get 9=some (.cells zF false)∧17≤x.st.cnt) ?_ ?_
 ·simp only[↓Z0,↓Xp,↓Xt,Xq,Xc,Nae,Naa,rB,rC,rD,rE,reduceIte,Xm,rF];refine Z9 (k:=a - at0) (fun d x=>∃ i:Nat,at0≤i∧i≤a∧d=a - i∧x.env.get 0=.s text∧x.env.get 1=.i .i64 at0∧x.env.get 4=.ptr 1 0∧x.env.get 5=.ptr 9 0∧x.env.get 6=.i .i64 i∧x.st.get 1=some (.cells zW false)∧x.st.get 9=some (.cells zF false)∧17≤x.st.cnt) ?_ ⟨at0,Nat.le_refl _,hal.1,rfl,g0,g1,g4,g5,g6,k1,k9,kc⟩ Zaa;rintro d ⟨env,st1⟩ ⟨i,hi1,hi,rfl,g0,g1,g4,g5,g6,k1,k9,kc⟩;simp only at g0 g1 g4 g5 g6 k1 k9 kc;have hwi:IntKind.i64.wrap ((i:Int)+Int.ofNat 1)=((i+1:Nat):Int):=by
   rw[NaG _ ⟨by show _≤(i:Int)+1;omega,by show(i:Int)+1<_;omega⟩];rfl
  by_cases hlt:i<text.length
  ·have hlti:((i:Nat):Int)<((text.length:Nat):Int):=(by omega);have b1:Nbf (some (.i .i64 ((i+1:Nat):Int))) text.length text.length=some (i+1):=NbA ⟨by omega,by omega⟩;have b2:Nbf (some (.i .i64 (at0:Int))) 0 (i+1)=some at0:=NbA ⟨by omega,by omega⟩;have ho:=Nc3 false (text.drop at0) (i+1 - at0) (by simp only[List.length_drop];omega);have hc:=fun s key=>call1 (List.take (i+1 - at0) (text.drop at0)) s key Zak;rw[ho]at hc;by_cases hin:i<a
   ·have e1:decide (i+1 - at0≤NbV false (text.drop at0))=true:=(by simp;omega);rw[e1]at hc;simp only[↓Z0,↓Xp,↓Xt,Xq,Xc,Nae,Naa,rB,rC,rD,rE,reduceIte,Xm,rF,g0,g1,g4,g5,g6,hlti,hwi,b1,b2,hc];refine⟨a - (i+1),by omega,i+1,?_⟩;(repeat' (first|exact True.intro|rfl|assumption|omega|apply And.intro))
   ·have e1:decide (i+1 - at0≤NbV false (text.drop at0))=false:=(by simp;omega);have hia:i=a:=(by omega);subst hia;rw[e1]at hc;simp only[↓Z0,↓Xp,↓Xt,Xq,Xc,Nae,Naa,rB,rC,rD,rE,reduceIte,Xm,rF,g0,g1,g4,g5,g6,hlti,hwi,b1,b2,hc];(repeat' (first|exact True.intro|rfl|assumption|omega|apply And.intro))
  ·have hia:i=a:=(by omega);have hlti:¬ ((i:Nat):Int)<((text.length:Nat):Int):=(by omega);subst hia;simp only[↓Z0,↓Xp,↓Xt,Xq,Xc,Nae,Naa,rB,rC,rD,rE,reduceIte,Xm,rF,g0,g1,g4,g5,g6,hlti];(repeat' (first|exact True.intro|rfl|assumption|omega|apply And.intro))
 clear g0 g1 g4 g5 g6 k1 k9 kc;rintro⟨env,st1⟩ ⟨g0,g4,g5,g6,k1,k9,kc⟩;simp only at g0 g4 g5 g6 k1 k9 kc;rw[Z0];simp only[↓Xp,↓Xt,Xq,Xc,Nae,Naa,rB,rC,rD,rE,reduceIte,Xm,rF]
 -- the line
 have hln:=Nkj text a;refine Za (fun x=>x.env.get 0=.s text∧x.env.get 4=.ptr 1 0∧x.env.get 5=.ptr 9 0∧x.env.get 6=.i .i64 a∧x.env.get 7=.i .i64 (Nca text a)∧x.st.get 1=some (.cells zW false)∧x.st.get 9=some (.cells zF false)∧17≤x.st.cnt) ?_ ?_
 ·simp only[↓Z0,↓Xp,↓Xt,Xq,Xc,Nae,Naa,rB,rC,rD,rE,reduceIte,Xm,rF];refine Z9 (k:=a - 0) (fun d x=>∃ (i n:Nat),i≤a∧d=a - i∧((n+Nek 10 ((text.take a).drop i) 0:Nat):Int)=Nca text a∧x.env.get 0=.s text∧x.env.get 4=.ptr 1 0∧x.env.get 5=.ptr 9 0∧x.env.get 6=.i .i64 a∧x.env.get 7=.i .i64 n∧x.env.get 8=.i .i64 i∧x.st.get 1=some (.cells zW false)∧x.st.get 9=some (.cells zF false)∧17≤x.st.cnt) ?_ ⟨0,1,Nat.zero_le _,rfl,?_,?_⟩ Zaa
  ·rintro d ⟨env,st1⟩ ⟨i,n,hi,rfl,hp,g0,g4,g5,g6,g7,g8,k1,k9,kc⟩;simp only at g0 g4 g5 g6 g7 g8 k1 k9 kc;have hwi:IntKind.i64.wrap ((i:Int)+Int.ofNat 1)=((i+1:Nat):Int):=by
    rw[NaG _ ⟨by show _≤(i:Int)+1;omega,by show(i:Int)+1<_;omega⟩];rfl
   have hwn:IntKind.i64.wrap ((n:Int)+Int.ofNat 1)=((n+1:Nat):Int):=by
    rw[NaG _ ⟨by show _≤(n:Int)+1;omega,by show(n:Int)+1<_;omega⟩];rfl
   by_cases hlt:i<a
   ·have hlti:((i:Nat):Int)<((a:Nat):Int):=(by omega);have hil:i<text.length:=(by omega);rw[NlH hlt hal.2]at hp;by_cases h10:text.getD i 0=10
    ·have e1:=Nm2 (n:=10) h10 Zaa;rw[if_pos h10]at hp;simp only[↓Z0,↓Xp,↓Xt,Xq,Xc,Nae,Naa,rB,rC,rD,rE,reduceIte,Xm,rF,g0,g4,g5,g6,g7,g8,hlti,hil,e1,hwi,hwn];refine⟨by omega,a - (i+1),by omega,i+1,n+1,?_⟩;(repeat' (first|exact True.intro|rfl|assumption|omega|apply And.intro))
    ·have e1:=Nm3 (n:=10) h10 Zaa;rw[if_neg h10]at hp;simp only[↓Z0,↓Xp,↓Xt,Xq,Xc,Nae,Naa,rB,rC,rD,rE,reduceIte,Xm,rF,g0,g4,g5,g6,g7,g8,hlti,hil,e1,hwi,hwn];refine⟨by omega,a - (i+1),by omega,i+1,n,?_⟩;(repeat' (first|exact True.intro|rfl|assumption|omega|apply And.intro))
   ·have hia:i=a:=(by omega);have hlti:¬ ((i:Nat):Int)<((a:Nat):Int):=(by omega);subst hia;simp only[↓Z0,↓Xp,↓Xt,Xq,Xc,Nae,Naa,rB,rC,rD,rE,reduceIte,Xm,rF,g0,g4,g5,g6,g7,g8,hlti];have e0:(text.take i).drop i=[]:=List.drop_of_length_le Zak;rw[e0]at hp;have hp':(n:Int)=Nca text i:=(by rw[←hp];simp[Nek]);rw[hp'];(repeat' (first|exact True.intro|rfl|assumption|omega|apply And.intro))
  ·unfold Nca;simp;omega
  ·simp only[Yad,rE,reduceIte,g0,g4,g5,g6];(repeat' (first|exact True.intro|rfl|assumption|omega|apply And.intro))
 clear g0 g4 g5 g6 k1 k9 kc;rintro⟨env,st1⟩ ⟨g0,g4,g5,g6,g7,k1,k9,kc⟩;simp only at g0 g4 g5 g6 g7 k1 k9 kc;generalize hL:Nca text a=line at *;have hn19:∀ j,(st1.cnt+j=1)=False:=fun j=>by simp;omega
 have hn99:∀ j,(st1.cnt+j=9)=False:=fun j=>by simp;omega
 by_cases hend:a=text.length
 ·have e1:(((a:Nat):Int)==((text.length:Nat):Int))=true:=by rw[hend];simp
  have eR:No3 text at0=NcE 5 [] 0 line a a:=by unfold No3;simp only[ha,hL];rw[if_pos hend]
  rw[eR];simp only[↓Z0,↓Xp,↓Xt,Xq,Xc,Nae,Naa,rB,rC,rD,rE,reduceIte,Xm,rF,g0,g4,g5,g6,g7,e1,k1,k9,zW,zF];refine⟨nofun,[.agg [.i .u8 5,.s [],.i .i64 0,.i .i64 line,.i .i64 a,.i .i64 a],.agg [.i .i64 0,.i .i64 0]],?_,rfl⟩;simp only[mapO,Neq,↓Z0,↓Xp,↓Xt,Xq,Xc,Nae,Naa,rB,rC,rD,rE,reduceIte,Xm,rF,g0,g4,g5];rfl
 have e1:(((a:Nat):Int)==((text.length:Nat):Int))=false:=by simp only[beq_eq_false_iff_ne,ne_eq];omega
 obtain⟨t,ht⟩:∃ t,text.drop a=t:=⟨_,rfl⟩;have htl:t.length=text.length - a:=by rw[←ht];simp
 have htn:t≠[]:=by intro q;rw[q]at htl;simp at htl;omega
 obtain⟨s,hs⟩:∃ s,t.take (NjB t)=s:=⟨_,rfl⟩;have hee:NjB t≤t.length:=by unfold NjB;split;exact Nf2 t;omega
 have eR:No3 text at0=(if kindL s=0 then NbD 100 line else if kindL s=1 then(match Nen 0 s with
  |some n=>NcE 1 [] n line a ((a+NjB t:Nat):Int)
  |none=>NbD 100 line)else NcE (kindL s) s 0 line a ((a+NjB t:Nat):Int)):=by
  unfold No3;simp only[ha,hL];rw[if_neg hend,ht,hs];cases Nen 0 s<;>rfl
 rw[eR];refine Za (fun x=>x.env.get 0=.s text∧x.env.get 4=.ptr 1 0∧x.env.get 5=.ptr 9 0∧x.env.get 6=.i .i64 a∧x.env.get 7=.i .i64 line∧x.st.get 1=some (.cells zW false)∧x.st.get 9=some (.cells zF false)∧17≤x.st.cnt) ?_ ?_
 ·simp only[↓Z0,↓Xp,↓Xt,Xq,Xc,Nae,Naa,rB,rC,rD,rE,reduceIte,Xm,rF,g0,g4,g5,g6,g7,e1];(repeat' (first|exact True.intro|rfl|assumption|omega|apply And.intro))
 clear g0 g4 g5 g6 g7 k1 k9 kc hn19 hn99;rintro⟨env,st1⟩ ⟨g0,g4,g5,g6,g7,k1,k9,kc⟩;simp only at g0 g4 g5 g6 g7 k1 k9 kc;rw[Z0];simp only[↓Xp,↓Xt,Xq,Xc,Nae,Naa,rB,rC,rD,rE,reduceIte,Xm,rF,g6]
 -- the longest piece
 refine Za (fun x=>x.env.get 0=.s text∧x.env.get 4=.ptr 1 0∧x.env.get 5=.ptr 9 0∧x.env.get 6=.i .i64 a∧x.env.get 7=.i .i64 line∧x.env.get 9=.i .i64 ((a+NjB t:Nat):Int)∧x.st.get 1=some (.cells zW false)∧x.st.get 9=some (.cells zF false)∧17≤x.st.cnt) ?_ ?_
 ·have hw1:IntKind.i64.wrap ((a:Int)+Int.ofNat 1)=((a+1:Nat):Int):=by
   rw[NaG _ ⟨by show _≤(a:Int)+1;omega,by show(a:Int)+1<_;omega⟩];rfl
  have hw2:IntKind.i64.wrap ((a:Int)+Int.ofNat 2)=((a+2:Nat):Int):=by
   rw[NaG _ ⟨by show _≤(a:Int)+2;omega,by show(a:Int)+2<_;omega⟩];rfl
  simp only[↓Z0,↓Xp,↓Xt,Xq,Xc,Nae,Naa,rB,rC,rD,rE,reduceIte,Xm,rF,Yad,g6,hw1];refine Z9 (k:=t.length+1 - 1) (fun d x=>∃ j:Nat,1≤j∧j≤t.length+1∧d=t.length+1 - j∧x.env.get 0=.s text∧x.env.get 4=.ptr 1 0∧x.env.get 5=.ptr 9 0∧x.env.get 6=.i .i64 a∧x.env.get 7=.i .i64 line∧x.env.get 9=.i .i64 ((a+eF t j:Nat):Int)∧x.env.get 10=.i .i64 ((a+j:Nat):Int)∧x.st.get 1=some (.cells zW false)∧x.st.get 9=some (.cells zF false)∧17≤x.st.cnt) ?_ ⟨1,Nat.le_refl _,by omega,rfl,?_⟩ Zaa
  ·rintro d ⟨env,st1⟩ ⟨j,hj1,hj,rfl,g0,g4,g5,g6,g7,g9,g10,k1,k9,kc⟩;simp only at g0 g4 g5 g6 g7 g9 g10 k1 k9 kc;have hwj:IntKind.i64.wrap (((a+j:Nat):Int)+Int.ofNat 1)=((a+(j+1):Nat):Int):=by
    rw[NaG _ ⟨by show _≤((a+j:Nat):Int)+1;omega,by show((a+j:Nat):Int)+1<_;omega⟩];rfl
   have hF:eF t (j+1)=if 0<j∧0<kindL (t.take j)then j else eF t j:=rfl;by_cases hin:j≤t.length
   ·have c1:((a+j:Nat):Int)≤((text.length:Nat):Int):=(by omega);have b3:Nbf (some (.i .i64 ((a+j:Nat):Int))) text.length text.length=some (a+j):=NbA ⟨by omega,by omega⟩;have b4:Nbf (some (.i .i64 (a:Int))) 0 (a+j)=some a:=NbA ⟨by omega,by omega⟩;have et:List.take (a+j - a) (List.drop a text)=t.take j:=(by rw[ht,Nat.add_sub_cancel_left]);have hk:=fun s key=>call2 (t.take j) s key Zak;by_cases hkj:0<kindL (t.take j)
    ·have c2:((kindL (t.take j):Nat):Int) > Int.ofNat 0:=(by show((kindL (t.take j):Nat):Int) > 0;omega);rw[if_pos ⟨by omega,hkj⟩]at hF;by_cases hj2:j≤2
     ·have c3:((a+j:Nat):Int)≤((a+2:Nat):Int):=(by omega);simp only[↓Z0,↓Xp,↓Xt,Xq,Xc,Nae,Naa,rB,rC,rD,rE,reduceIte,Xm,rF,g0,g4,g5,g6,g7,g9,g10,c1,hw2,c3,b3,b4,et,hk,c2,hwj];refine⟨t.length+1 - (j+1),by omega,j+1,?_⟩;rw[hF];(repeat' (first|exact True.intro|rfl|assumption|omega|apply And.intro))
     ·have c3:¬ ((a+j:Nat):Int)≤((a+2:Nat):Int):=(by omega);simp only[↓Z0,↓Xp,↓Xt,Xq,Xc,Nae,Naa,rB,rC,rD,rE,reduceIte,Xm,rF,g0,g4,g5,g6,g7,g9,g10,c1,hw2,c3,b3,b4,et,hk,c2,hwj];refine⟨t.length+1 - (j+1),by omega,j+1,?_⟩;rw[hF];(repeat' (first|exact True.intro|rfl|assumption|omega|apply And.intro))
    ·have c2:¬ ((kindL (t.take j):Nat):Int) > Int.ofNat 0:=(by show ¬ ((kindL (t.take j):Nat):Int) > 0;omega);rw[if_neg Zaa]at hF;by_cases hj2:j≤2
     ·have c3:((a+j:Nat):Int)≤((a+2:Nat):Int):=(by omega);simp only[↓Z0,↓Xp,↓Xt,Xq,Xc,Nae,Naa,rB,rC,rD,rE,reduceIte,Xm,rF,g0,g4,g5,g6,g7,g9,g10,c1,hw2,c3,b3,b4,et,hk,c2,hwj];refine⟨t.length+1 - (j+1),by omega,j+1,?_⟩;rw[hF];(repeat' (first|exact True.intro|rfl|assumption|omega|apply And.intro))
     ·have c3:¬ ((a+j:Nat):Int)≤((a+2:Nat):Int):=(by omega);have hfin:=Nnc htn hj1 hj (.inr ⟨by omega,hkj⟩);rw[hfin]at g9;simp only[↓Z0,↓Xp,↓Xt,Xq,Xc,Nae,Naa,rB,rC,rD,rE,reduceIte,Xm,rF,g0,g4,g5,g6,g7,g9,g10,c1,hw2,c3,b3,b4,et,hk,c2,hwj];(repeat' (first|exact True.intro|rfl|assumption|omega|apply And.intro))
   ·have c1:¬ ((a+j:Nat):Int)≤((text.length:Nat):Int):=(by omega);have hfin:=Nnc htn hj1 hj (.inl Zaa);rw[hfin]at g9;simp only[↓Z0,↓Xp,↓Xt,Xq,Xc,Nae,Naa,rB,rC,rD,rE,reduceIte,Xm,rF,g0,g4,g5,g6,g7,g9,g10,c1];(repeat' (first|exact True.intro|rfl|assumption|omega|apply And.intro))
  ·simp only[Yad,rE,reduceIte,g0,g4,g5,g6,g7];have:eF t 1=0:=(by simp[eF]);rw[this];(repeat' (first|exact True.intro|rfl|assumption|omega|apply And.intro))
 clear g0 g4 g5 g6 g7 k1 k9 kc;rintro⟨env,st1⟩ ⟨g0,g4,g5,g6,g7,g9,k1,k9,kc⟩;simp only at g0 g4 g5 g6 g7 g9 k1 k9 kc;have hn1:∀ j,(st1.cnt+j=1)=False:=fun j=>by simp;omega
 have hn9:∀ j,(st1.cnt+j=9)=False:=fun j=>by simp;omega
 have hn1':∀ j,(1=st1.cnt+j)=False:=fun j=>by simp;omega
 have hn9':∀ j,(9=st1.cnt+j)=False:=fun j=>by simp;omega
 generalize NjB t=e at *;have b3:Nbf (some (.i .i64 ((a+e:Nat):Int))) text.length text.length=some (a+e):=NbA ⟨by omega,by omega⟩;have b4:Nbf (some (.i .i64 (a:Int))) 0 (a+e)=some a:=NbA ⟨by omega,by omega⟩;have et:List.take (a+e - a) (List.drop a text)=s:=by rw[ht,Nat.add_sub_cancel_left,hs]
 have hsl:s.length≤16384:=by rw[←hs];simp;omega
 have hk:=fun st key=>call2 s st key hsl;by_cases hk0:kindL s=0
 ·rw[if_pos hk0];have e0:(((kindL s:Nat):Int)==Int.ofNat 0)=true:=by rw[hk0];rfl
  simp only[↓Z0,↓Xp,↓Xt,Xq,Xc,Nae,Naa,rB,rC,rD,rE,reduceIte,Xm,rF,g0,g4,g5,g6,g7,g9,b3,b4,et,hk,e0,k1,k9,zW,zF,hn1,hn9,hn1',hn9'];refine⟨nofun,[.agg [.i .u8 0,.s [],.i .i64 0,.i .i64 0,.i .i64 0,.i .i64 0],.agg [.i .i64 100,.i .i64 line]],?_,rfl⟩;simp only[mapO,Neq,↓Z0,↓Xp,↓Xt,Xq,Xc,Nae,Naa,rB,rC,rD,rE,reduceIte,Xm,rF,g0,g4,g5];rfl
 rw[if_neg hk0];have e0:(((kindL s:Nat):Int)==Int.ofNat 0)=false:=by
  simp only[beq_eq_false_iff_ne,ne_eq];intro q;have:((kindL s:Nat):Int)=0:=q;omega
 by_cases hk1:kindL s=1
 ·rw[if_pos hk1];have e2:(((kindL s:Nat):Int)==Int.ofNat 1)=true:=by rw[hk1];rfl
  have hnum:∀ (st:St) (key:Nat),Nam (Naj cfg (NaC cfg fuel) 70) false st key [.s s]=some (numR s,st):=by
   intro st key;refine Nal rfl ?_ ?_
   ·rw[NaM hx3];unfold Nkb;simp only[];rw[if_pos ⟨hsl,Nmh hk1⟩]
   ·unfold numR;cases Nen 0 s<;>rfl
  cases hnl:Nen 0 s with
  |none =>
    have hnr:numR s=.tup [.i .i64 0,.b false]:=(by unfold numR;rw[hnl]);rw[hnr]at hnum;simp only[↓Z0,↓Xp,↓Xt,Xq,Xc,Nae,Naa,rB,rC,rD,rE,reduceIte,Xm,rF,g0,g4,g5,g6,g7,g9,b3,b4,et,hk,e0,e2,hnum,unP,k1,k9,zW,zF,hn1,hn9,hn1',hn9'];refine⟨nofun,[.agg [.i .u8 0,.s [],.i .i64 0,.i .i64 0,.i .i64 0,.i .i64 0],.agg [.i .i64 100,.i .i64 line]],?_,rfl⟩;simp only[mapO,Neq,↓Z0,↓Xp,↓Xt,Xq,Xc,Nae,Naa,rB,rC,rD,rE,reduceIte,Xm,rF,g0,g4,g5];rfl
  |some n =>
    have hnr:numR s=.tup [.i .i64 n,.b true]:=(by unfold numR;rw[hnl]);rw[hnr]at hnum;simp only[↓Z0,↓Xp,↓Xt,Xq,Xc,Nae,Naa,rB,rC,rD,rE,reduceIte,Xm,rF,g0,g4,g5,g6,g7,g9,b3,b4,et,hk,e0,e2,hnum,unP,k1,k9,zW,zF,hn1,hn9,hn1',hn9'];refine⟨nofun,[.agg [.i .u8 1,.s [],.i .i64 n,.i .i64 line,.i .i64 a,.i .i64 ((a+e:Nat):Int)],.agg [.i .i64 0,.i .i64 0]],?_,rfl⟩;simp only[mapO,Neq,↓Z0,↓Xp,↓Xt,Xq,Xc,Nae,Naa,rB,rC,rD,rE,reduceIte,Xm,rF,g0,g4,g5,hk1];rfl
 ·rw[if_neg hk1];have e2:(((kindL s:Nat):Int)==Int.ofNat 1)=false:=by
   simp only[beq_eq_false_iff_ne,ne_eq];intro q;have:((kindL s:Nat):Int)=((1:Nat):Int):=q;omega
  simp only[↓Z0,↓Xp,↓Xt,Xq,Xc,Nae,Naa,rB,rC,rD,rE,reduceIte,Xm,rF,g0,g4,g5,g6,g7,g9,b3,b4,et,hk,e0,e2,unP,k1,k9,zW,zF,hn1,hn9,hn1',hn9'];refine⟨nofun,[.agg [.i .u8 (kindL s:Nat),.s s,.i .i64 0,.i .i64 line,.i .i64 a,.i .i64 ((a+e:Nat):Int)],.agg [.i .i64 0,.i .i64 0]],?_,rfl⟩;simp only[mapO,Neq,↓Z0,↓Xp,↓Xt,Xq,Xc,Nae,Naa,rB,rC,rD,rE,reduceIte,Xm,rF,g0,g4,g5];rfl
end Go.Pe
