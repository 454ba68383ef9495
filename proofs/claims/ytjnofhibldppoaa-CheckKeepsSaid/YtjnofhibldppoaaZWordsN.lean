/-
 Words: numbers, by the interpreter of plain data. No condition.
-/
import Derived.Test.YtjnofhibldppoaaZWordsE
set_option linter.unusedVariables false
set_option linter.unusedSimpArgs false
set_option maxHeartbeats 2000000
open Nat renaming reduceAdd → rA,reduceMul → rB,reduceLT → rC,reduceEqDiff → rD,reduceLeDiff → rE
namespace Go.Pe
open Go
def numR(l:List UInt8):PV:=match NhZ 0 l with
 |some n=>.tup [.i .i64 n,.b true]
 |none=>.tup [.i .i64 0,.b false]
theorem Nh0{cfg:Cfg}(hf:cfg.fn 82=some m82){fuel:Nat}{l:List UInt8}(hlen:l.length≤16384)(hfu:l.length<fuel){st:St} :
 ∃ r st',NaI cfg (fuel+1) 82 [.s l] st=some (r,st')∧r=numR l:=by
 refine Naz hf ?_;delta m82 Qa Qr Ql Qt Qk Qm Qi Qo;simp only[Naj,↓Z0,↓Xp,↓Xt,Xq,Xc,Nae,Naa,rA,rB,rC,rD,reduceIte];refine⟨by show l.length≤140737488355328;omega,?_⟩;simp only[↓Z0,↓Xp,↓Xt,Xq,Xc,Nae,Naa,rA,rB,rC,rD,reduceIte,Ne9];refine Z9 (k:=l.length - 0) (fun d x=>∃ i n:Nat,i≤l.length∧d=l.length - i∧n≤9223372036854775807∧NhZ n (l.drop i)=NhZ 0 l∧(∃ kk,x.env.get 9=.rsl kk 1 0 l.length∧x.st.get kk=some (.cells (Nbd l) false))∧x.env.get 10=.i .i64 l.length∧x.env.get 11=.i .i64 i∧x.env.get 4=.i .i64 n) ?_ ⟨0,0,Nat.zero_le _,rfl,by omega,rfl,⟨st.cnt+32,?_,?_⟩,?_⟩ Zaa
 ·rintro d ⟨env,st1⟩ ⟨i,n,hi,rfl,hn,hp,⟨kk,g9,hk⟩,g10,g11,g4⟩;simp only at g9 hk g10 g11 g4;by_cases hlt:i<l.length
  ·have hd:=NbT hlt;rw[hd]at hp;have hlti:((i:Nat):Int)<((l.length:Nat):Int):=(by omega);have hld:=fun c=>NhQ (st:=⟨st1.sto,c⟩) (k:=kk) (fz:=false) (l:=l) hk hlt;have hb:=(l.getD i 0).toNat_lt;have hw8:∀ c:UInt8,IntKind.u8.wrap ((c.toNat:Int) - Int.ofNat 48)=(((c.toNat+208) % 256:Nat):Int):=by
    intro c;rw[IntKind.wrap_u8];show((c.toNat:Int) - 48) % 256=_;omega
   have hwd:∀ m:Nat,m<256→IntKind.i64.wrap (m:Int)=(m:Int):=fun m hm=>NaZ _ ⟨by omega,by omega⟩;have hm:=Nat.mod_lt ((l.getD i 0).toNat+208) (show 256 > 0 by omega);generalize hdd:((l.getD i 0).toNat+208) % 256=dd at *;have hws:IntKind.i64.wrap (Int.ofNat 9223372036854775807 - (dd:Int))=((9223372036854775807 - dd:Nat):Int):=by
    rw[NaZ _ ⟨by show _≤(9223372036854775807:Int) - dd;omega,by show(9223372036854775807:Int) - dd<_;omega⟩];show(9223372036854775807:Int) - dd=_;omega
   have hq:(((9223372036854775807 - dd:Nat):Int)).tdiv (Int.ofNat 10)=(((9223372036854775807 - dd) / 10:Nat):Int):=rfl;have hwq:IntKind.i64.wrap ((((9223372036854775807 - dd) / 10:Nat):Int))=(((9223372036854775807 - dd) / 10:Nat):Int):=NaZ _ ⟨by omega,by omega⟩;have hz:¬ (Int.ofNat 10=0):=(by decide);have hwi:IntKind.i64.wrap ((i:Int)+Int.ofNat 1)=((i+1:Nat):Int):=by
    rw[NaZ _ ⟨by show _≤(i:Int)+1;omega,by show(i:Int)+1<_;omega⟩];rfl
   have hnl:NhZ n (l.getD i 0::l.drop (i+1))=if(9223372036854775807 - dd) / 10<n then none else NhZ (n * 10+dd) (l.drop (i+1)):=by
    rw[←hdd];rfl
   rw[hnl]at hp;by_cases hgt:(9223372036854775807 - dd) / 10<n
   ·have hgt':((n:Nat):Int) > (((9223372036854775807 - dd) / 10:Nat):Int):=(by omega);simp only[↓Z0,↓Xp,↓Xt,Xq,Xc,Nae,Naa,rA,rB,rC,rD,reduceIte,g9,g10,g11,g4,hlti,hld,hw8,hdd,hwd dd hm,hws,hz,hq,hwq,hgt'];rw[if_pos hgt]at hp;refine⟨by omega,nofun,_,rfl,?_⟩;simp only[numR,←hp,NaF,↓Z0,↓Xp,↓Xt,Xq,Xc,Nae,Naa,rA,rB,rC,rD,reduceIte];rfl
   ·have hgt':¬ (((n:Nat):Int) > (((9223372036854775807 - dd) / 10:Nat):Int)):=(by omega);have hwm:IntKind.i64.wrap ((n:Int) * Int.ofNat 10)=((n * 10:Nat):Int):=by
     rw[NaZ _ ⟨by show _≤(n:Int) * 10;omega,by show(n:Int) * 10<_;omega⟩];rfl
    have hwa:IntKind.i64.wrap (((n * 10:Nat):Int)+(dd:Int))=((n * 10+dd:Nat):Int):=by
     rw[NaZ _ ⟨by omega,by omega⟩];rfl
    simp only[↓Z0,↓Xp,↓Xt,Xq,Xc,Nae,Naa,rA,rB,rC,rD,reduceIte,g9,g10,g11,g4,hlti,hld,hw8,hdd,hwd dd hm,hws,hz,hq,hwq,hgt',hwi,hwm,hwa];rw[if_neg hgt]at hp;exact⟨by omega,l.length - (i+1),by omega,i+1,n * 10+dd,by omega,rfl,by omega,hp,⟨kk,rfl,hk⟩,rfl,rfl⟩
  ·have hie:i=l.length:=(by omega);subst hie;simp only[↓Z0,↓Xp,↓Xt,Xq,Xc,Nae,Naa,rA,rB,rC,rD,reduceIte,g9,g10,g11,g4,Int.lt_irrefl];refine⟨nofun,_,rfl,?_⟩;simp only[List.drop_length,NhZ]at hp;simp only[numR,←hp,NaF,↓Z0,↓Xp,↓Xt,Xq,Xc,Nae,Naa,rA,rB,rC,rD,reduceIte]
 ·simp[Yad]
 ·simp[St.get_cnt,Yaf]
 ·simp[Yad]
end Go.Pe
