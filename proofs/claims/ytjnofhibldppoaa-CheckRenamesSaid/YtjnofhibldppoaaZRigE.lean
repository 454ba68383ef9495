/-
 The document's tree: is an expression right: walked. No condition.
-/
import Derived.Test.YtjnofhibldppoaaZRigC
set_option linter.unusedVariables false
set_option linter.unusedSimpArgs false
set_option maxHeartbeats 8000000
open Nat renaming reduceAdd → rB,reduceMul → rC,reduceLT → rD,reduceEqDiff → rE,reduceLeDiff → rF
namespace Go.Pe
open Go Go.Am Go.RowKit
theorem Npt{cfg:Cfg}(hf:cfg.fn 62=some m62){fuel:Nat}{l:List (List UInt8)}{s:List UInt8}(hl:l.length≤1000)(hfu:l.length+2≤fuel){st:St} :
 ∃ r st',Nay cfg (fuel+1) 62 [.s s,.fsl l.length (txC l)] st=some (r,st')∧r=.i .i64 (Nf1 s l 0):=by
 refine Nax hf ?_;delta m62 Qa Qr Ql Qt Qk Qm Qi Qo;have hlen:(txC l).length=l.length:=List.length_map _;obtain⟨R,hR⟩:∃ R,Nf1 s l 0=R:=⟨_,rfl⟩;rw[hR];obtain⟨sto0,c0⟩:=st;simp only[Naj]
 iterate 3
  (try rw[Z0]);(try simp(maxSteps:=9^7)(disch:=first|omega|rfl|assumption)only[↓Yaa,Yab,Nae,Naa,rB,rC,rD,rE,reduceIte,unP,rF])
 refine Z9 (k:=l.length - 0) (fun m x=>∃ (i:Nat),m=l.length - i∧x.env.get 0=.s s∧x.env.get 1=.fsl l.length (txC l)∧x.env.get 5=.i .i64 (i:Int)∧(i≤l.length)∧(Nf1 s (l.drop i) i=R)) ?_ ?_ Zaa
 ·skip
  rintro m ⟨env,⟨sto,c⟩⟩ ⟨i,rfl,g0,g1,g5,hi,hob⟩;try simp only at g0 g1 g5
  by_cases hil:i<l.length
  ·have hld:=fun st=>Nka (st:=st) hil;rw[List.drop_eq_getElem_cons hil,Nf1]at hob;by_cases he:s=l[i]
   ·rw[if_pos he]at hob;have hb:(l[i]==s)=true:=by simpa using he.symm
    iterate 6
     (try rw[Z0]);(try simp(maxSteps:=9^7)(disch:=first|omega|rfl|assumption)only[↓Yaa,Yab,Nae,Naa,rB,rC,rD,rE,reduceIte,unP,rF,g0,g1,g5,hld,hlen,hb])
    exact⟨nofun,_,rfl,by simp only[Nau,Yad,if_true];rw[←hob]⟩
   ·rw[if_neg he]at hob;have hb:(l[i]==s)=false:=by simpa using fun e=>he (e:l[i]=s).symm
    iterate 6
     (try rw[Z0]);(try simp(maxSteps:=9^7)(disch:=first|omega|rfl|assumption)only[↓Yaa,Yab,Nae,Naa,rB,rC,rD,rE,reduceIte,unP,rF,g0,g1,g5,hld,hlen,hb])
    exact⟨l.length - (i+1),by omega,i+1,rfl,rfl,by omega,hob⟩
  ·have h0:l.drop i=[]:=List.drop_of_length_le Zaa;rw[h0,Nf1]at hob
   iterate 6
    (try rw[Z0]);(try simp(maxSteps:=9^7)(disch:=first|omega|rfl|assumption)only[↓Yaa,Yab,Nae,Naa,rB,rC,rD,rE,reduceIte,unP,rF,g0,g1,g5])
   exact⟨nofun,_,rfl,by simp only[Nau,Yad,if_true];rw[←hob];rfl⟩
 ·skip
  exact⟨0,rfl,Zad,Zad,Zad,Zac,(by rw[List.drop_zero];exact hR)⟩
theorem Nrf(s:List UInt8):NnQ s Ng7=(s==[45]):=by
 unfold NnQ Ng7;rw[Nf1];by_cases h:s=[45]
 ·rw[if_pos h,h];rfl
 ·rw[if_neg h,Nf1];have:(s==[45])=false:=by simpa using h
  rw[this];decide
mutual
def Ex.rt:Ex→Bool
 |.mk k s n z l=>Exs.rt l&&Nbd k.toNat s n l.length
def Exs.rt:List Ex→Bool
 |[]=>true
 |e::r=>e.rt&&Exs.rt r
end
theorem Ex.rt_eq(e:Ex):e.rt=(Exs.rt e.L&&Nbd e.K.toNat e.S e.N e.L.length):=by
 cases e;rw[Ex.rt];rfl
theorem NgC{st:St}{a b c:PV}{z:Bool}{n:Nat}{cs:List PV}(ha:Go.Pe.deep st 11 a=some a)(hb:Go.Pe.deep st 11 b=some b)(hc:Go.Pe.deep st 11 c=some c):Go.Pe.deep st 12 (.agg [a,b,c,slV z n cs])=some (.agg [a,b,c,slV z n cs]):=by
 show(mapO (Go.Pe.deep st 11) [a,b,c,slV z n cs]).map PV.agg=_;simp only[mapO,ha,hb,hc,NiB st 10 z n cs,Option.map_some]
theorem NgZ{k:IntKind}{x y:Int}{s:List UInt8}{l:IntKind}{z:Bool}{n:Nat}{cs:List PV}:NaC [.agg [.i k x,.s s,.i l y,slV z n cs]]=([.agg [.i k x,.s s,.i l y,slV z n cs]],{ sto:=.leaf,cnt:=1 }):=by
 unfold slV;split<;>rfl
theorem Nlu{cfg:Cfg}(hc:CfgR cfg):∀ (fuel:Nat) (e:Ex) (st:St),e.size+20≤fuel→e.size<1000000000000000 →
 ∃ r st',Nay cfg (fuel+1) 43 [.agg [.i .u8 (e.K.toNat:Int),.s e.S,.i .i64 e.N,slV e.z e.L.length (Exs.cs e.L)]] st=some (r,st')∧r=.b e.rt:=by
 intro fuel
 induction fuel with
 |zero=>intro e st h;omega
 |succ q ih =>
   intro e st hfu hn;refine Nax (hc.fn _ _ (by kernel_rfl):cfg.fn 43=some m43) ?_;delta m43 Qa Qr Qg Ql Qt Qs Qk Qm Qh Qi Qu Qv Qo;have hlv:=NaF e.z e.L.length (Exs.cs e.L);have hsz:=Exs.len e.L;have hlle:=Exs.len_le e.L;have hes:=Ex.size_eq e;obtain⟨k,hkk⟩:∃ k,e.K.toNat=k:=⟨_,rfl⟩;have hrt:=Ex.rt_eq e;rw[hkk]at hrt ⊢;obtain⟨R,hR⟩:∃ R,e.rt=R:=⟨_,rfl⟩;rw[hR]at hrt ⊢;have gN:∀ x,Nak cfg (Nay cfg (q+1)) 31 [.s x]=some (.b (NaJ x)):=fun x=>Nar hc.r1 rfl (fun _=>rfl) (Nf6 (hc.fn _ _ (by kernel_rfl)) hc.rn);have kN:∀ x (st:St) (key:Nat),Nam (Nak cfg (Nay cfg (q+1)) 31) false st key [.s x]=some (.b (NaJ x),st):=fun x st key=>Nal rfl (gN x) rfl;have gI:∀ (s:List UInt8),Nak cfg (Nay cfg (q+1)) 62 [.s s,.fsl signs2.length (txC signs2)]=some (.i .i64 (Nf1 s signs2 0)):=fun s=>Nar hc.r5 rfl (fun _=>rfl) (Npt (hc.fn _ _ (by kernel_rfl)) Zaj (by have:signs2.length=5:=rfl;omega));obtain⟨sto0,c0⟩:=st;simp only[Naj];(try rw[Z0]);(try simp(maxSteps:=9^7)(disch:=first|omega|rfl|assumption)only[↓Yaa,Yab,Nae,Naa,rB,rC,rD,rE,reduceIte,unP,rF,Nag,Naf]);refine NaL (fun x=>∃ (P:Nat),P<x.st.cnt∧x.env.get 1=.ptr P 0∧x.st.get P=some (.cells [.i .u8 (k:Int),.s e.S,.i .i64 e.N,slV e.z e.L.length (Exs.cs e.L)] false)) ?_ ?_
   ·exact⟨c0,Zab,Zad,(by first|exact kP _|with_reducible rfl|with_reducible assumption|(simp(disch:=omega)only[NaG,NaN,Yaf];first|done|with_reducible rfl|with_reducible assumption))⟩
   rintro⟨env,⟨sto,c⟩⟩ ⟨P,bP,g1,kP⟩;try simp only at bP g1
   replace kP:∀ n',St.get ⟨sto,n'⟩ P=some (.cells [.i .u8 (k:Int),.s e.S,.i .i64 e.N,slV e.z e.L.length (Exs.cs e.L)] false):=fun _=>kP;refine NaT (fun x=>P<x.st.cnt∧x.env.get 1=.ptr P 0∧x.st.get P=some (.cells [.i .u8 (k:Int),.s e.S,.i .i64 e.N,slV e.z e.L.length (Exs.cs e.L)] false)∧(Exs.rt e.L=true)) ?_ ?_
   ·intro K1 hK1
    iterate 2
     (try rw[Z0]);(try simp(maxSteps:=9^7)(disch:=first|omega|rfl|assumption)only[↓Yaa,Yab,Nae,Naa,rB,rC,rD,rE,reduceIte,unP,rF,g1,kP])
    refine Z9 (k:=e.L.length - 0) (fun m x=>∃ (i:Nat),m=e.L.length - i∧P<x.st.cnt∧x.env.get 1=.ptr P 0∧x.st.get P=some (.cells [.i .u8 (k:Int),.s e.S,.i .i64 e.N,slV e.z e.L.length (Exs.cs e.L)] false)∧x.env.get 3=.i .i64 (i:Int)∧(i≤e.L.length)∧(Exs.rt (e.L.drop i)=Exs.rt e.L)) ?_ ?_ Zaa
    ·clear bP g1 kP;rintro m ⟨env,⟨sto,c⟩⟩ ⟨i,rfl,bP,g1,kP,g3,hi,hob⟩;try simp only at bP g1 g3
     replace kP:∀ n',St.get ⟨sto,n'⟩ P=some (.cells [.i .u8 (k:Int),.s e.S,.i .i64 e.N,slV e.z e.L.length (Exs.cs e.L)] false):=fun _=>kP;by_cases hil:i<e.L.length
     ·obtain⟨a,he⟩:∃ a,e.L[i]=a:=⟨_,rfl⟩;have hld:=fun st=>NeY (st:=st) hil;simp only[he]at hld;rw[List.drop_eq_getElem_cons hil,he,Exs.rt]at hob;have hsp:=fun z cs=>Nas (z:=z) (cs:=cs) hil;have hel:a.size≤Exs.size e.L:=Exs.size_mem (he▸List.getElem_mem hil);have lv2:Nd7 (.fsl e.L.length (Exs.cs e.L))=some (.i .i64 (e.L.length:Int)):=rfl;obtain⟨ra,hra⟩:∃ ra,a.rt=ra:=⟨_,rfl⟩;rw[hra]at hob;have gX:∀ (st:St) (key:Nat),Nam (Nak cfg (Nay cfg (q+1)) 43) false st key [.agg [.i .u8 (a.K.toNat:Int),.s a.S,.i .i64 a.N,slV a.z a.L.length (Exs.cs a.L)]]=some (.b ra,st):=fun st key =>
       NaH (NaR (NgC rfl rfl rfl)) (Nar hc.r7 NgZ (fun _=>rfl) (by
        have:=ih a { sto:=.leaf,cnt:=1 } Zaa Zaa;rw[hra]at this;exact this)) rfl rfl
      cases ra with
      |false =>
        rw[Bool.false_and]at hob;rw[←hob,Bool.false_and]at hrt
        iterate 6
         (try rw[Z0]);(try simp(maxSteps:=9^7)(disch:=first|omega|rfl|assumption)only[↓Yaa,Yab,Nae,Naa,rB,rC,rD,rE,reduceIte,unP,rF,g1,kP,g3,hsp,lv2,hlv,hsz,hld,gX,Bool.not_false])
        exact⟨nofun,_,rfl,by simp only[Nau,Yad,if_true];rw[hrt]⟩
      |true =>
        rw[Bool.true_and]at hob
        iterate 6
         (try rw[Z0]);(try simp(maxSteps:=9^7)(disch:=first|omega|rfl|assumption)only[↓Yaa,Yab,Nae,Naa,rB,rC,rD,rE,reduceIte,unP,rF,g1,kP,g3,hsp,lv2,hlv,hsz,hld,gX,Bool.not_true])
        exact⟨e.L.length - (i+1),by omega,i+1,rfl,rfl,by omega,hob⟩
     ·have h0:e.L.drop i=[]:=List.drop_of_length_le Zaa;rw[h0,Exs.rt]at hob
      iterate 6
       (try rw[Z0]);(try simp(maxSteps:=9^7)(disch:=first|omega|rfl|assumption)only[↓Yaa,Yab,Nae,Naa,rB,rC,rD,rE,reduceIte,unP,rF,g1,kP,g3,hlv])
      refine hK1 _ ⟨Zab,?_,?_,hob.symm⟩<;>first|with_reducible rfl|with_reducible assumption|exact kP _|(simp[Yad,g1,g3]<;>omega)|(simp(disch:=omega)only[NaG,NaN,Yaf,kP];first|done|with_reducible rfl|with_reducible assumption)
    ·skip
     refine⟨0,rfl,Zab,?_,?_,?_,Zac,Zac⟩<;>first|with_reducible rfl|with_reducible assumption|exact kP _|(simp[Yad,g1]<;>omega)|(simp(disch:=omega)only[NaG,NaN,Yaf,kP];first|done|with_reducible rfl|with_reducible assumption)
   clear bP g1 kP;rintro⟨env,⟨sto,c⟩⟩ ⟨bP,g1,kP,hK⟩;try simp only at bP g1
   replace kP:∀ n',St.get ⟨sto,n'⟩ P=some (.cells [.i .u8 (k:Int),.s e.S,.i .i64 e.N,slV e.z e.L.length (Exs.cs e.L)] false):=fun _=>kP;rw[hK,Bool.true_and]at hrt;obtain⟨s,hs⟩:∃ s,e.S=s:=⟨_,rfl⟩;obtain⟨n,hnn⟩:∃ n,e.N=n:=⟨_,rfl⟩;obtain⟨l,hl⟩:∃ l,e.L=l:=⟨_,rfl⟩;rw[hs,hnn,hl]at hrt;simp only[hs,hnn,hl]at kP hlv;rw[hl]at hlle hes;unfold Nbd at hrt;by_cases k1:k=1
   ·subst k1;rw[if_pos rfl]at hrt;by_cases q1:0≤n
    ·by_cases q2:s=[]
     ·have b2:(s==[])=true:=(by rw[q2];rfl);by_cases q3:l.length=0
      ·have b3:((l.length:Int)==Int.ofNat 0)=true:=by rw[q3];rfl
       iterate 8
        (try rw[Z0]);(try simp(maxSteps:=9^7)(disch:=first|omega|rfl|assumption)only[↓Yaa,Yab,Nae,Naa,rB,rC,rD,rE,reduceIte,unP,rF,g1,kP,kN,hlv,kP,b2,b3])
       exact⟨nofun,_,rfl,by simp only[Nau,Yad,if_true];rw[hrt];simp[q1,q2,q3]⟩
      ·have b30:(l.length:Int)≠Int.ofNat 0:=(by show(l.length:Int)≠0;omega);have b3:((l.length:Int)==Int.ofNat 0)=false:=(by simpa using b30);have q3':(l.length==0)=false:=by simpa using q3
       iterate 8
        (try rw[Z0]);(try simp(maxSteps:=9^7)(disch:=first|omega|rfl|assumption)only[↓Yaa,Yab,Nae,Naa,rB,rC,rD,rE,reduceIte,unP,rF,g1,kP,kN,hlv,kP,b2,b3])
       exact⟨nofun,_,rfl,by simp only[Nau,Yad,if_true];rw[hrt];simp[q3']⟩
     ·have b2:(s==[])=false:=by simpa using q2
      iterate 8
       (try rw[Z0]);(try simp(maxSteps:=9^7)(disch:=first|omega|rfl|assumption)only[↓Yaa,Yab,Nae,Naa,rB,rC,rD,rE,reduceIte,unP,rF,g1,kP,kN,hlv,kP,b2])
      exact⟨nofun,_,rfl,by simp only[Nau,Yad,if_true];rw[hrt];simp[b2]⟩
    ·have b1:decide (0≤n)=false:=decide_eq_false q1
     iterate 8
      (try rw[Z0]);(try simp(maxSteps:=9^7)(disch:=first|omega|rfl|assumption)only[↓Yaa,Yab,Nae,Naa,rB,rC,rD,rE,reduceIte,unP,rF,g1,kP,kN,hlv,kP])
     exact⟨nofun,_,rfl,by simp only[Nau,Yad,if_true];rw[hrt];rw[b1];rfl⟩
   rw[if_neg k1]at hrt;have n1:((k:Int)==Int.ofNat 1)=false:=(by simp;omega);by_cases k2:k=2
   ·subst k2;rw[if_pos rfl]at hrt;by_cases q1:n=0
    ·subst q1;cases q2:NaJ s with
     |false =>
       iterate 8
        (try rw[Z0]);(try simp(maxSteps:=9^7)(disch:=first|omega|rfl|assumption)only[↓Yaa,Yab,Nae,Naa,rB,rC,rD,rE,reduceIte,unP,rF,g1,kP,kN,hlv,kP,q2])
       exact⟨nofun,_,rfl,by simp only[Nau,Yad,if_true];rw[hrt];rw[q2];simp⟩
     |true =>
       by_cases q3:l.length=0
       ·have b3:((l.length:Int)==Int.ofNat 0)=true:=by rw[q3];rfl
        iterate 8
         (try rw[Z0]);(try simp(maxSteps:=9^7)(disch:=first|omega|rfl|assumption)only[↓Yaa,Yab,Nae,Naa,rB,rC,rD,rE,reduceIte,unP,rF,g1,kP,kN,hlv,kP,q2,b3])
        exact⟨nofun,_,rfl,by simp only[Nau,Yad,if_true];rw[hrt];rw[q2];simp[q3]⟩
       ·have b30:(l.length:Int)≠Int.ofNat 0:=(by show(l.length:Int)≠0;omega);have b3:((l.length:Int)==Int.ofNat 0)=false:=(by simpa using b30);have q3':(l.length==0)=false:=by simpa using q3
        iterate 8
         (try rw[Z0]);(try simp(maxSteps:=9^7)(disch:=first|omega|rfl|assumption)only[↓Yaa,Yab,Nae,Naa,rB,rC,rD,rE,reduceIte,unP,rF,g1,kP,kN,hlv,kP,q2,b3])
        exact⟨nofun,_,rfl,by simp only[Nau,Yad,if_true];rw[hrt];simp[q3']⟩
    ·have b1:(n==Int.ofNat 0)=false:=(by simpa using q1);have b1':(n==0)=false:=by simpa using q1
     iterate 8
      (try rw[Z0]);(try simp(maxSteps:=9^7)(disch:=first|omega|rfl|assumption)only[↓Yaa,Yab,Nae,Naa,rB,rC,rD,rE,reduceIte,unP,rF,g1,kP,kN,hlv,kP,b1])
     exact⟨nofun,_,rfl,by simp only[Nau,Yad,if_true];rw[hrt];rw[b1'];rfl⟩
   rw[if_neg k2]at hrt;have n2:((k:Int)==Int.ofNat 2)=false:=(by simp;omega);by_cases k3:k=3
   ·subst k3;rw[if_pos rfl]at hrt;by_cases q1:n=0
    ·subst q1;by_cases q2:l.length=2
     ·have b2:((l.length:Int)==Int.ofNat 2)=true:=(by rw[q2];rfl);have hh:NnQ s signs2=decide (0≤Nf1 s signs2 0):=rfl;obtain⟨v,hv⟩:∃ v,Nf1 s signs2 0=v:=⟨_,rfl⟩;have gI':=gI s;rw[hv]at hh gI';rw[if_neg (show ¬ l.length=1 by omega),hh]at hrt;have b4:decide (1≤l.length∧l.length≤2)=true:=decide_eq_true Zaa;rw[b4,Bool.true_and]at hrt
      iterate 8
       (try rw[Z0]);(try simp(maxSteps:=9^7)(disch:=first|omega|rfl|assumption)only[↓Yaa,Yab,Nae,Naa,rB,rC,rD,rE,reduceIte,unP,rF,g1,kP,kN,hlv,kP,b2])
      refine Nk9 (NbY rfl (NfU (cs:=txC signs2) (Yaf _ _ _) rfl rfl Zai)) gI' rfl rfl ?_;by_cases h:0≤v
      ·have b5:decide (0≤v)=true:=decide_eq_true h
       iterate 8
        (try rw[Z0]);(try simp(maxSteps:=9^7)(disch:=first|omega|rfl|assumption)only[↓Yaa,Yab,Nae,Naa,rB,rC,rD,rE,reduceIte,unP,rF,g1,kP])
       exact⟨nofun,_,rfl,by simp only[Nau,Yad,if_true];rw[hrt,b5];rfl⟩
      ·have b5:decide (0≤v)=false:=decide_eq_false h;have b3:((l.length:Int)==Int.ofNat 1)=false:=(by rw[q2];rfl);have kP2:∀ x n',St.get ⟨(St.put ⟨sto,c+288⟩ (c+152) x).sto,n'⟩ P=some (.cells [.i .u8 ((3:Nat):Int),.s s,.i .i64 0,slV e.z l.length (Exs.cs l)] false):=fun x n'=>by
        show St.get (St.put ⟨sto,c+288⟩ (c+152) x) P=_;rw[Yae Zaa];exact kP _
       iterate 8
        (try rw[Z0]);(try simp(maxSteps:=9^7)(disch:=first|omega|rfl|assumption)only[↓Yaa,Yab,Nae,Naa,rB,rC,rD,rE,reduceIte,unP,rF,g1,kP,kP2,hlv,b3])
       exact⟨nofun,_,rfl,by simp only[Nau,Yad,if_true];rw[hrt,b5];rfl⟩
     ·have b20:(l.length:Int)≠Int.ofNat 2:=(by show(l.length:Int)≠2;omega);have b2:((l.length:Int)==Int.ofNat 2)=false:=(by simpa using b20);by_cases q3:l.length=1
      ·have b3:((l.length:Int)==Int.ofNat 1)=true:=(by rw[q3];rfl);rw[if_pos q3,Nrf]at hrt;obtain⟨bs,hbs⟩:∃ bs,(s==[45])=bs:=⟨_,rfl⟩;rw[hbs]at hrt
       iterate 8
        (try rw[Z0]);(try simp(maxSteps:=9^7)(disch:=first|omega|rfl|assumption)only[↓Yaa,Yab,Nae,Naa,rB,rC,rD,rE,reduceIte,unP,rF,g1,kP,kN,hlv,kP,b2,b3,hbs])
       exact⟨nofun,_,rfl,by simp only[Nau,Yad,if_true];rw[hrt];simp[q3]⟩
      ·have b30:(l.length:Int)≠Int.ofNat 1:=(by show(l.length:Int)≠1;omega);have b3:((l.length:Int)==Int.ofNat 1)=false:=(by simpa using b30);have b4:decide (1≤l.length∧l.length≤2)=false:=decide_eq_false Zaa
       iterate 8
        (try rw[Z0]);(try simp(maxSteps:=9^7)(disch:=first|omega|rfl|assumption)only[↓Yaa,Yab,Nae,Naa,rB,rC,rD,rE,reduceIte,unP,rF,g1,kP,kN,hlv,kP,b2,b3])
       exact⟨nofun,_,rfl,by simp only[Nau,Yad,if_true];rw[hrt];rw[b4];simp⟩
    ·have b1:(n==Int.ofNat 0)=false:=(by simpa using q1);have b1':(n==0)=false:=by simpa using q1
     iterate 8
      (try rw[Z0]);(try simp(maxSteps:=9^7)(disch:=first|omega|rfl|assumption)only[↓Yaa,Yab,Nae,Naa,rB,rC,rD,rE,reduceIte,unP,rF,g1,kP,kN,hlv,kP,b1])
     exact⟨nofun,_,rfl,by simp only[Nau,Yad,if_true];rw[hrt];rw[b1'];rfl⟩
   rw[if_neg k3]at hrt;have n3:((k:Int)==Int.ofNat 3)=false:=by simp;omega
   iterate 9
    (try rw[Z0]);(try simp(maxSteps:=9^7)(disch:=first|omega|rfl|assumption)only[↓Yaa,Yab,Nae,Naa,rB,rC,rD,rE,reduceIte,unP,rF,g1,kP,kN,hlv,kP])
   exact⟨nofun,_,rfl,by simp only[Nau,Yad,if_true];rw[hrt]⟩
end Go.Pe
