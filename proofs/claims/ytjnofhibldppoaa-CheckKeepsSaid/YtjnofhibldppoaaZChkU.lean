/-
 Trees: the walk over expressions and statements. No condition.
-/
import Derived.Test.YtjnofhibldppoaaZChkT
set_option linter.unusedVariables false
set_option linter.unusedSimpArgs false
set_option maxHeartbeats 8000000
open Nat renaming reduceAdd → rA,reduceMul → rB,reduceLT → rC,reduceEqDiff → rD,reduceLeDiff → rE
namespace Go.Pe
open Go Go.Am Go.RowKit
structure CfgV(cfg:Cfg):Prop extends CfgT cfg where
 y1:cfg.ext 65=none
 y2:cfg.ext 68=none
 y3:cfg.ext 47=none
 y4:cfg.ext 36=none
 y5:cfg.ext 86=none
 y6:cfg.ext 66=none
theorem NbV(s:Trie PObj)(a b k:Nat):St.get ⟨s,a⟩ k=St.get ⟨s,b⟩ k:=rfl
theorem Ng1(ask:Bool)(d:Nat)(r:Bool)(w:Nat×Bool):(NcI ask d r w).1=w.1+1:=rfl
mutual
theorem Ex.walk_n(ask:Bool):∀ (e:Ex) (d:Nat) (w:Nat×Bool),(e.walk ask d w).1≤w.1+e.size
 |.mk k s n z l,d,w=>by
   rw[Ex.walk,Ex.size];split
   ·rw[Ng1];omega
   ·have:=Exs.walk_n ask l (d+1) (NcI ask d (Nbz k.toNat s n l.length) w);rw[Ng1]at this;omega
theorem Exs.walk_n(ask:Bool):∀ (l:List Ex) (d:Nat) (w:Nat×Bool),(Exs.walk ask l d w).1≤w.1+Exs.size l
 |[],d,w=>by rw[Exs.walk,Exs.size];omega
 |e::r,d,w=>by
   rw[Exs.walk,Exs.size];split
   ·rw[Ng1,Ex.size_eq];omega
   ·have h1:=Exs.walk_n ask r d (e.walk ask d w);have h2:=Ex.walk_n ask e d w;omega
end
theorem NiR{cfg:Cfg}(hc:CfgV cfg):∀ (fuel:Nat) (l:List Ex) (z:Bool) (d:Nat) (ask:Bool) (w:Nat×Bool) (st:St) (k:Nat),Exs.size l+20≤fuel→st.get k=some (.cells (wkC ask w) false)→k<st.cnt→w.1+Exs.size l<2305843009213693952→d+Exs.size l<2305843009213693952 →
 ∃ r st',NaI cfg (fuel+1) 68 [.ptr k 0,slV z l.length (Exs.cs l),.i .i64 (d:Int)] st=some (r,st')∧(st'.get k=some (.cells (wkC ask (Exs.walk ask l d w)) false)∧Keeps k st st'):=by
 intro fuel
 induction fuel with
 |zero=>intro l z d ask w st k h;omega
 |succ q ih =>
   intro l z d ask w st k hfu hk hlt hw hd;refine Naz (hc.fn _ _ (by kernel_rfl):cfg.fn 68=some m68) ?_;delta m68 Qa Qr Qg Ql Qt Qn Qk Qm Qi Qo;have hll:=Exs.len_le l;have hlv:=NaM z l.length (Exs.cs l);simp only[Naj];(try rw[Z0]);(try simp(disch:=first|omega|rfl|assumption)only[↓Yaa,Yab,Nae,Naa,rA,rB,rC,rD,reduceIte,unP,rE,hlv]);refine Z9 (k:=l.length - 0) (fun m x=>∃ (i:Nat) (w':Nat×Bool),m=l.length - i∧i≤l.length∧Exs.walk ask (l.drop i) d w'=Exs.walk ask l d w∧w'.1+Exs.size (l.drop i)≤w.1+Exs.size l∧x.env.get 0=.ptr k 0∧x.env.get 2=.i .i64 (d:Int)∧x.env.get 8=slV z l.length (Exs.cs l)∧x.env.get 9=.i .i64 (l.length:Int)∧x.env.get 10=.i .i64 (i:Int)∧x.st.get k=some (.cells (wkC ask w') false)∧Keeps k st x.st) ?_ ?_ Zaa
   ·rintro m ⟨env,⟨sto,c⟩⟩ ⟨i,w',rfl,hi,hwk,hwn,g0,g2,g8,g9,g10,kk,kp⟩;simp only at g0 g2 g8 g9 g10;have hkc:k<c:=(by have:=kp.c;simp only at this;omega);by_cases hil:i<l.length
    ·rw[Nan hil]at g8;have hdr:=List.drop_eq_getElem_cons hil;obtain⟨e,he⟩:∃ e,l[i]=e:=⟨_,rfl⟩;have hld:=fun st=>NfQ (st:=st) hil;simp only[he]at hld;rw[he]at hdr;rw[hdr,Exs.walk]at hwk;rw[hdr,Exs.size]at hwn;have hsz:=Exs.len l;have hel:e.size≤Exs.size l:=Exs.size_mem (he▸List.getElem_mem hil);have hes:=Ex.size_eq e
     iterate 5
      (try rw[Z0]);(try simp(disch:=first|omega|rfl|assumption)only[↓Yaa,Yab,Nae,Naa,rA,rB,rC,rD,reduceIte,unP,rE,g0,g2,g8,g9,g10,hld,hsz,Naf,Nai,hc.y1,hc.y5])
     refine NaK (fun x=>x.env.get 0=.ptr k 0∧x.env.get 2=.i .i64 (d:Int)∧x.env.get 7=.ptr (c+24) 0∧x.env.get 8=.fsl l.length (Exs.cs l)∧x.env.get 9=.i .i64 (l.length:Int)∧x.env.get 10=.i .i64 (i:Int)∧x.st.get k=some (.cells (wkC ask w') false)∧x.st.get (c+24)=some (.cells [.i .u8 (e.K.toNat:Int),.s e.S,.i .i64 e.N,slV e.z e.L.length (Exs.cs e.L)] false)∧Keeps k st x.st∧c+40≤x.st.cnt) ?_ ?_
     ·simp(disch:=first|omega|rfl|assumption)only[Yad,rD,reduceIte,g0,g2,g8,g9,g10,Nhl,true_and,Nau];refine⟨?_,⟨fun j hj hl=>?_,?_⟩,by omega⟩
      ·rw[Yae Zaa,Yae Zaa];exact kk
      ·have h1:=kp.c;simp only at h1;rw[Yae Zaa,Yae Zaa];exact kp.g j hj hl
      ·have h1:=kp.c;simp only at h1;simp only[Nau];omega
     clear g0 g2 g8 g9 g10 kk kp;rintro⟨env,⟨sto,c2⟩⟩ ⟨g0,g2,g7,g8,g9,g10,kk,ke,kp,hc2⟩;simp only at g0 g2 g7 g8 g9 g10 hc2;(try rw[Z0]);(try simp(disch:=first|omega|rfl|assumption)only[↓Yaa,Yab,Nae,Naa,rA,rB,rC,rD,reduceIte,unP,rE,g0,g2,g7,g8,g9,g10,hc.y1]);refine Ncc (NjY (r:=Nbz e.K.toNat e.S e.N e.L.length) (w:=w') (ask:=ask) hc.toCfgT (by rw[NbV];exact kk) Zad hc.y5 (fun S hS=>?_) Zaa Zaa Zaa) ?_
     ·obtain⟨p,rfl⟩:∃ p,q=p+1:=⟨q - 1,by omega⟩;exact NlE hc.toCfgT Zaa (hS.trans ke)
     rintro r1 ⟨sto3,c3⟩ ⟨rfl,kk3,kp3⟩;have hc3:=kp3.c;simp only at hc3;have ke3:∀ n',St.get ⟨sto3,n'⟩ (c+24)=some (.cells [.i .u8 (e.K.toNat:Int),.s e.S,.i .i64 e.N,slV e.z e.L.length (Exs.cs e.L)] false):=fun _=>(kp3.g (c+24) Zaa Zad).trans ke;have kpT:Keeps k st ⟨sto3,c3⟩:=⟨fun j hj hl=>(kp3.g j hj (by have:=kp.c;simp only at this ⊢;omega)).trans (kp.g j hj hl),by have:=kp.c;simp only at this ⊢;omega⟩;obtain⟨w2,hw2⟩:∃ w2,NcI ask d (Nbz e.K.toNat e.S e.N e.L.length) w'=w2:=⟨_,rfl⟩;have hw2n:w2.1=w'.1+1:=(by rw[←hw2];rfl);rw[hw2]at hwk kk3;rw[hw2];cases hb2:w2.2 with
     |true =>
       rw[if_pos hb2]at hwk
       iterate 3
        (try rw[Z0]);(try simp(disch:=first|omega|rfl|assumption)only[↓Yaa,Yab,Nae,Naa,rA,rB,rC,rD,reduceIte,unP,rE,Bool.not_true,Bool.not_false])
       refine⟨nofun,[],rfl,?_,kpT⟩;rw[←hwk];exact kk3
     |false =>
       rw[if_neg (by rw[hb2];simp)]at hwk
       iterate 3
        (try rw[Z0]);(try simp(disch:=first|omega|rfl|assumption)only[↓Yaa,Yab,Nae,Naa,rA,rB,rC,rD,reduceIte,unP,rE,Bool.not_true,Bool.not_false,g0,g2,g7,g8,g9,g10,ke3,hc.y2])
       have hwe:e.walk ask d w'=Exs.walk ask e.L (d+1) w2:=by
        rw[Ex.walk_eq,hw2,if_neg (by rw[hb2];simp)]
       have hwn2:=Exs.walk_n ask e.L (d+1) w2;rw[←hwe]at hwn2;refine Ncc (ih e.L e.z (d+1) ask w2 ⟨sto3,c3+48⟩ k Zaa ((NbV _ _ c3 _).trans kk3) Zad Zaa Zaa) ?_;rintro r2 ⟨sto4,c4⟩ ⟨kk4,kp4⟩;have hc4:=kp4.c;simp only at hc4;refine⟨l.length - (i+1),by omega,i+1,e.walk ask d w',rfl,by omega,hwk,by omega,(Nan hil).symm,rfl,?_,⟨fun j hj hl=>?_,?_⟩⟩
       ·rw[hwe];exact kk4
       ·exact(kp4.g j hj (by have:=kpT.c;simp only at this ⊢;omega)).trans (kpT.g j hj hl)
       ·have:=kpT.c;simp only at this ⊢;omega
    ·have h0:l.drop i=[]:=List.drop_of_length_le Zaa;rw[h0,Exs.walk]at hwk
     iterate 3
      (try rw[Z0]);(try simp(disch:=first|omega|rfl|assumption)only[↓Yaa,Yab,Nae,Naa,rA,rB,rC,rD,reduceIte,unP,rE,g0,g2,g9,g10])
     refine⟨nofun,[],rfl,?_,fun j hj hl=>kp.g j hj hl,?_⟩
     ·rw[←hwk];exact kk
     ·have:=kp.c;simp only at this ⊢;omega
   ·refine⟨0,w,rfl,by omega,by rw[List.drop_zero],by rw[List.drop_zero];omega,rfl,rfl,rfl,rfl,rfl,hk,fun j hj hl=>rfl,by simp only;omega⟩
end Go.Pe
