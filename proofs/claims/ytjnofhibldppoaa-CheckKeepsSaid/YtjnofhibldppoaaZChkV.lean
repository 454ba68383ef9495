/-
 Trees: the walk over statements. No condition.
-/
import Derived.Test.YtjnofhibldppoaaZChkU
set_option linter.unusedVariables false
set_option linter.unusedSimpArgs false
set_option maxHeartbeats 8000000
open Nat renaming reduceAdd → rA,reduceMul → rB,reduceLT → rC,reduceEqDiff → rD,reduceLeDiff → rE
namespace Go.Pe
open Go Go.Am Go.RowKit
def Sm.sh(e:Sm):Bool:=NbL e.K.toNat e.O.toNat e.J e.I e.N e.A.length e.B.length e.E.length
mutual
def Sm.walk(ask:Bool):Sm→Nat→Nat×Bool→Nat×Bool
 |.mk k o j i n za a zb b ze e r,d,w=>if(NcI ask d (NbL k.toNat o.toNat j i n a.length b.length e.length) w).2=true then NcI ask d (NbL k.toNat o.toNat j i n a.length b.length e.length) w
   else Sms.walk ask e (d+1) (Sms.walk ask b (d+1) (Exs.walk ask a (d+1) (NcI ask d (NbL k.toNat o.toNat j i n a.length b.length e.length) w)))
def Sms.walk(ask:Bool):List Sm→Nat→Nat×Bool→Nat×Bool
 |[],_,w=>w
 |e::r,d,w=>if(NcI ask d e.sh w).2=true then NcI ask d e.sh w else Sms.walk ask r d (e.walk ask d w)
end
theorem Sm.walk_eq(ask:Bool)(e:Sm)(d:Nat)(w:Nat×Bool):e.walk ask d w=if(NcI ask d e.sh w).2=true then NcI ask d e.sh w else Sms.walk ask e.E (d+1) (Sms.walk ask e.B (d+1) (Exs.walk ask e.A (d+1) (NcI ask d e.sh w))):=by
 cases e;rw[Sm.walk];rfl
mutual
theorem Sm.walk_n(ask:Bool):∀ (e:Sm) (d:Nat) (w:Nat×Bool),(e.walk ask d w).1≤w.1+e.size
 |.mk k o j i n za a zb b ze e r,d,w=>by
   rw[Sm.walk,Sm.size];split
   ·rw[Ng1];omega
   ·have h1:=Sms.walk_n ask e (d+1) (Sms.walk ask b (d+1) (Exs.walk ask a (d+1) (NcI ask d (NbL k.toNat o.toNat j i n a.length b.length e.length) w)));have h2:=Sms.walk_n ask b (d+1) (Exs.walk ask a (d+1) (NcI ask d (NbL k.toNat o.toNat j i n a.length b.length e.length) w));have h3:=Exs.walk_n ask a (d+1) (NcI ask d (NbL k.toNat o.toNat j i n a.length b.length e.length) w);rw[Ng1]at h3;omega
theorem Sms.walk_n(ask:Bool):∀ (l:List Sm) (d:Nat) (w:Nat×Bool),(Sms.walk ask l d w).1≤w.1+Sms.size l
 |[],d,w=>by rw[Sms.walk,Sms.size];omega
 |e::r,d,w=>by
   rw[Sms.walk,Sms.size];split
   ·rw[Ng1,Sm.size_eq];omega
   ·have h1:=Sms.walk_n ask r d (e.walk ask d w);have h2:=Sm.walk_n ask e d w;omega
end
theorem Keeps.cnt2{k:Nat}{st:St}{s:Trie PObj}{a b:Nat}(h:Keeps k st ⟨s,a⟩)(hab:a≤b):Keeps k st ⟨s,b⟩:=⟨fun j hj hl=>h.g j hj hl,by have:=h.c;simp only at this ⊢;omega⟩
theorem Keeps.then{k:Nat}{st:St}{s s':Trie PObj}{a b c:Nat}(h:Keeps k st ⟨s,a⟩)(h2:Keeps k ⟨s,b⟩ ⟨s',c⟩)(hab:a≤b):Keeps k st ⟨s',c⟩:=(h.cnt2 hab).trans h2
theorem NjF{cfg:Cfg}(hc:CfgV cfg):∀ (fuel:Nat) (l:List Sm) (z:Bool) (d:Nat) (ask:Bool) (w:Nat×Bool) (st:St) (k:Nat),Sms.size l+22≤fuel→st.get k=some (.cells (wkC ask w) false)→k<st.cnt→w.1+Sms.size l<2305843009213693952→d+Sms.size l<2305843009213693952 →
 ∃ r st',NaI cfg (fuel+1) 47 [.ptr k 0,slV z l.length (Sms.cs l),.i .i64 (d:Int)] st=some (r,st')∧(st'.get k=some (.cells (wkC ask (Sms.walk ask l d w)) false)∧Keeps k st st'):=by
 intro fuel
 induction fuel with
 |zero=>intro l z d ask w st k h;omega
 |succ q ih =>
   intro l z d ask w st k hfu hk hlt hw hd;refine Naz (hc.fn _ _ (by kernel_rfl):cfg.fn 47=some m47) ?_;delta m47 Qa Qr Qg Ql Qt Qn Qk Qm Qi Qo;have hll:=Sms.len_le l;have hlv:=NaM z l.length (Sms.cs l);simp only[Naj];(try rw[Z0]);(try simp(disch:=first|omega|rfl|assumption)only[↓Yaa,Yab,Nae,Naa,rA,rB,rC,rD,reduceIte,unP,rE,hlv]);refine Z9 (k:=l.length - 0) (fun m x=>∃ (i:Nat) (w':Nat×Bool),m=l.length - i∧i≤l.length∧Sms.walk ask (l.drop i) d w'=Sms.walk ask l d w∧w'.1+Sms.size (l.drop i)≤w.1+Sms.size l∧x.env.get 0=.ptr k 0∧x.env.get 2=.i .i64 (d:Int)∧x.env.get 8=slV z l.length (Sms.cs l)∧x.env.get 9=.i .i64 (l.length:Int)∧x.env.get 10=.i .i64 (i:Int)∧x.st.get k=some (.cells (wkC ask w') false)∧Keeps k st x.st) ?_ ?_ Zaa
   ·rintro m ⟨env,⟨sto,c⟩⟩ ⟨i,w',rfl,hi,hwk,hwn,g0,g2,g8,g9,g10,kk,kp⟩;simp only at g0 g2 g8 g9 g10;have hkc:k<c:=(by have:=kp.c;simp only at this;omega);by_cases hil:i<l.length
    ·rw[Nan hil]at g8;have hdr:=List.drop_eq_getElem_cons hil;obtain⟨e,he⟩:∃ e,l[i]=e:=⟨_,rfl⟩;have hld:=fun st=>NdL (st:=st) hil;simp only[he]at hld;rw[he]at hdr;rw[hdr,Sms.walk]at hwk;rw[hdr,Sms.size]at hwn;have hsz:=Sms.len l;have hel:e.size≤Sms.size l:=Sms.size_mem (he▸List.getElem_mem hil);have hes:=Sm.size_eq e;have hlB:=Sms.len_le e.B;have hlE:=Sms.len_le e.E
     iterate 5
      (try rw[Z0]);(try simp(disch:=first|omega|rfl|assumption)only[↓Yaa,Yab,Nae,Naa,rA,rB,rC,rD,reduceIte,unP,rE,g0,g2,g8,g9,g10,hld,hsz,Naf,Nai,hc.y1,hc.y6])
     refine NaK (fun x=>x.env.get 0=.ptr k 0∧x.env.get 2=.i .i64 (d:Int)∧x.env.get 7=.ptr (c+24) 0∧x.env.get 8=.fsl l.length (Sms.cs l)∧x.env.get 9=.i .i64 (l.length:Int)∧x.env.get 10=.i .i64 (i:Int)∧x.st.get k=some (.cells (wkC ask w') false)∧x.st.get (c+24)=some (.cells [.i .u8 (e.K.toNat:Int),.i .u8 (e.O.toNat:Int),.s e.J,.s e.I,.i .i64 e.N,slV e.za e.A.length (Exs.cs e.A),slV e.zb e.B.length (Sms.cs e.B),slV e.ze e.E.length (Sms.cs e.E),.i .i64 e.R] false)∧Keeps k st x.st∧c+40≤x.st.cnt) ?_ ?_
     ·simp(disch:=first|omega|rfl|assumption)only[Yad,rD,reduceIte,g0,g2,g8,g9,g10,Nhl,true_and,Nau];refine⟨?_,⟨fun j hj hl=>?_,?_⟩,by omega⟩
      ·rw[Yae Zaa,Yae Zaa];exact kk
      ·have h1:=kp.c;simp only at h1;rw[Yae Zaa,Yae Zaa];exact kp.g j hj hl
      ·have h1:=kp.c;simp only at h1;simp only[Nau];omega
     clear g0 g2 g8 g9 g10 kk kp;rintro⟨env,⟨sto,c2⟩⟩ ⟨g0,g2,g7,g8,g9,g10,kk,ke,kp,hc2⟩;simp only at g0 g2 g7 g8 g9 g10 hc2;(try rw[Z0]);(try simp(disch:=first|omega|rfl|assumption)only[↓Yaa,Yab,Nae,Naa,rA,rB,rC,rD,reduceIte,unP,rE,g0,g2,g7,g8,g9,g10,hc.y1]);refine Ncc (NjY (r:=e.sh) (w:=w') (ask:=ask) hc.toCfgT (by rw[NbV];exact kk) Zad hc.y6 (fun S hS=>?_) Zaa Zaa Zaa) ?_
     ·obtain⟨p,rfl⟩:∃ p,q=p+1:=⟨q - 1,by omega⟩;exact Nmn hc.toCfgT Zaa Zaa (hS.trans ke)
     rintro r1 ⟨sto3,c3⟩ ⟨rfl,kk3,kp3⟩;have hc3:=kp3.c;simp only at hc3;have ke3:∀ n',St.get ⟨sto3,n'⟩ (c+24)=some (.cells [.i .u8 (e.K.toNat:Int),.i .u8 (e.O.toNat:Int),.s e.J,.s e.I,.i .i64 e.N,slV e.za e.A.length (Exs.cs e.A),slV e.zb e.B.length (Sms.cs e.B),slV e.ze e.E.length (Sms.cs e.E),.i .i64 e.R] false):=fun _=>(kp3.g (c+24) Zaa Zad).trans ke;have kpT:Keeps k st ⟨sto3,c3⟩:=kp.then kp3 Zaa;obtain⟨w2,hw2⟩:∃ w2,NcI ask d e.sh w'=w2:=⟨_,rfl⟩;have hw2n:w2.1=w'.1+1:=(by rw[←hw2];rfl);rw[hw2]at hwk kk3;rw[hw2];cases hb2:w2.2 with
     |true =>
       rw[if_pos hb2]at hwk
       iterate 3
        (try rw[Z0]);(try simp(disch:=first|omega|rfl|assumption)only[↓Yaa,Yab,Nae,Naa,rA,rB,rC,rD,reduceIte,unP,rE,Bool.not_true,Bool.not_false])
       refine⟨nofun,[],rfl,?_,kpT⟩;rw[←hwk];exact kk3
     |false =>
       rw[if_neg (by rw[hb2];simp)]at hwk;have hwe:e.walk ask d w'=Sms.walk ask e.E (d+1) (Sms.walk ask e.B (d+1) (Exs.walk ask e.A (d+1) w2)):=by
        rw[Sm.walk_eq,hw2,if_neg (by rw[hb2];simp)]
       have hn1:=Exs.walk_n ask e.A (d+1) w2;have hn2:=Sms.walk_n ask e.B (d+1) (Exs.walk ask e.A (d+1) w2);have hn3:=Sms.walk_n ask e.E (d+1) (Sms.walk ask e.B (d+1) (Exs.walk ask e.A (d+1) w2));rw[←hwe]at hn3
       iterate 3
        (try rw[Z0]);(try simp(disch:=first|omega|rfl|assumption)only[↓Yaa,Yab,Nae,Naa,rA,rB,rC,rD,reduceIte,unP,rE,Bool.not_true,Bool.not_false,g0,g2,g7,g8,g9,g10,ke3,hc.y2])
       refine Ncc (NiR hc q e.A e.za (d+1) ask w2 _ k Zaa ((NbV _ _ c3 _).trans kk3) Zad Zaa Zaa) ?_;rintro r2 ⟨sto4,c4⟩ ⟨kk4,kp4⟩;have hc4:=kp4.c;simp only at hc4;have ke4:∀ n',St.get ⟨sto4,n'⟩ (c+24)=_:=fun n'=>(kp4.g (c+24) Zaa Zad).trans (ke3 0);have kpU:Keeps k st ⟨sto4,c4⟩:=kpT.then kp4 Zaa;(try rw[Z0]);(try simp(disch:=first|omega|rfl|assumption)only[↓Yaa,Yab,Nae,Naa,rA,rB,rC,rD,reduceIte,unP,rE,g0,g2,g7,g8,g9,g10,ke4,hc.y3]);refine Ncc (ih e.B e.zb (d+1) ask _ _ k Zaa ((NbV _ _ c4 _).trans kk4) Zad Zaa Zaa) ?_;rintro r3 ⟨sto5,c5⟩ ⟨kk5,kp5⟩;have hc5:=kp5.c;simp only at hc5;have ke5:∀ n',St.get ⟨sto5,n'⟩ (c+24)=_:=fun n'=>(kp5.g (c+24) Zaa Zad).trans (ke4 0);have kpV:Keeps k st ⟨sto5,c5⟩:=kpU.then kp5 Zaa;(try rw[Z0]);(try simp(disch:=first|omega|rfl|assumption)only[↓Yaa,Yab,Nae,Naa,rA,rB,rC,rD,reduceIte,unP,rE,ke5]);refine Ncc (ih e.E e.ze (d+1) ask _ _ k Zaa ((NbV _ _ c5 _).trans kk5) Zad Zaa Zaa) ?_;rintro r4 ⟨sto6,c6⟩ ⟨kk6,kp6⟩;have hc6:=kp6.c;simp only at hc6;have kpW:Keeps k st ⟨sto6,c6⟩:=kpV.then kp6 Zaa;have hn:=Sm.walk_n ask e d w';refine⟨l.length - (i+1),by omega,i+1,e.walk ask d w',rfl,by omega,hwk,by omega,(Nan hil).symm,rfl,?_,kpW.cnt2 (Nat.le_add_right _ _)⟩;rw[hwe];exact kk6
    ·have h0:l.drop i=[]:=List.drop_of_length_le Zaa;rw[h0,Sms.walk]at hwk
     iterate 3
      (try rw[Z0]);(try simp(disch:=first|omega|rfl|assumption)only[↓Yaa,Yab,Nae,Naa,rA,rB,rC,rD,reduceIte,unP,rE,g0,g2,g9,g10])
     refine⟨nofun,[],rfl,?_,fun j hj hl=>kp.g j hj hl,?_⟩
     ·rw[←hwk];exact kk
     ·have:=kp.c;simp only at this ⊢;omega
   ·refine⟨0,w,rfl,by omega,by rw[List.drop_zero],by rw[List.drop_zero];omega,rfl,rfl,rfl,rfl,rfl,hk,fun j hj hl=>rfl,by simp only;omega⟩
end Go.Pe
