/-
 The document's tree: how many parts, how deep: walked. No condition.
-/
import Derived.Test.YtjnofhibldppoaaZChkMf
import Derived.Test.YtjnofhibldppoaaZKitD
set_option linter.unusedVariables false
set_option linter.unusedSimpArgs false
set_option maxHeartbeats 8000000
open Nat renaming reduceAdd → rB,reduceMul → rC,reduceLT → rD,reduceEqDiff → rE,reduceLeDiff → rF
namespace Go.Pe
open Go Go.Am Go.RowKit
def Exs.szW(f:List Ex→Nat×Nat):List Ex→Nat×Nat→Nat×Nat
 |[],w=>w
 |e::r,w=>Exs.szW f r (w.1+(f e.L).1,Nat.max w.2 (f e.L).2)
def Exs.sz:Nat→List Ex→Nat×Nat
 |0,_=>(0,0)
 |v+1,l=>if l.length=0 then(0,0)else((Exs.szW (Exs.sz v) l (l.length,0)).1,(Exs.szW (Exs.sz v) l (l.length,0)).2+1)
def Sms.szW(v:Nat)(f:List Sm→Nat×Nat):List Sm→Nat×Nat→Nat×Nat
 |[],w=>w
 |s::r,w=>Sms.szW v f r (w.1+(Exs.sz v s.A).1+(f s.B).1+(f s.E).1,Nat.max (Nat.max (Nat.max w.2 (Exs.sz v s.A).2) (f s.B).2) (f s.E).2)
def Sms.sz:Nat→List Sm→Nat×Nat
 |0,_=>(0,0)
 |v+1,l=>if l.length=0 then(0,0)else((Sms.szW v (Sms.sz v) l (l.length,0)).1,(Sms.szW v (Sms.sz v) l (l.length,0)).2+1)
theorem NkV{f:List Ex→Nat×Nat}{v:Nat}(h1:∀ l,(f l).1≤Exs.size l)(h2:∀ l,(f l).2≤v):∀ (l:List Ex) (w:Nat×Nat),w.2≤v→(Exs.szW f l w).1+l.length≤w.1+Exs.size l∧(Exs.szW f l w).2≤v
 |[],w,h=>by rw[Exs.szW,Exs.size];exact⟨by simp,h⟩
 |e::r,w,h=>by
   rw[Exs.szW,Exs.size,List.length_cons,Ex.size_eq];have:=NkV h1 h2 r (w.1+(f e.L).1,Nat.max w.2 (f e.L).2) (Nat.max_le.2 ⟨h,h2 _⟩);have h3:=h1 e.L;simp only at this;omega
theorem Njk:∀ (v:Nat) (l:List Ex),(Exs.sz v l).1≤Exs.size l∧(Exs.sz v l).2≤v
 |0,l=>by rw[Exs.sz];exact⟨Nat.zero_le _,Nat.zero_le _⟩
 |v+1,l=>by
   rw[Exs.sz];split
   ·exact⟨Nat.zero_le _,Nat.zero_le _⟩
   ·have:=NkV (fun l=>(Njk v l).1) (fun l=>(Njk v l).2) l (l.length,0) (Nat.zero_le _);simp only at this ⊢;omega
theorem NkU{f:List Sm→Nat×Nat}{v:Nat}(h1:∀ l,(f l).1≤Sms.size l)(h2:∀ l,(f l).2≤v):∀ (l:List Sm) (w:Nat×Nat),w.2≤v→(Sms.szW v f l w).1+l.length≤w.1+Sms.size l∧(Sms.szW v f l w).2≤v
 |[],w,h=>by rw[Sms.szW,Sms.size];exact⟨by simp,h⟩
 |s::r,w,h=>by
   rw[Sms.szW,Sms.size,List.length_cons,Sm.size_eq];have:=NkU h1 h2 r (w.1+(Exs.sz v s.A).1+(f s.B).1+(f s.E).1,Nat.max (Nat.max (Nat.max w.2 (Exs.sz v s.A).2) (f s.B).2) (f s.E).2) (Nat.max_le.2 ⟨Nat.max_le.2 ⟨Nat.max_le.2 ⟨h,(Njk v s.A).2⟩,h2 _⟩,h2 _⟩);have h3:=(Njk v s.A).1;have h4:=h1 s.B;have h5:=h1 s.E;simp only at this;omega
theorem NfI:∀ (v:Nat) (l:List Sm),(Sms.sz v l).1≤Sms.size l∧(Sms.sz v l).2≤v
 |0,l=>by rw[Sms.sz];exact⟨Nat.zero_le _,Nat.zero_le _⟩
 |v+1,l=>by
   rw[Sms.sz];split
   ·exact⟨Nat.zero_le _,Nat.zero_le _⟩
   ·have:=NkU (fun l=>(NfI v l).1) (fun l=>(NfI v l).2) l (l.length,0) (Nat.zero_le _);simp only at this ⊢;omega
theorem Nev(a b:Nat):NlY (.i .i64 (a:Int)) [.i .i64 (b:Int)]=some (.i .i64 ((Nat.max a b:Nat):Int)):=by
 have h:(if(b:Int) > (a:Int)then(b:Int)else(a:Int))=((Nat.max a b:Nat):Int):=by
  show _=(((max a b:Nat)):Int);split<;>omega
 simp only[NlY,if_true,h]
theorem Nm2(f:List Ex→Nat×Nat):∀ (l:List Ex) (w:Nat×Nat),w.1≤(Exs.szW f l w).1∧w.2≤(Exs.szW f l w).2
 |[],w=>by rw[Exs.szW];exact⟨Nat.le_refl _,Nat.le_refl _⟩
 |e::r,w=>by
   rw[Exs.szW];have:=Nm2 f r (w.1+(f e.L).1,Nat.max w.2 (f e.L).2);have h2:w.2≤Nat.max w.2 (f e.L).2:=Nat.le_max_left _ _;simp only at this;omega
theorem NmY(v:Nat)(f:List Sm→Nat×Nat):∀ (l:List Sm) (w:Nat×Nat),w.1≤(Sms.szW v f l w).1∧w.2≤(Sms.szW v f l w).2
 |[],w=>by rw[Sms.szW];exact⟨Nat.le_refl _,Nat.le_refl _⟩
 |e::r,w=>by
   rw[Sms.szW];have:=NmY v f r (w.1+(Exs.sz v e.A).1+(f e.B).1+(f e.E).1,Nat.max (Nat.max (Nat.max w.2 (Exs.sz v e.A).2) (f e.B).2) (f e.E).2);have h2:w.2≤Nat.max (Nat.max (Nat.max w.2 (Exs.sz v e.A).2) (f e.B).2) (f e.E).2:=Nat.le_trans (Nat.le_max_left _ _) (Nat.le_trans (Nat.le_max_left _ _) (Nat.le_max_left _ _));simp only at this;omega
def prN(w:Nat×Nat):PV:=.tup [.i .i64 (w.1:Int),.i .i64 (w.2:Int)]
theorem NdI{z:Bool}{m:Nat}{cs:List PV}{n:Int}:NaC [slV z m cs,.i .i64 n]=([slV z m cs,.i .i64 n],{ sto:=.leaf,cnt:=1 }):=by
 unfold slV;split<;>rfl
theorem Niy{cfg:Cfg}(hc:CfgM cfg)(hx:cfg.ext 58=none):∀ (v fuel:Nat) (l:List Ex) (z:Bool) (st:St),Exs.size l+v+2≤fuel→Exs.size l<1000000000000000→v≤100 →
 ∃ r st',Nay cfg (fuel+1) 58 [slV z l.length (Exs.cs l),.i .i64 (v:Int)] st=some (r,st')∧r=prN (Exs.sz v l)
 |v,fuel,l,z,st,hfu,hn,hv=>by
   refine Nax (hc.fn _ _ (by kernel_rfl):cfg.fn 58=some m58) ?_;delta m58 Qa Qr Qf Ql Qt Qs Qk Qm Qh Qi Qo;have hlv:=NaF z l.length (Exs.cs l);have hsz:=Exs.len l;have hlle:=Exs.len_le l;obtain⟨R,hR⟩:∃ R,Exs.sz v l=R:=⟨_,rfl⟩;rw[hR];obtain⟨sto0,c0⟩:=st;simp only[Naj];by_cases h0:l.length=0
   ·have b0:((l.length:Int)==Int.ofNat 0)=true:=(by rw[h0];rfl);have hR0:R=(0,0):=by
     rw[←hR];cases v with
     |zero=>rw[Exs.sz]
     |succ v=>rw[Exs.sz,if_pos h0]
    subst hR0
    iterate 4
     (try rw[Z0]);(try simp(disch:=first|omega|rfl|assumption)only[↓Yaa,Yab,Nae,Naa,rB,rC,rD,rE,reduceIte,unP,rF,hlv,b0])
    exact⟨nofun,_,rfl,by simp only[Nau,Yad,if_true];rfl⟩
   have b00:(l.length:Int)≠Int.ofNat 0:=(by show(l.length:Int)≠0;omega);have b0:((l.length:Int)==Int.ofNat 0)=false:=by simpa using b00
   match v,hfu,hv,hR with
   |0,hfu,hv,hR =>
     rw[Exs.sz]at hR;subst hR
     iterate 4
      (try rw[Z0]);(try simp(disch:=first|omega|rfl|assumption)only[↓Yaa,Yab,Nae,Naa,rB,rC,rD,rE,reduceIte,unP,rF,hlv,b0])
     exact⟨nofun,_,rfl,by simp only[Nau,Yad,if_true];rfl⟩
   |v+1,hfu,hv,hR =>
     rw[Exs.sz,if_neg h0]at hR;obtain⟨W,hW⟩:∃ W,Exs.szW (Exs.sz v) l (l.length,0)=W:=⟨_,rfl⟩;rw[hW]at hR;have hWb:=NkV (fun l=>(Njk v l).1) (fun l=>(Njk v l).2) l (l.length,0) (Nat.zero_le _);rw[hW]at hWb;simp only at hWb;obtain⟨q,rfl⟩:∃ q,fuel=q+1:=⟨fuel - 1,by omega⟩;have gE:∀ (e:Ex),Exs.size e.L<Exs.size l→∀ (st:St) (key:Nat),Nam (Nak cfg (Nay cfg (q+1)) 58) false st key [slV e.z e.L.length (Exs.cs e.L),.i .i64 (v:Int)]=some (.tup [.i .i64 ((Exs.sz v e.L).1:Int),.i .i64 ((Exs.sz v e.L).2:Int)],st):=fun e he st key =>
      NaH (NbY NbI rfl) (Nar hx NdI (fun _=>rfl) (Niy hc hx v q e.L e.z { sto:=.leaf,cnt:=1 } Zaa Zaa Zaa)) rfl rfl
     have hwv:IntKind.i64.wrap (((v+1:Nat):Int) - ((1:Nat):Int))=(v:Int):=by rw[NaD _ ⟨by omega,by omega⟩];omega
     iterate 4
      (try rw[Z0]);(try simp(disch:=first|omega|rfl|assumption)only[↓Yaa,Yab,Nae,Naa,rB,rC,rD,rE,reduceIte,unP,rF,hlv,b0])
     refine NaT (fun x=>x.env.get 6=.i .i64 (W.1:Int)∧x.env.get 7=.i .i64 (W.2:Int)) ?_ ?_
     ·intro K1 hK1
      iterate 2
       (try rw[Z0]);(try simp(disch:=first|omega|rfl|assumption)only[↓Yaa,Yab,Nae,Naa,rB,rC,rD,rE,reduceIte,unP,rF])
      refine Z9 (k:=l.length - 0) (fun m x=>∃ (i:Nat) (n:Nat) (d:Nat),m=l.length - i∧x.env.get 0=slV z l.length (Exs.cs l)∧x.env.get 1=.i .i64 ((v+1:Nat):Int)∧x.env.get 6=.i .i64 (n:Int)∧x.env.get 7=.i .i64 (d:Int)∧x.env.get 8=.i .i64 (i:Int)∧(i≤l.length)∧(Exs.szW (Exs.sz v) (l.drop i) (n,d)=W)) ?_ ?_ Zaa
      ·skip
       rintro m ⟨env,⟨sto,c⟩⟩ ⟨i,n,d,rfl,g0,g1,g6,g7,g8,hi,hob⟩;try simp only at g0 g1 g6 g7 g8
       by_cases hil:i<l.length
       ·rw[Nas hil]at g0 hlv;obtain⟨e,he⟩:∃ e,l[i]=e:=⟨_,rfl⟩;have hld:=fun st=>Nij (st:=st) hil;simp only[he]at hld;rw[List.drop_eq_getElem_cons hil,he,Exs.szW]at hob;simp only at hob;have hel:e.size≤Exs.size l:=Exs.size_mem (he▸List.getElem_mem hil);have hes:=Ex.size_eq e;have gE':=gE e Zaa;obtain⟨a,ha⟩:∃ a,Exs.sz v e.L=a:=⟨_,rfl⟩;simp only[ha]at gE';rw[ha]at hob;have hge:=Nm2 (Exs.sz v) (l.drop (i+1)) (n+a.1,Nat.max d a.2);rw[hob]at hge;simp only at hge;have hwa:IntKind.i64.wrap ((n:Int)+(a.1:Int))=((n+a.1:Nat):Int):=(by rw[NaD _ ⟨by omega,by omega⟩];omega);have hmx:=Nev d a.2
        iterate 6
         (try rw[Z0]);(try simp(disch:=first|omega|rfl|assumption)only[↓Yaa,Yab,Nae,Naa,rB,rC,rD,rE,reduceIte,unP,rF,g0,g1,g6,g7,g8,hlv,hld,hsz,hwv,gE',hwa,hmx])
        refine⟨l.length - (i+1),by omega,i+1,n+a.1,Nat.max d a.2,?_⟩
        repeat' apply And.intro
        all_goals first|rfl|exact(Nas hil).symm|exact hob|omega
       ·have h0':l.drop i=[]:=List.drop_of_length_le Zaa;rw[h0',Exs.szW]at hob;subst hob
        iterate 6
         (try rw[Z0]);(try simp(disch:=first|omega|rfl|assumption)only[↓Yaa,Yab,Nae,Naa,rB,rC,rD,rE,reduceIte,unP,rF,g0,g1,g6,g7,g8,hlv])
        refine hK1 _ ⟨?_,?_⟩<;>first|with_reducible rfl|with_reducible assumption|(simp[Yad,g0,g1,g6,g7,g8]<;>omega)
      ·skip
       exact⟨0,l.length,0,rfl,Zad,Zad,Zad,Zad,Zad,Zac,(by rw[List.drop_zero];exact hW)⟩
     rintro⟨env,⟨sto,c⟩⟩ ⟨g6,g7⟩;try simp only at g6 g7
     have hwd:IntKind.i64.wrap ((W.2:Int)+((1:Nat):Int))=((W.2+1:Nat):Int):=(by rw[NaD _ ⟨by omega,by omega⟩];omega);subst hR
     iterate 2
      (try rw[Z0]);(try simp(disch:=first|omega|rfl|assumption)only[↓Yaa,Yab,Nae,Naa,rB,rC,rD,rE,reduceIte,unP,rF,g6,g7,hwd])
     exact⟨nofun,_,rfl,by simp only[Nau,mapO,Yad,if_true];rfl⟩
end Go.Pe
