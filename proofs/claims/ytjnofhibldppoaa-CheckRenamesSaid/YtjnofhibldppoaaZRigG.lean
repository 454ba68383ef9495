/-
 The document's tree: is a program right: walked. No condition.
-/
import Derived.Test.YtjnofhibldppoaaZChkMf
import Derived.Test.YtjnofhibldppoaaZRigF
set_option linter.unusedVariables false
set_option linter.unusedSimpArgs false
open Nat renaming reduceAdd → rB,reduceMul → rC,reduceLT → rD,reduceEqDiff → rE,reduceLeDiff → rF
namespace Go.Pe
open Go
theorem Neo(s t:List UInt8)(k:Nat):∀ es:List (List UInt8×Nat),getN s (putN t k es)=if s=t then some k else getN s es
 |[]=>by
   rw[putN,getN];by_cases h:s=t<;>simp[h,getN]
 |(u,j)::r=>by
   have ih:=Neo s t k r;rw[putN];by_cases h1:t=u
   ·subst h1;simp only[beq_self_eq_true,if_true];rw[getN,getN];by_cases h:s=t<;>simp[h]
   ·have h1':(t==u)=false:=(by simpa using h1);rw[h1'];simp only[Bool.false_eq_true,if_false];rw[getN,getN,ih];by_cases h:s=u
    ·subst h;have:¬ s=t:=fun e=>h1 e.symm;simp[this]
    ·have:(s==u)=false:=(by simpa using h);simp[this]
structure Less(n0:List UInt8)(es es':List (List UInt8×Nat)):Prop where
 no:getN n0 es'=none
 eq:∀ s,s≠n0→getN s es'=getN s es
theorem Less.put{n0 s:List UInt8}{es es':List (List UInt8×Nat)}{k:Nat}(h:Less n0 es es')(hs:s≠n0):Less n0 (putN s k es) (putN s k es'):=by
 refine⟨?_,fun t ht=>?_⟩
 ·rw[Neo,if_neg (Ne.symm hs)];exact h.no
 ·rw[Neo,Neo,h.eq t ht]
theorem NoQ{b r:Bool}(h:NmC true b r=false):b=false∧r=true:=by
 unfold NmC at h;cases b<;>cases r<;>simp_all
theorem Nkm:∀ (l:List Dc) (b:Bool),Ndj true l b=false→b=false∧∀ d∈l,d.ok=true
 |[],b,h=>by rw[Ndj]at h;exact⟨h,by simp⟩
 |d::r,b,h=>by
   rw[Ndj]at h;obtain⟨h1,h2⟩:=Nkm r _ h;obtain⟨h3,h4⟩:=NoQ h1;refine⟨h3,fun x hx=>?_⟩;rcases List.mem_cons.1 hx with rfl|hx
   ·exact h4
   ·exact h2 x hx
theorem NhA:∀ (l:List Dc),(∀ d∈l,d.ok=true)→Ndj true l false=false
 |[],_=>rfl
 |d::r,h=>by
   rw[Ndj,h d (List.mem_cons_self ..)];exact NhA r fun x hx=>h x (List.mem_cons_of_mem _ hx)
theorem NmP{d:Nat}{r:Bool}{w:Nat×Bool}(h:(NcK true d r w).2=false):w.2=false∧r=true:=by
 unfold NcK at h;simp only at h;split at h
 ·cases h
 rename_i h1;split at h
 ·cases h
 split at h
 ·cases h
 exact⟨by simpa using h1,by simpa using h⟩
mutual
theorem Ex.walk_f:∀ (e:Ex) (d:Nat) (w:Nat×Bool),(e.walk true d w).2=false→w.2=false
 |.mk k s n z l,d,w,h=>by
   rw[Ex.walk]at h;split at h
   ·rename_i h1;rw[h1]at h;cases h
   ·exact(NmP (Exs.walk_f l _ _ h)).1
theorem Exs.walk_f:∀ (l:List Ex) (d:Nat) (w:Nat×Bool),(Exs.walk true l d w).2=false→w.2=false
 |[],d,w,h=>by rw[Exs.walk]at h;exact h
 |e::r,d,w,h=>by
   rw[Exs.walk]at h;split at h
   ·rename_i h1;rw[h1]at h;cases h
   ·exact Ex.walk_f e d w (Exs.walk_f r _ _ h)
end
mutual
def Sm.ops:Sm→Bool
 |.mk k o j i n za a zb b ze e r=>(if k.toNat=1 then decide (1≤o.toNat)&&decide (o.toNat≤23)else true)&&(Sms.ops b&&Sms.ops e)
def Sms.ops:List Sm→Bool
 |[]=>true
 |s::r=>s.ops&&Sms.ops r
end
theorem NkP{k o:Nat}{j i:List UInt8}{n:Int}{a b e:Nat}(h:Na0 k o j i n a b e=true):(if k=1 then decide (1≤o)&&decide (o≤23)else true)=true:=by
 by_cases hk:k=1
 ·rw[if_pos hk];unfold Na0 at h;rw[if_pos hk]at h;split at h
  ·cases h
  rename_i h1;unfold doT at h1;split at h1
  ·exact absurd rfl h1
  split at h1
  ·exact absurd rfl h1
  rename_i h2 h3;simp;omega
 ·rw[if_neg hk]
mutual
theorem Sm.walk_f:∀ (s:Sm) (d:Nat) (w:Nat×Bool),(s.walk true d w).2=false→w.2=false∧s.ops=true
 |.mk k o j i n za a zb b ze e r,d,w,h=>by
   rw[Sm.walk]at h;rw[Sm.ops];split at h
   ·rename_i h1;rw[h1]at h;cases h
   ·obtain⟨h2,h3⟩:=Sms.walk_f e _ _ h;obtain⟨h4,h5⟩:=Sms.walk_f b _ _ h2;obtain⟨h6,h7⟩:=NmP (Exs.walk_f a _ _ h4);exact⟨h6,by rw[NkP h7,h5,h3];rfl⟩
theorem Sms.walk_f:∀ (l:List Sm) (d:Nat) (w:Nat×Bool),(Sms.walk true l d w).2=false→w.2=false∧Sms.ops l=true
 |[],d,w,h=>by rw[Sms.walk]at h;exact⟨h,by rw[Sms.ops]⟩
 |s::r,d,w,h=>by
   rw[Sms.walk]at h;split at h
   ·rename_i h1;rw[h1]at h;cases h
   ·obtain⟨h2,h3⟩:=Sms.walk_f r _ _ h;obtain⟨h4,h5⟩:=Sm.walk_f s d w h2;exact⟨h4,by rw[Sms.ops,h5,h3];rfl⟩
end
theorem NiD:∀ (T:List Td) (w:Nat×Bool),(Nhd true T w).2=false→w.2=false∧∀ t∈T,Sms.ops t.B=true
 |[],w,h=>by rw[Nhd]at h;exact⟨h,by simp⟩
 |t::r,w,h=>by
   rw[Nhd]at h;obtain⟨h1,h2⟩:=NiD r _ h;split at h1
   ·cases h1
   rename_i h3;obtain⟨h4,h5⟩:=Sms.walk_f _ _ _ h1;refine⟨?_,fun x hx=>?_⟩
   ·cases hw:w.2 with
    |false=>rfl
    |true=>rw[hw]at h3;exact absurd rfl h3
   ·rcases List.mem_cons.1 hx with rfl|hx
    ·exact h5
    ·exact h2 x hx
theorem Nkc{p:Pg}:Nef p=false↔p.D.length≤64∧p.T.length≤16:=by
 unfold Nef;split
 ·simp;omega
 ·simp;omega
theorem Nox{p:Pg}(h:Ndp p=true):(p.D.length≤64∧p.T.length≤16)∧(∀ d∈p.D,d.ok=true)∧∀ t∈p.T,Sms.ops t.B=true:=by
 unfold Ndp NhG at h;have h':(Nhd true p.T (0,Ndj true p.D (Nef p))).2=false:=by simpa using h
 obtain⟨h1,h2⟩:=NiD _ _ h';obtain⟨h3,h4⟩:=Nkm _ _ h1;exact⟨Nkc.1 h3,h4,h2⟩
theorem Nl0:NaJ []=false:=by decide
end Go.Pe
set_option maxHeartbeats 8000000
namespace Go.Pe
open Go Go.Am Go.RowKit
def Tds.ft:List Td→Nat→Nat×Bool
 |[],n=>(n,false)
 |t::r,n=>if 20<(Sms.sz 21 t.B).2 then(n,true)else Tds.ft r (n+(Sms.sz 21 t.B).1)
def NmI(p:Pg):Bool:=!(Tds.ft p.T 0).2&&(decide ((Tds.ft p.T 0).1≤1000)&&(decide (p.D.length≤64)&&decide (p.T.length≤16)))
def Dcs.rt:List Dc→Bool
 |[]=>true
 |d::r=>d.ok&&Dcs.rt r
def Tds.rt:List Td→Bool
 |[]=>true
 |t::r=>(NaJ t.S&&Sms.rt t.B)&&Tds.rt r
def Njo(p:Pg):Bool:=NmI p&&(Dcs.rt p.D&&Tds.rt p.T)
theorem Npn:∀ (T:List Td) (n:Nat),(Tds.ft T n).1≤n+Tds.size T
 |[],n=>by rw[Tds.ft,Tds.size];omega
 |t::r,n=>by
   rw[Tds.ft,Tds.size];have h1:=(NfI 21 t.B).1;split
   ·simp only;omega
   ·have:=Npn r (n+(Sms.sz 21 t.B).1);omega
theorem Npm:∀ (T:List Td) (n:Nat),n≤(Tds.ft T n).1
 |[],n=>by rw[Tds.ft];exact Nat.le_refl _
 |t::r,n=>by
   rw[Tds.ft];split
   ·exact Nat.le_refl _
   ·have:=Npm r (n+(Sms.sz 21 t.B).1);omega
theorem NnO{cfg:Cfg}(hc:CfgR cfg){p:Pg}{q:Nat}{st:St}(hfu:Tds.size p.T+p.D.length+60≤q)(hn:Tds.size p.T+p.D.length<1000000000000000) :
 ∃ r st',Nay cfg (q+2) 30 [.agg (Pg.cs p)] st=some (r,st')∧r=.b (NmI p):=by
 refine Nax (hc.fn _ _ (by kernel_rfl):cfg.fn 30=some m30) ?_;delta m30 Qa Qr Qf Qg Ql Qt Qs Qk Qm Qh Qi Qu Qv Qo Pg.cs;have lD:=NaF p.zd p.D.length (p.D.flatMap Dc.cs);have lT:=NaF p.zt p.T.length (p.T.flatMap Td.cs);have hT:=NaM Td.cs_len p.T;have hTl:=Tds.len_le p.T;obtain⟨R,hR⟩:∃ R,NmI p=R:=⟨_,rfl⟩;rw[hR];unfold NmI at hR;obtain⟨W,hW⟩:∃ W,Tds.ft p.T 0=W:=⟨_,rfl⟩;have hWl:=Npn p.T 0;rw[hW]at hR hWl;obtain⟨sto0,c0⟩:=st;simp only[Naj];(try rw[Z0]);(try simp(maxSteps:=9^7)(disch:=first|omega|rfl|assumption)only[↓Yaa,Yab,Nae,Naa,rB,rC,rD,rE,reduceIte,unP,rF,Nag,Naf]);(try rw[Z0]);(try simp(maxSteps:=9^7)(disch:=first|omega|rfl|assumption)only[↓Yaa,Yab,Nae,Naa,rB,rC,rD,rE,reduceIte,unP,rF]);refine NaL (fun x=>∃ (P:Nat),P<x.st.cnt∧x.env.get 1=.ptr P 0∧x.env.get 3=.i .i64 ((0:Nat):Int)∧x.st.get P=some (.cells [slV p.zd p.D.length (p.D.flatMap Dc.cs),slV p.zt p.T.length (p.T.flatMap Td.cs)] false)) ?_ ?_
 ·exact⟨c0,Zab,Zah,Zah,(by first|exact kP _|with_reducible rfl|with_reducible assumption|(simp(disch:=omega)only[NaG,NaN,Yaf];first|done|with_reducible rfl|with_reducible assumption))⟩
 rintro⟨env,⟨sto,c⟩⟩ ⟨P,bP,g1,g3,kP⟩;try simp only at bP g1 g3
 replace kP:∀ n',St.get ⟨sto,n'⟩ P=some (.cells [slV p.zd p.D.length (p.D.flatMap Dc.cs),slV p.zt p.T.length (p.T.flatMap Td.cs)] false):=fun _=>kP;refine NaT (fun x=>P<x.st.cnt∧x.env.get 1=.ptr P 0∧x.env.get 3=.i .i64 (W.1:Int)∧x.st.get P=some (.cells [slV p.zd p.D.length (p.D.flatMap Dc.cs),slV p.zt p.T.length (p.T.flatMap Td.cs)] false)∧(W.2=false)) ?_ ?_
 ·intro K1 hK1
  iterate 2
   (try rw[Z0]);(try simp(maxSteps:=9^7)(disch:=first|omega|rfl|assumption)only[↓Yaa,Yab,Nae,Naa,rB,rC,rD,rE,reduceIte,unP,rF,g1,g3,kP])
  refine Z9 (k:=p.T.length - 0) (fun m x=>∃ (i:Nat) (n:Nat),m=p.T.length - i∧x.env.get 1=.ptr P 0∧x.env.get 3=.i .i64 (n:Int)∧x.env.get 4=.i .i64 (i:Int)∧P<x.st.cnt∧x.st.get P=some (.cells [slV p.zd p.D.length (p.D.flatMap Dc.cs),slV p.zt p.T.length (p.T.flatMap Td.cs)] false)∧(i≤p.T.length)∧(Tds.ft (p.T.drop i) n=W)) ?_ ?_ Zaa
  ·clear bP g1 g3 kP;rintro m ⟨env,⟨sto,c⟩⟩ ⟨i,n,rfl,g1,g3,g4,bP,kP,hi,hob⟩;try simp only at g1 g3 g4 bP
   replace kP:∀ n',St.get ⟨sto,n'⟩ P=some (.cells [slV p.zd p.D.length (p.D.flatMap Dc.cs),slV p.zt p.T.length (p.T.flatMap Td.cs)] false):=fun _=>kP;by_cases hil:i<p.T.length
   ·obtain⟨t,he⟩:∃ t,p.T[i]=t:=⟨_,rfl⟩;have hF:=fun st=>Nf4 (st:=st) hil;simp only[he]at hF;have f1:=fun st=>(hF st).2;have hsp:=fun z cs=>Nas (z:=z) (cs:=cs) hil;have lT2:Nd7 (.fsl p.T.length (p.T.flatMap Td.cs))=some (.i .i64 (p.T.length:Int)):=rfl;have hsm:=Tds.size_mem (l:=p.T) (t:=t) (he▸List.getElem_mem hil);rw[List.drop_eq_getElem_cons hil,he,Tds.ft]at hob;obtain⟨a,ha⟩:∃ a,Sms.sz 21 t.B=a:=⟨_,rfl⟩;rw[ha]at hob;have gS:∀ (st:St) (key:Nat),Nam (Nak cfg (Nay cfg (q+1)) 40) false st key [slV t.z t.B.length (Sms.cs t.B),.i .i64 ((21:Nat):Int)]=some (.tup [.i .i64 (a.1:Int),.i .i64 (a.2:Int)],st):=fun st key=>by
     have:=Niz hc.toCfgM hc.ra hc.rb 21 q t.B t.z { sto:=.leaf,cnt:=1 } Zaa Zaa Zaa;rw[ha]at this;exact NaH (NbY NbI rfl) (Nar hc.rb NdI (fun _=>rfl) this) rfl rfl
    by_cases h20:20<a.2
    ·rw[if_pos h20]at hob;subst hob;have hge:n≤n:=Nat.le_refl _;have hal:=(NfI 21 t.B).1;rw[ha]at hal;have hwa:IntKind.i64.wrap ((n:Int)+(a.1:Int))=((n+a.1:Nat):Int):=by rw[NaD _ ⟨by omega,by simp only at hWl;omega⟩];omega
     iterate 8
      (try rw[Z0]);(try simp(maxSteps:=9^7)(disch:=first|omega|rfl|assumption)only[↓Yaa,Yab,Nae,Naa,rB,rC,rD,rE,reduceIte,unP,rF,g1,g3,g4,kP,hsp,lT2,lT,hT,f1,gS,hwa])
     exact⟨nofun,_,rfl,by simp only[Nau,Yad,if_true];rw[←hR];rfl⟩
    ·rw[if_neg h20]at hob;have hge:=Npm (p.T.drop (i+1)) (n+a.1);rw[hob]at hge;have hwa:IntKind.i64.wrap ((n:Int)+(a.1:Int))=((n+a.1:Nat):Int):=by rw[NaD _ ⟨by omega,by omega⟩];omega
     iterate 8
      (try rw[Z0]);(try simp(maxSteps:=9^7)(disch:=first|omega|rfl|assumption)only[↓Yaa,Yab,Nae,Naa,rB,rC,rD,rE,reduceIte,unP,rF,g1,g3,g4,kP,hsp,lT2,lT,hT,f1,gS,hwa])
     refine⟨p.T.length - (i+1),by omega,i+1,n+a.1,?_⟩
     repeat' apply And.intro
     all_goals first|rfl|exact hob|omega
   ·have h0:p.T.drop i=[]:=List.drop_of_length_le Zaa;rw[h0,Tds.ft]at hob;subst hob
    iterate 6
     (try rw[Z0]);(try simp(maxSteps:=9^7)(disch:=first|omega|rfl|assumption)only[↓Yaa,Yab,Nae,Naa,rB,rC,rD,rE,reduceIte,unP,rF,g1,g3,g4,kP,lT])
    refine hK1 _ ⟨Zab,?_,?_,?_,rfl⟩<;>first|with_reducible rfl|with_reducible assumption|exact kP _|(simp[Yad,g1,g3,g4]<;>omega)|(simp(disch:=omega)only[NaG,NaN,Yaf,kP];first|done|with_reducible rfl|with_reducible assumption)
  ·skip
   refine⟨0,0,rfl,?_,?_,?_,Zab,?_,Zac,(by rw[List.drop_zero];exact hW)⟩<;>first|with_reducible rfl|with_reducible assumption|exact kP _|(simp[Yad,g1,g3]<;>omega)|(simp(disch:=omega)only[NaG,NaN,Yaf,kP];first|done|with_reducible rfl|with_reducible assumption)
 clear bP g1 g3 kP;rintro⟨env,⟨sto,c⟩⟩ ⟨bP,g1,g3,kP,hw⟩;try simp only at bP g1 g3
 replace kP:∀ n',St.get ⟨sto,n'⟩ P=some (.cells [slV p.zd p.D.length (p.D.flatMap Dc.cs),slV p.zt p.T.length (p.T.flatMap Td.cs)] false):=fun _=>kP;rw[hw,Bool.not_false,Bool.true_and]at hR;by_cases c1:W.1≤1000
 ·rw[decide_eq_true c1,Bool.true_and]at hR;by_cases c2:p.D.length≤64
  ·rw[decide_eq_true c2,Bool.true_and]at hR;by_cases c3:p.T.length≤16
   ·rw[decide_eq_true c3]at hR
    iterate 3
     (try rw[Z0]);(try simp(maxSteps:=9^7)(disch:=first|omega|rfl|assumption)only[↓Yaa,Yab,Nae,Naa,rB,rC,rD,rE,reduceIte,unP,rF,g1,g3,kP,lD,lT])
    exact⟨nofun,_,rfl,by simp only[Nau,Yad,if_true];rw[←hR]⟩
   ·rw[decide_eq_false c3]at hR
    iterate 3
     (try rw[Z0]);(try simp(maxSteps:=9^7)(disch:=first|omega|rfl|assumption)only[↓Yaa,Yab,Nae,Naa,rB,rC,rD,rE,reduceIte,unP,rF,g1,g3,kP,lD,lT])
    exact⟨nofun,_,rfl,by simp only[Nau,Yad,if_true];rw[←hR]⟩
  ·rw[decide_eq_false c2,Bool.false_and]at hR
   iterate 3
    (try rw[Z0]);(try simp(maxSteps:=9^7)(disch:=first|omega|rfl|assumption)only[↓Yaa,Yab,Nae,Naa,rB,rC,rD,rE,reduceIte,unP,rF,g1,g3,kP,lD,lT])
   exact⟨nofun,_,rfl,by simp only[Nau,Yad,if_true];rw[←hR]⟩
 ·rw[decide_eq_false c1,Bool.false_and]at hR
  iterate 3
   (try rw[Z0]);(try simp(maxSteps:=9^7)(disch:=first|omega|rfl|assumption)only[↓Yaa,Yab,Nae,Naa,rB,rC,rD,rE,reduceIte,unP,rF,g1,g3,kP,lD,lT])
  exact⟨nofun,_,rfl,by simp only[Nau,Yad,if_true];rw[←hR]⟩
theorem NkK{cfg:Cfg}(hc:CfgR cfg){p:Pg}{q:Nat}{st:St}(hfu:Tds.size p.T+p.D.length+70≤q)(hn:Tds.size p.T+p.D.length<1000000000000000) :
 ∃ r st',Nay cfg (q+4) 18 [.agg (Pg.cs p)] st=some (r,st')∧r=.b (Njo p):=by
 refine Nax (hc.fn _ _ (by kernel_rfl):cfg.fn 18=some m18) ?_;delta m18 Qa Qr Qf Qg Ql Qt Qn Qs Qk Qm Qh Qi Qu Qv Qo Qw Pg.cs;have lD:=NaF p.zd p.D.length (p.D.flatMap Dc.cs);have lT:=NaF p.zt p.T.length (p.T.flatMap Td.cs);have hD:=NaM Dc.cs_len p.D;have hT:=NaM Td.cs_len p.T;have hTl:=Tds.len_le p.T;obtain⟨R,hR⟩:∃ R,Njo p=R:=⟨_,rfl⟩;rw[hR];unfold Njo at hR;obtain⟨F,hF⟩:∃ F,NmI p=F:=⟨_,rfl⟩;rw[hF]at hR;have gF:∀ (st:St) (key:Nat),Nam (Nak cfg (Nay cfg (q+3)) 30) false st key [.agg [slV p.zd p.D.length (p.D.flatMap Dc.cs),slV p.zt p.T.length (p.T.flatMap Td.cs)]]=some (.b F,st):=fun st key =>
  NaH (NaR (NcN _ _)) (Nar hc.r9 (NcU _ _) (fun _=>rfl) (by
   have:=NnO hc (p:=p) (q:=q+1) (st:={ sto:=.leaf,cnt:=1 }) Zaa hn;rw[hF]at this;exact this)) rfl rfl
 have gN:∀ x,Nak cfg (Nay cfg (q+3)) 31 [.s x]=some (.b (NaJ x)):=fun x=>Nar hc.r1 rfl (fun _=>rfl) (Nf6 (hc.fn _ _ (by kernel_rfl)) hc.rn);have kN:∀ x (st:St) (key:Nat),Nam (Nak cfg (Nay cfg (q+3)) 31) false st key [.s x]=some (.b (NaJ x),st):=fun x st key=>Nal rfl (gN x) rfl;have kC:∀ k (st:St) (key:Nat),Nam (Nak cfg (Nay cfg (q+3)) 32) false st key [.i .u8 ((k:Nat):Int)]=some (.b (Ndl k),st):=fun k st key=>Nal rfl (Nar hc.r4 rfl (fun _=>rfl) (NjG (hc.fn _ _ (by kernel_rfl)))) rfl;obtain⟨sto0,c0⟩:=st;simp only[Naj];(try rw[Z0]);(try simp(maxSteps:=9^7)(disch:=first|omega|rfl|assumption)only[↓Yaa,Yab,Nae,Naa,rB,rC,rD,rE,reduceIte,unP,rF,Nag,Naf]);refine NaL (fun x=>∃ (P:Nat),P<x.st.cnt∧x.env.get 1=.ptr P 0∧x.st.get P=some (.cells [slV p.zd p.D.length (p.D.flatMap Dc.cs),slV p.zt p.T.length (p.T.flatMap Td.cs)] false)) ?_ ?_
 ·exact⟨c0,Zab,Zah,(by first|exact kP _|with_reducible rfl|with_reducible assumption|(simp(disch:=omega)only[NaG,NaN,Yaf];first|done|with_reducible rfl|with_reducible assumption))⟩
 rintro⟨env,⟨sto,c⟩⟩ ⟨P,bP,g1,kP⟩;try simp only at bP g1
 replace kP:∀ n',St.get ⟨sto,n'⟩ P=some (.cells [slV p.zd p.D.length (p.D.flatMap Dc.cs),slV p.zt p.T.length (p.T.flatMap Td.cs)] false):=fun _=>kP;cases F with
 |false =>
   rw[Bool.false_and]at hR
   iterate 4
    (try rw[Z0]);(try simp(maxSteps:=9^7)(disch:=first|omega|rfl|assumption)only[↓Yaa,Yab,Nae,Naa,rB,rC,rD,rE,reduceIte,unP,rF,g1,kP,gF,Nag,Naf,Bool.not_false])
   exact⟨nofun,_,rfl,by simp only[Nau,Yad,if_true];rw[←hR]⟩
 |true =>
 rw[Bool.true_and]at hR
 iterate 2
  (try rw[Z0]);(try simp(maxSteps:=9^7)(disch:=first|omega|rfl|assumption)only[↓Yaa,Yab,Nae,Naa,rB,rC,rD,rE,reduceIte,unP,rF,g1,kP,gF,Nag,Naf,Bool.not_true])
 have e1:NjN true (.b true) (.b true)=some (.b false):=rfl;have e2:NjN true (.b true) (.b false)=some (.b true):=rfl;have e3:NjN true (.b false) (.b true)=some (.b true):=rfl;have e4:NjN true (.b false) (.b false)=some (.b false):=rfl;refine NaT (fun x=>P<x.st.cnt∧x.env.get 1=.ptr P 0∧x.st.get P=some (.cells [slV p.zd p.D.length (p.D.flatMap Dc.cs),slV p.zt p.T.length (p.T.flatMap Td.cs)] false)∧(Dcs.rt p.D=true)) ?_ ?_
 ·intro K1 hK1
  iterate 2
   (try rw[Z0]);(try simp(maxSteps:=9^7)(disch:=first|omega|rfl|assumption)only[↓Yaa,Yab,Nae,Naa,rB,rC,rD,rE,reduceIte,unP,rF,g1,kP])
  refine Z9 (k:=p.D.length - 0) (fun m x=>∃ (i:Nat),m=p.D.length - i∧P<x.st.cnt∧x.env.get 1=.ptr P 0∧x.st.get P=some (.cells [slV p.zd p.D.length (p.D.flatMap Dc.cs),slV p.zt p.T.length (p.T.flatMap Td.cs)] false)∧x.env.get 3=.i .i64 (i:Int)∧(i≤p.D.length)∧(Dcs.rt (p.D.drop i)=Dcs.rt p.D)) ?_ ?_ Zaa
  ·clear bP g1 kP;rintro m ⟨env,⟨sto,c⟩⟩ ⟨i,rfl,bP,g1,kP,g3,hi,hob⟩;try simp only at bP g1 g3
   replace kP:∀ n',St.get ⟨sto,n'⟩ P=some (.cells [slV p.zd p.D.length (p.D.flatMap Dc.cs),slV p.zt p.T.length (p.T.flatMap Td.cs)] false):=fun _=>kP;by_cases hil:i<p.D.length
   ·obtain⟨d,he⟩:∃ d,p.D[i]=d:=⟨_,rfl⟩;have hld:=fun st=>Nhw (st:=st) hil;simp only[he]at hld;have hsp:=fun z cs=>Nas (z:=z) (cs:=cs) hil;have lD2:Nd7 (.fsl p.D.length (p.D.flatMap Dc.cs))=some (.i .i64 (p.D.length:Int)):=rfl;rw[List.drop_eq_getElem_cons hil,he,Dcs.rt]at hob;obtain⟨k,hkk⟩:∃ k,d.K.toNat=k:=⟨_,rfl⟩;simp only[hkk]at hld
    iterate 4
     (try rw[Z0]);(try simp(maxSteps:=9^7)(disch:=first|omega|rfl|assumption)only[↓Yaa,Yab,Nae,Naa,rB,rC,rD,rE,reduceIte,unP,rF,g1,kP,g3,hsp,lD2,lD,hD,hld])
    refine NaL (fun x=>∃ (B:Nat),P<x.st.cnt∧x.env.get 1=.ptr P 0∧x.st.get P=some (.cells [slV p.zd p.D.length (p.D.flatMap Dc.cs),slV p.zt p.T.length (p.T.flatMap Td.cs)] false)∧x.env.get 3=.i .i64 (i:Int)∧(P<B)∧B<x.st.cnt∧x.env.get 4=.ptr B 0∧x.st.get B=some (.cells [.i .u8 (k:Int),.s d.S,.i .i64 d.N,.s d.O,.i .i64 d.R] false)) ?_ ?_
    ·refine⟨c+80,Zab,?_,(by simp(disch:=omega)only[NaG,NaN];exact kP _),?_,Zac,Zab,?_,(by rw[Yaf])⟩<;>first|with_reducible rfl|with_reducible assumption|(simp[Yad,g1,g3]<;>omega)
    clear bP g1 kP g3;rintro⟨env,⟨sto,c⟩⟩ ⟨B,bP,g1,kP,g3,oB,bB,g4,kB⟩;try simp only at bP g1 g3 bB g4
    replace kP:∀ n',St.get ⟨sto,n'⟩ P=some (.cells [slV p.zd p.D.length (p.D.flatMap Dc.cs),slV p.zt p.T.length (p.T.flatMap Td.cs)] false):=fun _=>kP;replace kB:∀ n',St.get ⟨sto,n'⟩ B=some (.cells [.i .u8 (k:Int),.s d.S,.i .i64 d.N,.s d.O,.i .i64 d.R] false):=fun _=>kB;by_cases c1:k<1
    ·have b1:(k:Int)<1:=(by omega);have hok:d.ok=false:=(by unfold Dc.ok Ngn Ndd;rw[hkk,if_pos c1];rfl);rw[hok,Bool.false_and]at hob;rw[←hob,Bool.false_and]at hR
     iterate 4
      (try rw[Z0]);(try simp(maxSteps:=9^7)(disch:=first|omega|rfl|assumption)only[↓Yaa,Yab,Nae,Naa,rB,rC,rD,rE,reduceIte,unP,rF,g1,kP,g3,g4,kB,kN,kC,e1,e2,e3,e4,c1])
     exact⟨nofun,_,rfl,by simp only[Nau,Yad,if_true];rw[←hR]⟩
    by_cases c2:9<k
    ·have b1:(9:Int)<(k:Int):=(by omega);have hok:d.ok=false:=(by unfold Dc.ok Ngn Ndd;rw[hkk,if_neg c1,if_pos c2];rfl);rw[hok,Bool.false_and]at hob;rw[←hob,Bool.false_and]at hR
     iterate 4
      (try rw[Z0]);(try simp(maxSteps:=9^7)(disch:=first|omega|rfl|assumption)only[↓Yaa,Yab,Nae,Naa,rB,rC,rD,rE,reduceIte,unP,rF,g1,kP,g3,g4,kB,kN,kC,e1,e2,e3,e4,c2])
     exact⟨nofun,_,rfl,by simp only[Nau,Yad,if_true];rw[←hR]⟩
    cases c3:NaJ d.S with
    |false =>
      have hok:d.ok=false:=(by unfold Dc.ok Ngn Ndd;rw[hkk,if_neg c1,if_neg c2,if_pos c3];rfl);rw[hok,Bool.false_and]at hob;rw[←hob,Bool.false_and]at hR
      iterate 4
       (try rw[Z0]);(try simp(maxSteps:=9^7)(disch:=first|omega|rfl|assumption)only[↓Yaa,Yab,Nae,Naa,rB,rC,rD,rE,reduceIte,unP,rF,g1,kP,g3,g4,kB,kN,kC,e1,e2,e3,e4,c3,Bool.not_false])
      exact⟨nofun,_,rfl,by simp only[Nau,Yad,if_true];rw[←hR]⟩
    |true =>
    have c3n:¬ NaJ d.S=false:=(by rw[c3];simp);by_cases c4:k=4
    ·have b4:((k:Int)==Int.ofNat 4)=true:=(by rw[c4];rfl);by_cases c5:d.O=[]
     ·have b5:(d.O==[])=true:=(by rw[c5];rfl);have hok:d.ok=false:=(by unfold Dc.ok Ngn;rw[hkk,if_pos c4,c5,Nl0];split<;>rfl);rw[hok,Bool.false_and]at hob;rw[←hob,Bool.false_and]at hR
      iterate 4
       (try rw[Z0]);(try simp(maxSteps:=9^7)(disch:=first|omega|rfl|assumption)only[↓Yaa,Yab,Nae,Naa,rB,rC,rD,rE,reduceIte,unP,rF,g1,kP,g3,g4,kB,kN,kC,e1,e2,e3,e4,c3,b4,b5,Bool.not_true,Bool.not_false])
      exact⟨nofun,_,rfl,by simp only[Nau,Yad,if_true];rw[←hR]⟩
     ·have b5:(d.O==[])=false:=(by simpa using c5);cases c6:NaJ d.O with
      |false =>
        have hok:d.ok=false:=(by unfold Dc.ok Ngn;rw[hkk,if_pos c4,c6];split<;>rfl);rw[hok,Bool.false_and]at hob;rw[←hob,Bool.false_and]at hR
        iterate 4
         (try rw[Z0]);(try simp(maxSteps:=9^7)(disch:=first|omega|rfl|assumption)only[↓Yaa,Yab,Nae,Naa,rB,rC,rD,rE,reduceIte,unP,rF,g1,kP,g3,g4,kB,kN,kC,e1,e2,e3,e4,c3,b4,b5,c6,Bool.not_true,Bool.not_false])
        exact⟨nofun,_,rfl,by simp only[Nau,Yad,if_true];rw[←hR]⟩
      |true =>
      by_cases c7:d.N<0
      ·have c7i:d.N<0:=c7;have hok:d.ok=false:=(by unfold Dc.ok Ngn Ndd;rw[hkk,if_neg c1,if_neg c2,if_neg c3n,if_pos c7];rfl);rw[hok,Bool.false_and]at hob;rw[←hob,Bool.false_and]at hR
       iterate 4
        (try rw[Z0]);(try simp(maxSteps:=9^7)(disch:=first|omega|rfl|assumption)only[↓Yaa,Yab,Nae,Naa,rB,rC,rD,rE,reduceIte,unP,rF,g1,kP,g3,g4,kB,kN,kC,e1,e2,e3,e4,c3,b4,b5,c6,Bool.not_true,Bool.not_false])
       exact⟨nofun,_,rfl,by simp only[Nau,Yad,if_true];rw[←hR]⟩
      by_cases c8:0<d.N
      ·cases c9:Ndl k with
       |false =>
         have hok:d.ok=false:=(by unfold Dc.ok Ngn Ndd;rw[hkk,if_neg c1,if_neg c2,if_neg c3n,if_neg c7,if_pos c8,c9];rfl);rw[hok,Bool.false_and]at hob;rw[←hob,Bool.false_and]at hR
         iterate 4
          (try rw[Z0]);(try simp(maxSteps:=9^7)(disch:=first|omega|rfl|assumption)only[↓Yaa,Yab,Nae,Naa,rB,rC,rD,rE,reduceIte,unP,rF,g1,kP,g3,g4,kB,kN,kC,e1,e2,e3,e4,c3,b4,b5,c6,Bool.not_true,Bool.not_false,c9,Bool.not_false])
         exact⟨nofun,_,rfl,by simp only[Nau,Yad,if_true];rw[←hR]⟩
       |true =>
         have hok:d.ok=true:=(by unfold Dc.ok Ngn Ndd;rw[hkk,if_neg c1,if_neg c2,if_neg c3n,if_neg c7,if_pos c8,c9];rw[if_pos c4,c6];rfl);rw[hok,Bool.true_and]at hob
         iterate 4
          (try rw[Z0]);(try simp(maxSteps:=9^7)(disch:=first|omega|rfl|assumption)only[↓Yaa,Yab,Nae,Naa,rB,rC,rD,rE,reduceIte,unP,rF,g1,kP,g3,g4,kB,kN,kC,e1,e2,e3,e4,c3,b4,b5,c6,Bool.not_true,Bool.not_false,c9,Bool.not_true])
         exact⟨p.D.length - (i+1),by omega,i+1,rfl,by rw[Nas hil],rfl,by omega,hob⟩
      ·have c8i:¬ 0<d.N:=c8;have hok:d.ok=true:=(by unfold Dc.ok Ngn Ndd;rw[hkk,if_neg c1,if_neg c2,if_neg c3n,if_neg c7,if_neg c8];rw[if_pos c4,c6];rfl);rw[hok,Bool.true_and]at hob
       iterate 4
        (try rw[Z0]);(try simp(maxSteps:=9^7)(disch:=first|omega|rfl|assumption)only[↓Yaa,Yab,Nae,Naa,rB,rC,rD,rE,reduceIte,unP,rF,g1,kP,g3,g4,kB,kN,kC,e1,e2,e3,e4,c3,b4,b5,c6,Bool.not_true,Bool.not_false])
       exact⟨p.D.length - (i+1),by omega,i+1,rfl,by rw[Nas hil],rfl,by omega,hob⟩
    ·have b4:((k:Int)==Int.ofNat 4)=false:=(by simp;omega);by_cases c5:d.O=[]
     ·have b5:(d.O==[])=true:=(by rw[c5];rfl);by_cases c7:d.N<0
      ·have c7i:d.N<0:=c7;have hok:d.ok=false:=(by unfold Dc.ok Ngn Ndd;rw[hkk,if_neg c1,if_neg c2,if_neg c3n,if_pos c7];rfl);rw[hok,Bool.false_and]at hob;rw[←hob,Bool.false_and]at hR
       iterate 4
        (try rw[Z0]);(try simp(maxSteps:=9^7)(disch:=first|omega|rfl|assumption)only[↓Yaa,Yab,Nae,Naa,rB,rC,rD,rE,reduceIte,unP,rF,g1,kP,g3,g4,kB,kN,kC,e1,e2,e3,e4,c3,b4,b5,Bool.not_true,Bool.not_false])
       exact⟨nofun,_,rfl,by simp only[Nau,Yad,if_true];rw[←hR]⟩
      by_cases c8:0<d.N
      ·cases c9:Ndl k with
       |false =>
         have hok:d.ok=false:=(by unfold Dc.ok Ngn Ndd;rw[hkk,if_neg c1,if_neg c2,if_neg c3n,if_neg c7,if_pos c8,c9];rfl);rw[hok,Bool.false_and]at hob;rw[←hob,Bool.false_and]at hR
         iterate 4
          (try rw[Z0]);(try simp(maxSteps:=9^7)(disch:=first|omega|rfl|assumption)only[↓Yaa,Yab,Nae,Naa,rB,rC,rD,rE,reduceIte,unP,rF,g1,kP,g3,g4,kB,kN,kC,e1,e2,e3,e4,c3,b4,b5,Bool.not_true,Bool.not_false,c9,Bool.not_false])
         exact⟨nofun,_,rfl,by simp only[Nau,Yad,if_true];rw[←hR]⟩
       |true =>
         have hok:d.ok=true:=(by unfold Dc.ok Ngn Ndd;rw[hkk,if_neg c1,if_neg c2,if_neg c3n,if_neg c7,if_pos c8,c9];rw[if_neg c4,b5];rfl);rw[hok,Bool.true_and]at hob
         iterate 4
          (try rw[Z0]);(try simp(maxSteps:=9^7)(disch:=first|omega|rfl|assumption)only[↓Yaa,Yab,Nae,Naa,rB,rC,rD,rE,reduceIte,unP,rF,g1,kP,g3,g4,kB,kN,kC,e1,e2,e3,e4,c3,b4,b5,Bool.not_true,Bool.not_false,c9,Bool.not_true])
         exact⟨p.D.length - (i+1),by omega,i+1,rfl,by rw[Nas hil],rfl,by omega,hob⟩
      ·have c8i:¬ 0<d.N:=c8;have hok:d.ok=true:=(by unfold Dc.ok Ngn Ndd;rw[hkk,if_neg c1,if_neg c2,if_neg c3n,if_neg c7,if_neg c8];rw[if_neg c4,b5];rfl);rw[hok,Bool.true_and]at hob
       iterate 4
        (try rw[Z0]);(try simp(maxSteps:=9^7)(disch:=first|omega|rfl|assumption)only[↓Yaa,Yab,Nae,Naa,rB,rC,rD,rE,reduceIte,unP,rF,g1,kP,g3,g4,kB,kN,kC,e1,e2,e3,e4,c3,b4,b5,Bool.not_true,Bool.not_false])
       exact⟨p.D.length - (i+1),by omega,i+1,rfl,by rw[Nas hil],rfl,by omega,hob⟩
     ·have b5:(d.O==[])=false:=(by simpa using c5);have hok:d.ok=false:=(by unfold Dc.ok Ngn;rw[hkk,if_neg c4,b5];split<;>rfl);rw[hok,Bool.false_and]at hob;rw[←hob,Bool.false_and]at hR
      iterate 4
       (try rw[Z0]);(try simp(maxSteps:=9^7)(disch:=first|omega|rfl|assumption)only[↓Yaa,Yab,Nae,Naa,rB,rC,rD,rE,reduceIte,unP,rF,g1,kP,g3,g4,kB,kN,kC,e1,e2,e3,e4,c3,b4,b5,Bool.not_true,Bool.not_false])
      exact⟨nofun,_,rfl,by simp only[Nau,Yad,if_true];rw[←hR]⟩
   ·have h0:p.D.drop i=[]:=List.drop_of_length_le Zaa;rw[h0,Dcs.rt]at hob
    iterate 6
     (try rw[Z0]);(try simp(maxSteps:=9^7)(disch:=first|omega|rfl|assumption)only[↓Yaa,Yab,Nae,Naa,rB,rC,rD,rE,reduceIte,unP,rF,g1,kP,g3,lD])
    refine hK1 _ ⟨Zab,?_,?_,hob.symm⟩<;>first|with_reducible rfl|with_reducible assumption|exact kP _|(simp[Yad,g1,g3]<;>omega)|(simp(disch:=omega)only[NaG,NaN,Yaf,kP];first|done|with_reducible rfl|with_reducible assumption)
  ·skip
   refine⟨0,rfl,Zab,?_,?_,?_,Zac,Zac⟩<;>first|with_reducible rfl|with_reducible assumption|exact kP _|(simp[Yad,g1]<;>omega)|(simp(disch:=omega)only[NaG,NaN,Yaf,kP];first|done|with_reducible rfl|with_reducible assumption)
 clear bP g1 kP;rintro⟨env,⟨sto,c⟩⟩ ⟨bP,g1,kP,hK⟩;try simp only at bP g1
 replace kP:∀ n',St.get ⟨sto,n'⟩ P=some (.cells [slV p.zd p.D.length (p.D.flatMap Dc.cs),slV p.zt p.T.length (p.T.flatMap Td.cs)] false):=fun _=>kP;rw[hK,Bool.true_and]at hR;clear hK;refine NaT (fun x=>x.env.get 1=.ptr P 0∧(Tds.rt p.T=true)) ?_ ?_
 ·intro K2 hK2
  iterate 2
   (try rw[Z0]);(try simp(maxSteps:=9^7)(disch:=first|omega|rfl|assumption)only[↓Yaa,Yab,Nae,Naa,rB,rC,rD,rE,reduceIte,unP,rF,g1,kP])
  refine Z9 (k:=p.T.length - 0) (fun m x=>∃ (i:Nat),m=p.T.length - i∧x.env.get 1=.ptr P 0∧x.st.get P=some (.cells [slV p.zd p.D.length (p.D.flatMap Dc.cs),slV p.zt p.T.length (p.T.flatMap Td.cs)] false)∧x.env.get 5=.i .i64 (i:Int)∧(i≤p.T.length)∧(Tds.rt (p.T.drop i)=Tds.rt p.T)) ?_ ?_ Zaa
  ·clear bP g1 kP;rintro m ⟨env,⟨sto,c⟩⟩ ⟨i,rfl,g1,kP,g5,hi,hob⟩;try simp only at g1 g5
   replace kP:∀ n',St.get ⟨sto,n'⟩ P=some (.cells [slV p.zd p.D.length (p.D.flatMap Dc.cs),slV p.zt p.T.length (p.T.flatMap Td.cs)] false):=fun _=>kP;by_cases hil:i<p.T.length
   ·obtain⟨t,he⟩:∃ t,p.T[i]=t:=⟨_,rfl⟩;have hF:=fun st=>Nf4 (st:=st) hil;simp only[he]at hF;have f0:=fun st=>(hF st).1;have f1:=fun st=>(hF st).2;have hsp:=fun z cs=>Nas (z:=z) (cs:=cs) hil;have lT2:Nd7 (.fsl p.T.length (p.T.flatMap Td.cs))=some (.i .i64 (p.T.length:Int)):=rfl;have hsm:=Tds.size_mem (l:=p.T) (t:=t) (he▸List.getElem_mem hil);rw[List.drop_eq_getElem_cons hil,he,Tds.rt]at hob;obtain⟨x,hx⟩:∃ x,Sms.rt t.B=x:=⟨_,rfl⟩;have gS:∀ (st:St) (key:Nat),Nam (Nak cfg (Nay cfg (q+3)) 33) false st key [slV t.z t.B.length (Sms.cs t.B)]=some (.b x,st):=fun st key =>
     NaH (NaR NbI) (Nar hc.r8 NbS (fun _=>rfl) (by
      have:=NkT hc (q+2) t.B t.z { sto:=.leaf,cnt:=1 } Zaa Zaa;rw[hx]at this;exact this)) rfl rfl
    rw[hx]at hob;cases c3:NaJ t.S with
    |false =>
      rw[c3,Bool.false_and,Bool.false_and]at hob;rw[←hob]at hR
      iterate 8
       (try rw[Z0]);(try simp(maxSteps:=9^7)(disch:=first|omega|rfl|assumption)only[↓Yaa,Yab,Nae,Naa,rB,rC,rD,rE,reduceIte,unP,rF,g1,kP,g5,hsp,lT2,lT,hT,f0,f1,kN,c3,Bool.not_false])
      exact⟨nofun,_,rfl,by simp only[Nau,Yad,if_true];rw[←hR]⟩
    |true =>
    rw[c3,Bool.true_and]at hob;cases x with
    |false =>
      rw[Bool.false_and]at hob;rw[←hob]at hR
      iterate 8
       (try rw[Z0]);(try simp(maxSteps:=9^7)(disch:=first|omega|rfl|assumption)only[↓Yaa,Yab,Nae,Naa,rB,rC,rD,rE,reduceIte,unP,rF,g1,kP,g5,hsp,lT2,lT,hT,f0,f1,kN,c3,gS,Bool.not_true,Bool.not_false])
      exact⟨nofun,_,rfl,by simp only[Nau,Yad,if_true];rw[←hR]⟩
    |true =>
      rw[Bool.true_and]at hob
      iterate 8
       (try rw[Z0]);(try simp(maxSteps:=9^7)(disch:=first|omega|rfl|assumption)only[↓Yaa,Yab,Nae,Naa,rB,rC,rD,rE,reduceIte,unP,rF,g1,kP,g5,hsp,lT2,lT,hT,f0,f1,kN,c3,gS,Bool.not_true])
      refine⟨p.T.length - (i+1),by omega,i+1,?_⟩
      repeat' apply And.intro
      all_goals first|rfl|rw[Nas hil]|exact hob|omega
   ·have h0:p.T.drop i=[]:=List.drop_of_length_le Zaa;rw[h0,Tds.rt]at hob
    iterate 6
     (try rw[Z0]);(try simp(maxSteps:=9^7)(disch:=first|omega|rfl|assumption)only[↓Yaa,Yab,Nae,Naa,rB,rC,rD,rE,reduceIte,unP,rF,g1,kP,g5,lT])
    exact hK2 _ ⟨(by first|with_reducible rfl|with_reducible assumption|(simp[Yad,g1,g5]<;>omega)),hob.symm⟩
  ·skip
   refine⟨0,rfl,?_,?_,?_,Zac,Zac⟩<;>first|with_reducible rfl|with_reducible assumption|exact kP _|(simp[Yad,g1]<;>omega)|(simp(disch:=omega)only[NaG,NaN,Yaf,kP];first|done|with_reducible rfl|with_reducible assumption)
 clear bP g1 kP;rintro⟨env,⟨sto,c⟩⟩ ⟨g1,hK⟩;try simp only at g1
 rw[hK]at hR
 iterate 2
  (try rw[Z0]);(try simp(maxSteps:=9^7)(disch:=first|omega|rfl|assumption)only[↓Yaa,Yab,Nae,Naa,rB,rC,rD,rE,reduceIte,unP,rF,g1])
 exact⟨nofun,_,rfl,by simp only[Nau,Yad,if_true];rw[←hR]⟩
end Go.Pe
