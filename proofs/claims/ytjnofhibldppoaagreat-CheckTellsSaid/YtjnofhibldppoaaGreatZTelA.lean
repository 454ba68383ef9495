/-
 CheckTells, plain law: the document's check, without early ends, answers as the checker's own. No condition; nothing of the program.
-/
import Derived.Test.YtjnofhibldppoaaGreatZChkMf
import Derived.Test.YtjnofhibldppoaaGreatZRigP
set_option linter.unusedVariables false
set_option linter.unusedSimpArgs false
namespace Go.Pe
open Go Go.Am Go.RowKit
def fI(b:Int×Int)(e r:Int):Int×Int:=if b.1=0 then(e,r)else b
theorem Nb1{b:Int×Int}(h:b.1≠0)(e r:Int):fI b e r=b:=if_neg h
theorem Nrw{b:Int×Int}{e r:Int}(h:e≠0):(fI b e r).1≠0:=by
 unfold fI;split
 ·exact h
 ·assumption
def rk1(es:List (List UInt8×Nat))(s:Sm)(b:Int×Int):Int×Int:=if Nhp es s=0 then b else fI b (Nhp es s) s.R
def rk2(ls:List (List UInt8))(s:Sm)(b:Int×Int):Int×Int:=if Exs.told (NbN · ls) s.A=true then b else fI b 110 s.R
def rkL(i:List UInt8)(ls:List (List UInt8)):List (List UInt8):=if i=[]then ls else if NbN i ls=true then ls else ls++[i]
def rk3(ls:List (List UInt8))(s:Sm)(b:Int×Int):Int×Int:=if s.I=[]then b else if NbN s.I ls=true then b else if 20≤ls.length then fI b 102 s.R else b
def rk4(s:Sm)(b:Int×Int):Int×Int:=if s.K.toNat=3∧1000<s.N then fI b 113 s.R else b
def rkI(es:List (List UInt8×Nat))(s:Sm)(w:(Int×Int)×List (List UInt8)):(Int×Int)×List (List UInt8) :=
 (rk4 s (rk3 w.2 s (rk2 w.2 s (rk1 es s w.1))),rkL s.I w.2)
mutual
def Sm.rk(es:List (List UInt8×Nat)):Sm→(Int×Int)×List (List UInt8)→(Int×Int)×List (List UInt8)
 |.mk k o j i n za a zb b ze e r,w=>Sms.rk es e (Sms.rk es b (rkI es (.mk k o j i n za a zb b ze e r) w))
def Sms.rk(es:List (List UInt8×Nat)):List Sm→(Int×Int)×List (List UInt8)→(Int×Int)×List (List UInt8)
 |[],w=>w
 |s::t,w=>Sms.rk es t (s.rk es w)
end
theorem Sm.rk_eq(es:List (List UInt8×Nat))(s:Sm)(w:(Int×Int)×List (List UInt8)):s.rk es w=Sms.rk es s.E (Sms.rk es s.B (rkI es s w)):=by
 cases s;rw[Sm.rk];rfl
theorem NmO{es:List (List UInt8×Nat)}{s:Sm}{w:(Int×Int)×List (List UInt8)}(h:w.1.1≠0):(rkI es s w).1=w.1:=by
 have h1:rk1 es s w.1=w.1:=by unfold rk1;split;rfl;exact Nb1 h _ _
 have h2:rk2 w.2 s w.1=w.1:=by unfold rk2;split;rfl;exact Nb1 h _ _
 have h3:rk3 w.2 s w.1=w.1:=by
  unfold rk3;split
  ·rfl
  split
  ·rfl
  split
  ·exact Nb1 h _ _
  ·rfl
 have h4:rk4 s w.1=w.1:=by unfold rk4;split;exact Nb1 h _ _;rfl
 show rk4 s (rk3 w.2 s (rk2 w.2 s (rk1 es s w.1)))=w.1;rw[h1,h2,h3,h4]
mutual
theorem Sm.rk_keep(es:List (List UInt8×Nat)):∀ (s:Sm) (w:(Int×Int)×List (List UInt8)),w.1.1≠0→(s.rk es w).1=w.1
 |.mk k o j i n za a zb b ze e r,w,h=>by
   rw[Sm.rk];have h1:=NmO (es:=es) (s:=.mk k o j i n za a zb b ze e r) h;have h2:=Sms.rk_keep es b (rkI es (.mk k o j i n za a zb b ze e r) w) (by rw[h1];exact h);have h3:=Sms.rk_keep es e (Sms.rk es b (rkI es (.mk k o j i n za a zb b ze e r) w)) (by rw[h2,h1];exact h);rw[h3,h2,h1]
theorem Sms.rk_keep(es:List (List UInt8×Nat)):∀ (l:List Sm) (w:(Int×Int)×List (List UInt8)),w.1.1≠0→(Sms.rk es l w).1=w.1
 |[],w,h=>by rw[Sms.rk]
 |s::t,w,h=>by
   rw[Sms.rk];have h1:=Sm.rk_keep es s w h;rw[Sms.rk_keep es t _ (by rw[h1];exact h),h1]
end
theorem putL_has{s:List UInt8}:∀ {ls:List (List UInt8)},NbN s ls=true→NhR s ls=ls
 |[],h=>by rw[NbN]at h;cases h
 |t::r,h=>by
   rw[NbN]at h;rw[NhR];by_cases h1:(s==t)=true
   ·rw[if_pos h1,beq_iff_eq.1 h1]
   ·rw[if_neg h1]at h ⊢;rw[putL_has h]
theorem putL_new{s:List UInt8}:∀ {ls:List (List UInt8)},NbN s ls=false→NhR s ls=ls++[s]
 |[],h=>by rw[NhR];rfl
 |t::r,h=>by
   rw[NbN]at h;rw[NhR];by_cases h1:(s==t)=true
   ·rw[if_pos h1]at h;cases h
   ·rw[if_neg h1]at h ⊢;rw[putL_new h,List.cons_append]
theorem Nqp(i:List UInt8)(ls:List (List UInt8)):rkL i ls=lsP i ls:=by
 unfold rkL lsP;split
 ·rfl
 split
 ·rename_i h;rw[putL_has h]
 ·rename_i h;rw[putL_new (by simpa using h)]
theorem NmP{es:List (List UInt8×Nat)}{s:Sm}{ls:List (List UInt8)}(hl:ls.length≤20) :
 ((NbZ es ls s).1=0→rkI es s ((0,0),ls)=((0,0),(NbZ es ls s).2)∧(NbZ es ls s).2.length≤20)∧((NbZ es ls s).1≠0→(rkI es s ((0,0),ls)).1=((NbZ es ls s).1,s.R)):=by
 have hz:∀ e r:Int,fI (0,0) e r=(e,r):=fun e r=>if_pos rfl;have q3:∀ b:Int×Int,b.1≠0→rk3 ls s b=b:=fun b h=>by
  unfold rk3;split
  ·rfl
  split
  ·rfl
  split
  ·exact Nb1 h _ _
  ·rfl
 have q4:∀ b:Int×Int,b.1≠0→rk4 s b=b:=fun b h=>by unfold rk4;split;exact Nb1 h _ _;rfl
 have q2:∀ b:Int×Int,b.1≠0→rk2 ls s b=b:=fun b h=>by unfold rk2;split;rfl;exact Nb1 h _ _
 have hL:=Nqp s.I ls;have hln:(20<(lsP s.I ls).length)↔(s.I≠[]∧NbN s.I ls≠true∧20≤ls.length):=by
  rw[←hL];unfold rkL;constructor
  ·intro h;split at h
   ·omega
   split at h
   ·omega
   ·rename_i h1 h2;rw[List.length_append]at h;exact⟨h1,h2,by simp only[List.length_cons,List.length_nil]at h;omega⟩
  ·rintro⟨h1,h2,h3⟩;rw[if_neg h1,if_neg h2,List.length_append];simp only[List.length_cons,List.length_nil];omega
 unfold rkI;simp only;unfold NbZ;by_cases h1:Nhp es s=0
 ·have e1:rk1 es s (0,0)=(0,0):=by unfold rk1;rw[if_pos h1]
  rw[if_pos h1,e1];by_cases h2:Exs.told (NbN · ls) s.A=true
  ·have e2:rk2 ls s (0,0)=(0,0):=(by unfold rk2;rw[if_pos h2]);rw[if_pos h2,e2];by_cases h3:20<(lsP s.I ls).length
   ·have e3:rk3 ls s (0,0)=(102,s.R):=by
     obtain⟨a1,a2,a3⟩:=hln.1 h3;unfold rk3;rw[if_neg a1,if_neg a2,if_pos a3,hz]
    have e5:NlO s (lsP s.I ls)=102:=(by unfold NlO;rw[if_pos h3]);simp only[e5,e3];exact⟨fun h=>absurd h Zaj,fun _=>q4 _ (show(102:Int)≠0 by decide)⟩
   ·have e3:rk3 ls s (0,0)=(0,0):=by
     unfold rk3;split
     ·rfl
     split
     ·rfl
     split
     ·rename_i a1 a2 a3;exact absurd (hln.2 ⟨a1,a2,a3⟩) h3
     ·rfl
    have e5:NlO s (lsP s.I ls)=if s.K.toNat=3∧1000<s.N then 113 else 0:=(by unfold NlO;rw[if_neg h3]);simp only[e5,e3];unfold rk4;split
    ·exact⟨fun h=>by omega,fun _=>hz _ _⟩
    ·exact⟨fun _=>⟨by rw[hL],by omega⟩,fun h=>absurd rfl h⟩
  ·have e2:rk2 ls s (0,0)=(110,s.R):=(by unfold rk2;rw[if_neg h2,hz]);rw[if_neg h2,e2];exact⟨fun h=>absurd (show(110:Int)=0 from h) Zaj,fun _=>by rw[q3 _ (show(110:Int)≠0 by decide),q4 _ (show(110:Int)≠0 by decide)]⟩
 ·have e1:rk1 es s (0,0)=(Nhp es s,s.R):=by unfold rk1;rw[if_neg h1,hz]
  rw[if_neg h1,e1];exact⟨fun h=>absurd h h1,fun _=>by rw[q2 _ (show((Nhp es s,s.R):Int×Int).1≠0 from h1),q3 _ (show((Nhp es s,s.R):Int×Int).1≠0 from h1),q4 _ (show((Nhp es s,s.R):Int×Int).1≠0 from h1)]⟩
mutual
theorem Sm.rk_chk(es:List (List UInt8×Nat)):∀ (s:Sm) (ls:List (List UInt8)),ls.length≤20 →
 ((s.chk es ls).1.1=0→s.rk es ((0,0),ls)=((0,0),(s.chk es ls).2)∧(s.chk es ls).2.length≤20)∧((s.chk es ls).1.1≠0→(s.rk es ((0,0),ls)).1=(s.chk es ls).1)
 |.mk k o j i n za a zb b ze e r,ls,hl=>by
   obtain⟨h1,h2⟩:=NmP (es:=es) (s:=.mk k o j i n za a zb b ze e r) hl;rw[Sm.rk,Sm.chk];obtain⟨X,hX⟩:∃ X,NbZ es ls (.mk k o j i n za a zb b ze e r)=X:=⟨_,rfl⟩;rw[hX]at h1 h2 ⊢;by_cases h0:X.1=0
   ·obtain⟨h3,h4⟩:=h1 h0;rw[if_pos h0,h3];obtain⟨b1,b2⟩:=Sms.rk_chk es b X.2 h4;by_cases hb:(Sms.chk es b X.2).1.1=0
    ·obtain⟨b3,b4⟩:=b1 hb;rw[if_pos hb,b3];exact Sms.rk_chk es e _ b4
    ·rw[if_neg hb];refine⟨fun h=>absurd h hb,fun _=>?_⟩;have:=b2 hb;rw[Sms.rk_keep es e _ (by rw[this];exact hb),this]
   ·rw[if_neg h0];refine⟨fun h=>absurd h h0,fun _=>?_⟩;have:=h2 h0;have k1:=Sms.rk_keep es b _ (show(rkI es (.mk k o j i n za a zb b ze e r) ((0,0),ls)).1.1≠0 by rw[this];exact h0);rw[Sms.rk_keep es e _ (by rw[k1,this];exact h0),k1,this];rfl
theorem Sms.rk_chk(es:List (List UInt8×Nat)):∀ (l:List Sm) (ls:List (List UInt8)),ls.length≤20 →
 ((Sms.chk es l ls).1.1=0→Sms.rk es l ((0,0),ls)=((0,0),(Sms.chk es l ls).2)∧(Sms.chk es l ls).2.length≤20)∧((Sms.chk es l ls).1.1≠0→(Sms.rk es l ((0,0),ls)).1=(Sms.chk es l ls).1)
 |[],ls,hl=>by
   rw[Sms.rk,Sms.chk];exact⟨fun _=>⟨rfl,hl⟩,fun h=>absurd rfl h⟩
 |s::t,ls,hl=>by
   rw[Sms.rk,Sms.chk];obtain⟨b1,b2⟩:=Sm.rk_chk es s ls hl;by_cases hb:(s.chk es ls).1.1=0
   ·obtain⟨b3,b4⟩:=b1 hb;rw[if_pos hb,b3];exact Sms.rk_chk es t _ b4
   ·rw[if_neg hb];refine⟨fun h=>absurd h hb,fun _=>?_⟩;have:=b2 hb;rw[Sms.rk_keep es t _ (by rw[this];exact hb),this]
end
def lgS(k o:Nat)(n q1 q2 t:Int):Int :=
 if k=3∧1000<n then 1000000000
 else if k=3 then mnI (t+2+mnI (n * mnI (3+q1) 1000000000) 1000000000) 1000000000
 else if k=4 then mnI (t+2+q1+q2) 1000000000
 else if k=1∧o=16 then mnI (t+3+q1) 1000000000
 else mnI (t+1) 1000000000
mutual
def Sm.lg:Sm→Int→Int
 |.mk k o j i n za a zb b ze e r,t=>lgS k.toNat o.toNat n (Sms.lg b 0) (Sms.lg e 0) t
def Sms.lg:List Sm→Int→Int
 |[],t=>t
 |s::r,t=>Sms.lg r (Sm.lg s t)
end
theorem Sm.lg_eq(s:Sm)(t:Int):s.lg t=lgS s.K.toNat s.O.toNat s.N (Sms.lg s.B 0) (Sms.lg s.E 0) t:=by
 cases s;rw[Sm.lg];rfl
mutual
def Sm.cnt:Sm→Bool
 |.mk k o j i n za a zb b ze e r=>!(decide (k.toNat=3∧1000<n))&&(Sms.cnt b&&Sms.cnt e)
def Sms.cnt:List Sm→Bool
 |[]=>true
 |s::r=>s.cnt&&Sms.cnt r
end
mutual
theorem Sm.chk_cnt(es:List (List UInt8×Nat)):∀ (s:Sm) (ls:List (List UInt8)),(s.chk es ls).1.1=0→s.cnt=true
 |.mk k o j i n za a zb b ze e r,ls,h=>by
   rw[Sm.chk]at h;rw[Sm.cnt];split at h
   ·rename_i h1;split at h
    ·rename_i h2;have hb:=Sms.chk_cnt es b _ h2;have he:=Sms.chk_cnt es e _ h;rw[hb,he];have hn:¬(k.toNat=3∧1000<n):=by
      intro hk;unfold NbZ at h1;split at h1
      ·split at h1
       ·simp only at h1;unfold NlO at h1;split at h1
        ·cases h1
        ·have hk':(Sm.mk k o j i n za a zb b ze e r).K.toNat=3∧1000<(Sm.mk k o j i n za a zb b ze e r).N:=hk;rw[if_pos hk']at h1;cases h1
       ·cases h1
      ·rename_i h3;exact h3 h1
     rw[decide_eq_false hn];rfl
    ·rename_i h2;exact absurd h h2
   ·rename_i h1;exact absurd h h1
theorem Sms.chk_cnt(es:List (List UInt8×Nat)):∀ (l:List Sm) (ls:List (List UInt8)),(Sms.chk es l ls).1.1=0→Sms.cnt l=true
 |[],ls,h=>by rw[Sms.cnt]
 |s::t,ls,h=>by
   rw[Sms.chk]at h;rw[Sms.cnt];split at h
   ·rename_i h1;rw[Sm.chk_cnt es s _ h1,Sms.chk_cnt es t _ h];rfl
   ·rename_i h1;exact absurd h h1
end
section
variable {a t:Int}{s:Sm}
theorem Nnk(h:0≤a):0≤mnI a 1000000000∧mnI a 1000000000≤1000000000:=by unfold mnI;split<;>omega
theorem Np9(h:a≤1000000000):mnI a 1000000000=a:=by unfold mnI;rw[if_neg Zaa]
theorem NhI(h:1000000000≤a):mnI a 1000000000=1000000000:=by unfold mnI;split<;>omega
theorem Nqa{n:Int}(hn:0≤n)(ha:0≤a)(ht:0≤t):mnI (t+mnI (n * mnI a 1000000000) 1000000000) 1000000000=mnI (t+n * a) 1000000000:=by
 by_cases h0:n=0
 ·subst h0;rw[Int.zero_mul,Int.zero_mul];rfl
 by_cases h1:a≤1000000000
 ·rw[Np9 h1];have hp:=Int.mul_nonneg hn ha;by_cases h2:n * a≤1000000000
  ·rw[Np9 h2]
  ·rw[NhI (a:=n * a) Zaa,NhI Zaa,NhI Zaa]
 ·rw[NhI (a:=a) Zaa];have h3:n * 1000000000≥1000000000:=by omega
  have h4:n * a≥n * 1000000000:=Int.mul_le_mul_of_nonneg_left Zaa hn;rw[NhI (a:=n * 1000000000) h3,NhI Zaa,NhI Zaa]
theorem Np5{k o:Nat}{n q1 q2:Int}(hn:k=3→0≤n)(h1:0≤q1)(h2:0≤q2)(ht:0≤t):0≤lgS k o n q1 q2 t∧lgS k o n q1 q2 t≤1000000000:=by
 unfold lgS;split
 ·omega
 split
 ·rename_i hk;have h3:=(Nnk (a:=3+q1) Zaa).1;have h4:=(Nnk (Int.mul_nonneg (hn hk) h3)).1;exact Nnk Zaa
 split
 ·exact Nnk Zaa
 split
 ·exact Nnk Zaa
 ·exact Nnk Zaa
theorem Ngq(h:s.sh=true):(s.K.toNat=3→0≤s.N∧s.E=[])∧(s.K.toNat=1→1≤s.O.toNat∧s.O.toNat≤23∧s.E=[])∧(s.K.toNat=2→s.O.toNat=0):=by
 unfold Sm.sh Nbk at h;refine⟨fun hk=>?_,fun hk=>?_,fun hk=>?_⟩
 ·rw[if_neg Zaa,if_neg Zaa]at h;split at h
  ·cases h
  split at h
  ·cases h
  split at h
  ·cases h
  exact⟨by omega,List.eq_nil_of_length_eq_zero (by simpa using h)⟩
 ·rw[if_pos hk]at h;split at h
  ·cases h
  ·rename_i hd;unfold doT at hd;split at hd
   ·exact absurd rfl hd
   split at hd
   ·exact absurd rfl hd
   split at hd
   ·exact absurd rfl hd
   split at hd
   ·exact absurd rfl hd
   split at hd
   ·exact absurd rfl hd
   split at hd
   ·exact absurd rfl hd
   ·exact⟨by omega,by omega,List.eq_nil_of_length_eq_zero Zaa⟩
 ·rw[if_neg Zaa,if_pos hk]at h;unfold Nfh at h;split at h
  ·cases h
  ·omega
theorem No7(h:s.rt=true):s.sh=true∧Sms.rt s.B=true∧Sms.rt s.E=true∧Exs.rt s.A=true:=by
 rw[Sm.rt_eq]at h;simp only[Bool.and_eq_true]at h;exact⟨h.1.1,h.1.2.1,h.1.2.2,h.2⟩
theorem NoC{q1 q2:Int}(hsh:s.sh=true)(hc:¬(s.K.toNat=3∧1000<s.N))(h1:0≤q1∧q1≤1000000000)(h2:0≤q2∧q2≤1000000000)(he:s.E=[]→q2=0)(ht:0≤t∧t≤1000000000) :
 mnI (No8 s.K.toNat s.O.toNat s.N (IntKind.i64.wrap (q1+q2)) t) 1000000000=lgS s.K.toNat s.O.toNat s.N q1 q2 t:=by
 obtain⟨f3,f1,f2⟩:=Ngq hsh;rw[NaG (q1+q2) ⟨by omega,by omega⟩];unfold No8 lgS;rw[if_neg hc];by_cases hk:s.K.toNat=3
 ·obtain⟨hn,hE⟩:=f3 hk;have hn2:s.N≤1000:=by
   rcases Int.lt_or_le 1000 s.N with h|h
   ·exact absurd ⟨hk,h⟩ hc
   ·exact h
  have hm:mnI s.N 1001=s.N:=by unfold mnI;rw[if_neg Zaa]
  have hp1:0≤s.N * (3+q1):=Int.mul_nonneg hn Zaa;have hp2:s.N * (3+q1)≤1000 * 1000000003:=Int.mul_le_mul hn2 Zaa Zaa Zaa;rw[if_pos hk,if_pos hk,he hE,Int.add_zero,hm,NaG (3+q1) ⟨by omega,by omega⟩,NaG (s.N * (3+q1)) ⟨by omega,by omega⟩,NaG (2+s.N * (3+q1)) ⟨by omega,by omega⟩,NaG (t+(2+s.N * (3+q1))) ⟨by omega,by omega⟩,Nqa hn Zaa Zaa];rw[←Int.add_assoc]
 ·rw[if_neg hk,if_neg hk];by_cases hk4:s.K.toNat=4
  ·rw[if_pos hk4,if_pos hk4,NaG (2+(q1+q2)) ⟨by omega,by omega⟩,NaG (t+(2+(q1+q2))) ⟨by omega,by omega⟩];rw[show t+(2+(q1+q2))=t+2+q1+q2 by omega]
  ·rw[if_neg hk4,if_neg hk4];by_cases ho:s.O.toNat=16
   ·have hk1:s.K.toNat=1:=by
     by_cases hk2:s.K.toNat=2
     ·have:=f2 hk2;omega
     ·unfold Sm.sh Nbk at hsh;by_cases hk1:s.K.toNat=1
      ·exact hk1
      ·rw[if_neg hk1,if_neg hk2]at hsh;split at hsh
       ·cases hsh
       first|cases hsh|(rw[if_neg hk,if_neg hk4]at hsh;cases hsh)
    rw[if_pos ho,if_pos ⟨hk1,ho⟩,he (f1 hk1).2.2,Int.add_zero,NaG (3+q1) ⟨by omega,by omega⟩,NaG (t+(3+q1)) ⟨by omega,by omega⟩];rw[show t+(3+q1)=t+3+q1 by omega]
   ·rw[if_neg ho,if_neg (fun h=>ho h.2),NaG (t+1) ⟨by omega,by omega⟩]
end
mutual
theorem Sm.lg_run:∀ (s:Sm) (t:Int),s.rt=true→0≤t→t≤1000000000→(0≤s.lg t∧s.lg t≤1000000000)∧(s.cnt=true→s.runT t=s.lg t)
 |.mk k o j i n za a zb b ze e r,t,h,h0,h9=>by
   obtain⟨hsh,hb,he,-⟩:=No7 h;obtain⟨b1,b2⟩:=Sms.lg_run b 0 hb Zaa Zaa;obtain⟨e1,e2⟩:=Sms.lg_run e 0 he Zaa Zaa;rw[Sm.lg,Sm.cnt,Sm.runT];refine⟨Np5 (fun hk=>((Ngq hsh).1 hk).1) b1.1 e1.1 h0,fun hc=>?_⟩;simp only[Bool.and_eq_true]at hc;obtain⟨c1,c2,c3⟩:=hc;rw[b2 c2,e2 c3];exact NoC (s:=.mk k o j i n za a zb b ze e r) hsh (show ¬(k.toNat=3∧1000<n)from fun h=>by rw[decide_eq_true h]at c1;cases c1) b1 e1 (fun hE=>by have hE':e=[]:=hE;rw[hE',Sms.lg]) ⟨h0,h9⟩
theorem Sms.lg_run:∀ (l:List Sm) (t:Int),Sms.rt l=true→0≤t→t≤1000000000→(0≤Sms.lg l t∧Sms.lg l t≤1000000000)∧(Sms.cnt l=true→Sms.runT l t=Sms.lg l t)
 |[],t,h,h0,h9=>by
   rw[Sms.lg,Sms.runT];exact⟨⟨h0,h9⟩,fun _=>rfl⟩
 |s::r,t,h,h0,h9=>by
   rw[Sms.rt,Bool.and_eq_true]at h;obtain⟨b1,b2⟩:=Sm.lg_run s t h.1 h0 h9;obtain⟨e1,e2⟩:=Sms.lg_run r (s.lg t) h.2 b1.1 b1.2;rw[Sms.lg,Sms.runT,Sms.cnt];refine⟨e1,fun hc=>?_⟩;rw[Bool.and_eq_true]at hc;rw[b2 hc.1,e2 hc.2]
end
def esD(D:List Dc):List (List UInt8×Nat):=D.map fun d=>(d.S,d.K.toNat)
def kn2(d:Dc)(es:List (List UInt8×Nat)):Int :=
 if d.K.toNat=5 then Nfq 16 d.N else if d.K.toNat=4 then NbK d.O 1 es else if d.K.toNat=3 then Nfq 1048576 d.N else if d.K.toNat=8 then Nfq 1048576 d.N else 0
def Ndo(d:Dc)(es:List (List UInt8×Nat))(b:Int×Int):Int×Int:=if(getN d.S es).isSome=true then fI b 112 d.R else b
def Nby(d:Dc)(es:List (List UInt8×Nat))(b:Int×Int):Int×Int:=if kn2 d es=0 then b else fI b (kn2 d es) d.R
def Neo:List Dc→List (List UInt8×Nat)→Int×Int→Int×Int
 |[],_,b=>b
 |d::r,es,b=>Neo r (es++[(d.S,d.K.toNat)]) (Nby d es (Ndo d es b))
def NdP(t:Td)(seen:List (List UInt8))(b:Int×Int):Int×Int:=if NbN t.S seen=true then fI b 112 t.R else b
def Nfk(t:Td)(b:Int×Int):Int×Int:=if 15000<Sms.lg t.B 0 then fI b 113 t.R else b
def Nfs(es:List (List UInt8×Nat)):List Td→List (List UInt8)→Int×Int→Int×Int
 |[],_,b=>b
 |t::r,seen,b=>Nfs es r (seen++[t.S]) (Nfk t (Sms.rk es t.B (NdP t seen b,[])).1)
def Npg(p:Pg):Int×Int:=if Njs p=true then Nfs (esD p.D) p.T [] (Neo p.D [] (0,0))else(103,0)
theorem Njk{d:Dc}{es:List (List UInt8×Nat)}{b:Int×Int}(h:b.1≠0):Ndo d es b=b:=by unfold Ndo;split;exact Nb1 h _ _;rfl
theorem NfK{d:Dc}{es:List (List UInt8×Nat)}{b:Int×Int}(h:b.1≠0):Nby d es b=b:=by unfold Nby;split;rfl;exact Nb1 h _ _
theorem Njy{t:Td}{seen:List (List UInt8)}{b:Int×Int}(h:b.1≠0):NdP t seen b=b:=by unfold NdP;split;exact Nb1 h _ _;rfl
theorem Nd6{t:Td}{b:Int×Int}(h:b.1≠0):Nfk t b=b:=by unfold Nfk;split;exact Nb1 h _ _;rfl
theorem Nd1:∀ (D:List Dc) (es:List (List UInt8×Nat)) (b:Int×Int),b.1≠0→Neo D es b=b
 |[],_,b,h=>rfl
 |d::r,es,b,h=>by
   rw[Neo,Njk h,NfK h];exact Nd1 r _ b h
theorem NcD(es:List (List UInt8×Nat)):∀ (T:List Td) (seen:List (List UInt8)) (b:Int×Int),b.1≠0→Nfs es T seen b=b
 |[],_,b,h=>rfl
 |t::r,seen,b,h=>by
   rw[Nfs,Njy h];have h1:=Sms.rk_keep es t.B (b,[]) h;rw[h1,Nd6 h];exact NcD es r _ b h
theorem NiI{s:List UInt8}{k:Nat}:∀ {es:List (List UInt8×Nat)},getN s es=none→putN s k es=es++[(s,k)]
 |[],h=>by rw[putN];rfl
 |(t,j)::r,h=>by
   rw[getN]at h;rw[putN];by_cases h1:(s==t)=true
   ·rw[if_pos h1]at h;cases h
   ·rw[if_neg h1]at h ⊢;rw[NiI h,List.cons_append]
theorem Nkf(d:Dc)(es:List (List UInt8×Nat)):NfE d.K.toNat d.S d.N d.O es=if(getN d.S es).isSome=true then 112 else kn2 d es:=rfl
theorem NiB:∀ (D:List Dc) (es:List (List UInt8×Nat)),
 ((NdB D es).1.1=0→Neo D es (0,0)=(0,0)∧(NdB D es).2=es++esD D)∧((NdB D es).1.1≠0→Neo D es (0,0)=(NdB D es).1)
 |[],es=>by
   rw[NdB,Neo];exact⟨fun _=>⟨rfl,by simp[esD]⟩,fun h=>absurd rfl h⟩
 |d::r,es=>by
   rw[NdB,Neo];have hz:∀ e r:Int,fI (0,0) e r=(e,r):=fun e r=>if_pos rfl;have hk:=Nkf d es;by_cases h1:(getN d.S es).isSome=true
   ·rw[if_pos h1]at hk;have e1:Ndo d es (0,0)=(112,d.R):=(by unfold Ndo;rw[if_pos h1,hz]);rw[hk,if_neg Zaj,e1,NfK (show(112:Int)≠0 by decide),Nd1 _ _ _ (show(112:Int)≠0 by decide)];exact⟨fun h=>absurd (show(112:Int)=0 from h) Zaj,fun _=>rfl⟩
   ·rw[if_neg h1]at hk;have e1:Ndo d es (0,0)=(0,0):=(by unfold Ndo;rw[if_neg h1]);rw[hk,e1];by_cases h2:kn2 d es=0
    ·have e2:Nby d es (0,0)=(0,0):=(by unfold Nby;rw[if_pos h2]);have h3:getN d.S es=none:=by
      cases h:getN d.S es with
      |none=>rfl
      |some x=>rw[h]at h1;exact absurd rfl h1
     rw[if_pos h2,e2,NiI h3];obtain⟨i1,i2⟩:=NiB r (es++[(d.S,d.K.toNat)]);refine⟨fun h=>?_,i2⟩;obtain⟨i3,i4⟩:=i1 h;refine⟨i3,?_⟩;rw[i4,List.append_assoc];rfl
    ·have e2:Nby d es (0,0)=(kn2 d es,d.R):=(by unfold Nby;rw[if_neg h2,hz]);rw[if_neg h2,e2,Nd1 _ _ _ (show((kn2 d es,d.R):Int×Int).1≠0 from h2)];exact⟨fun h=>absurd h h2,fun _=>rfl⟩
theorem NiS(es:List (List UInt8×Nat)):∀ (T:List Td) (seen:List (List UInt8)),Tds.rt T=true→Nfs es T seen (0,0)=Nfl es T seen
 |[],seen,_=>rfl
 |t::r,seen,hrt=>by
   rw[Nfs,Nfl];have hz:∀ e r:Int,fI (0,0) e r=(e,r):=fun e r=>if_pos rfl;have hB:Sms.rt t.B=true∧Tds.rt r=true:=by
    rw[Tds.rt]at hrt;simp only[Bool.and_eq_true]at hrt
    first|exact⟨hrt.1.2,hrt.2⟩|exact⟨hrt.2.1,hrt.2.2⟩
   by_cases h1:NbN t.S seen=true
   ·have e1:NdP t seen (0,0)=(112,t.R):=(by unfold NdP;rw[if_pos h1,hz]);rw[if_pos h1,e1,Sms.rk_keep es t.B ((112,t.R),[]) (show(112:Int)≠0 by decide),Nd6 (show(112:Int)≠0 by decide),NcD _ _ _ _ (show(112:Int)≠0 by decide)]
   ·have e1:NdP t seen (0,0)=(0,0):=(by unfold NdP;rw[if_neg h1]);rw[if_neg h1,e1];obtain⟨c1,c2⟩:=Sms.rk_chk es t.B [] Zaf;by_cases h2:(Sms.chk es t.B []).1.1=0
    ·obtain⟨c3,-⟩:=c1 h2;obtain⟨l1,l2⟩:=Sms.lg_run t.B 0 hB.1 Zaa Zaa;rw[if_pos h2,c3,l2 (Sms.chk_cnt es t.B [] h2)];by_cases h3:15000<Sms.lg t.B 0
     ·have e3:Nfk t (0,0)=(113,t.R):=(by unfold Nfk;rw[if_pos h3,hz]);rw[if_pos h3,e3,NcD _ _ _ _ (show(113:Int)≠0 by decide)]
     ·have e3:Nfk t (0,0)=(0,0):=(by unfold Nfk;rw[if_neg h3]);rw[if_neg h3,e3,putL_new (by simpa using h1)];exact NiS es r _ hB.2
    ·rw[if_neg h2,c2 h2,Nd6 h2,NcD _ _ _ _ h2]
theorem No2(p:Pg):Npg p=Ndq p:=by
 unfold Npg Ndq;rw[Nhc];by_cases h:Ncl p=true
 ·rw[if_pos h,if_pos h];have hr:Njs p=true:=by rw[Nhc];exact h
  unfold Njs at hr;simp only[Bool.and_eq_true]at hr;obtain⟨o1,o2⟩:=NiB p.D [];by_cases h2:(NdB p.D []).1.1=0
  ·obtain⟨o3,o4⟩:=o1 h2;rw[if_pos h2,o3,o4,List.nil_append];exact NiS _ _ _ hr.2.2
  ·rw[if_neg h2,o2 h2,NcD _ _ _ _ h2]
 ·rw[if_neg h,if_neg h]
end Go.Pe
