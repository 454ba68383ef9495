/-
 Words: numbers by their value; the document's answer as one function: it is the program's. No condition.
-/
import Derived.Test.YtjnofhibldppoaaZWordsS
set_option linter.unusedVariables false
set_option linter.unusedSimpArgs false
namespace Go.Pe
open Go Go.Am Go.RowKit
section
variable {l r:List UInt8}{c:UInt8}
def NaO(c:UInt8):List UInt8→Bool
 |[]=>false
 |b::r=>b==c||NaO c r
def Nbo(l:List UInt8):List UInt8→Bool
 |[]=>true
 |b::r=>NaO b l&&Nbo l r
def Nfn:List UInt8:=[9,10,13,32]
def Nb8:List UInt8:=[48,49,50,51,52,53,54,55,56,57]
def NeX:List UInt8:=[97,98,99,100,101,102,103,104,105,106,107,108,109,110,111,112,113,114,115,116,117,118,119,120,121,122,65,66,67,68,69,70,71,72,73,74,75,76,77,78,79,80,81,82,83,84,85,86,87,88,89,90,95]
def NfL:List UInt8:=[97,98,99,100,101,102,103,104,105,106,107,108,109,110,111,112,113,114,115,116,117,118,119,120,121,122,65,66,67,68,69,70,71,72,73,74,75,76,77,78,79,80,81,82,83,84,85,86,87,88,89,90,95,48,49,50,51,52,53,54,55,56,57]
def NkQ:List UInt8:=[60,43,45,42,40,41,123,125,59]
theorem Ncl{p:UInt8→Bool}(h:((List.range 256).all fun i=>p (UInt8.ofNat i))=true)(c:UInt8):p c=true:=by
 rw[List.all_eq_true]at h;have:=h c.toNat (by have:=c.toNat_lt;simp;omega);simpa using this
theorem Nhi(c:UInt8):NaO c Nfn=Nb0 c:=by
 have:=Ncl (p:=fun c=>NaO c Nfn==Nb0 c) (by decide +kernel) c;simpa using this
theorem Nhj(c:UInt8):NaO c Nb8=decide (cls c=3):=by
 have:=Ncl (p:=fun c=>NaO c Nb8==decide (cls c=3)) (by decide +kernel) c;simpa using this
theorem NcL(c:UInt8):NaO c NeX=decide (cls c=4):=by
 have:=Ncl (p:=fun c=>NaO c NeX==decide (cls c=4)) (by decide +kernel) c;simpa using this
theorem NiL(c:UInt8):NaO c NfL=(decide (cls c=3)||decide (cls c=4)):=by
 have:=Ncl (p:=fun c=>NaO c NfL==(decide (cls c=3)||decide (cls c=4))) (by decide +kernel) c;simpa using this
theorem NiM(c:UInt8):NaO c NkQ=(decide (cls c=5)&&decide (c≠61)):=by
 have:=Ncl (p:=fun c=>NaO c NkQ==(decide (cls c=5)&&decide (c≠61))) (by decide +kernel) c;simpa using this
def Ncs:Bool→List UInt8→Bool
 |_,[]=>true
 |r,c::t=>if c=10 then Ncs false t else if c=35 then Ncs true t else if r then Ncs r t else if NaO c Nfn then Ncs r t else false
theorem NcV:∀ (b:Bool) (d:List UInt8) (j:Nat),j≤d.length→Ncs b (d.take j)=decide (j≤pass b d)
 |b,d,0,_=>by simp[Ncs]
 |b,[],j+1,h=>by simp at h
 |true,c::r,j+1,h=>by
   simp only[List.length_cons]at h;rw[List.take_succ_cons];have i1:=NcV true r j Zaa;have i2:=NcV false r j Zaa;simp only[Ncs,pass];by_cases h1:c=10
   ·simp only[h1,if_true,i2];rw[decide_eq_decide];omega
   ·by_cases h2:c=35
    ·simp only[h1,h2,if_true,if_false,i1];rw[if_neg Zaj,decide_eq_decide,if_neg Zaj];omega
    ·simp only[h1,h2,if_true,if_false,i1];rw[decide_eq_decide];omega
 |false,c::r,j+1,h=>by
   simp only[List.length_cons]at h;rw[List.take_succ_cons];have i1:=NcV true r j Zaa;have i2:=NcV false r j Zaa;simp only[Ncs,pass,Nhi];by_cases h1:c=10
   ·subst h1;simp only[if_true,i2,show Nb0 10=true from rfl];rw[decide_eq_decide];omega
   ·by_cases h2:c=35
    ·subst h2;simp only[if_true,i1,show Nb0 35=false from rfl];rw[if_neg Zaj];simp only[Bool.false_eq_true,if_false];rw[decide_eq_decide];omega
    ·by_cases h3:Nb0 c=true
     ·simp only[h1,h2,h3,if_true,if_false,i2,Bool.false_eq_true];rw[decide_eq_decide];omega
     ·simp[h1,h2,h3]
def keyWs:List (List UInt8):=[[97,99,113,117,105,114,101],[97,100,100],[97,114,114,105,118,101],[98,97,114,114,105,101,114],[98,114,111,97,100,99,97,115,116],[99,111,110,100],[100,111],[100,111,110,101],[101,108,115,101],[105,102],[108,111,99,107],[108,111,99,107,102,111,114],[108,111,111,112],[109,117,116,101,120],[111,110,99,101],[112,117,116],[113,117,101,117,101],[114,101,97,100],[114,101,108,101,97,115,101],[114,108,111,99,107],[114,117,110,108,111,99,107],[114,119,108,111,99,107],[115,101,109],[115,101,116],[115,105,103,110,97,108],[116,97,107,101],[116,104,114,101,97,100],[116,114,121,97,99,113,117,105,114,101],[116,114,121,108,111,99,107],[117,110,108,111,99,107],[118,97,114],[119,97,105,116],[119,97,105,116,102,111,114],[119,97,105,116,111,110],[119,108,111,99,107],[119,114,105,116,101],[119,117,110,108,111,99,107]]
def Njn(s:List UInt8):Bool:=keyWs.any (·==s)
def Ni2:List (List UInt8)→List UInt8
 |[]=>[]
 |w::r=>w++32::Ni2 r
theorem Ni3:keyText=32::Ni2 keyWs:=by kernel_rfl
theorem Niu:∀ (s w rest:List UInt8),32∉s→32∉w→(s++[32]).isPrefixOf (w++32::rest)=(w==s)
 |[],[],rest,_,_=>by simp[List.isPrefixOf]
 |[],c::w,rest,_,h=>by
   have:c≠32:=fun e=>h (by simp[e]);have:(32==c)=false:=(by simpa using fun e=>this e.symm);simp[List.isPrefixOf,this]
 |c::s,[],rest,h,_=>by
   have:c≠32:=fun e=>h (by simp[e]);simp[List.isPrefixOf,this]
 |c::s,d::w,rest,h,h2=>by
   have ih:=Niu s w rest (fun e=>h (List.mem_cons_of_mem _ e)) (fun e=>h2 (List.mem_cons_of_mem _ e));simp only[List.cons_append,List.isPrefixOf,ih];by_cases e:c=d
   ·subst e;simp
   ·have e':¬ d=c:=fun h=>e h.symm;have:(c==d)=false:=(by simpa using e);simp[this,e']
theorem Nih(sub:List UInt8):∀ (w rest:List UInt8),32∉w→Nep (32::sub) (w++rest)=Nep (32::sub) rest
 |[],_,_=>rfl
 |c::w,rest,h=>by
   have hc:(32==c)=false:=by
    have:c≠32:=fun e=>h (by simp[e]);simpa using fun e=>this e.symm
   rw[List.cons_append,Nep];simp only[List.isPrefixOf,hc,Bool.false_and,Bool.false_or];exact Nih sub w rest (fun e=>h (List.mem_cons_of_mem _ e))
theorem Nig(s:List UInt8)(hs:32∉s):∀ ws:List (List UInt8),(∀ w∈ws,32∉w)→Nep (32::s++[32]) (32::Ni2 ws)=ws.any (·==s)
 |[],_=>by
   have:(s++[32]).isPrefixOf ([]:List UInt8)=false:=(by cases s<;>rfl);simp only[Ni2,List.cons_append,Nep,List.isPrefixOf,this];simp
 |w::ws,h=>by
   have hw:=h w List.mem_cons_self;rw[List.cons_append,Nep];simp only[List.isPrefixOf,Ni2,Niu s w (Ni2 ws) hs hw,List.any_cons];rw[Nih _ w _ hw];have:=Nig s hs ws (fun v hv=>h v (List.mem_cons_of_mem _ hv));rw[List.cons_append]at this;rw[this];simp
theorem Npw(s:List UInt8)(h:32∉s):Nep (32::s++[32]) keyText=Njn s:=by
 rw[Ni3];refine Nig s h keyWs ?_;have:(keyWs.all fun w=>!w.contains 32)=true:=by decide
 intro w hw;rw[List.all_eq_true]at this;simpa using this w hw
def kindL(s:List UInt8):Nat :=
 match s with
 |[]=>0
 |c::r=>if Nbo Nb8 s then 1 else if NaO c NeX&&Nbo NfL s then(if Njn s then 3 else 2)else if s==[45,62]||s==[61,61]||(s.length==1&&NaO c NkQ)then 4 else 0
theorem Ngb(first:Nat)(l:List UInt8)(hl:∀ c,NaO c l=decide (cls c=3∨(cls c=4∧first=4))):∀ (t:List UInt8) (j:Nat),j≤t.length→Nbo l (t.take j)=decide (j≤Ncb first t)
 |_,0,_=>by simp[Nbo]
 |[],j+1,h=>by simp at h
 |c::r,j+1,h=>by
   simp only[List.length_cons]at h;rw[List.take_succ_cons];have ih:=Ngb first l hl r j Zaa
   by_cases h3:cls c=3∨(cls c=4∧first=4)
   ·have e:Ncb first (c::r)=1+Ncb first r:=by simp only[Ncb];rw[if_pos h3]
    simp only[Nbo,hl,ih,h3,decide_true,Bool.true_and,e];rw[decide_eq_decide];omega
   ·have e:Ncb first (c::r)=0:=by simp only[Ncb];rw[if_neg h3]
    simp[Nbo,hl,h3,e]
theorem NfD(t:List UInt8)(j:Nat)(h:j≤t.length):Nbo Nb8 (t.take j)=decide (j≤Ncb 3 t) :=
 Ngb 3 Nb8 (fun c=>by rw[Nhj];simp) t j h
theorem NgU(t:List UInt8)(j:Nat)(h:j≤t.length):Nbo NfL (t.take j)=decide (j≤Ncb 4 t) :=
 Ngb 4 NfL (fun c=>by rw[NiL];simp) t j h
theorem NgK{j:Nat}(hj:0<j)(hl:j≤r.length+1):0<kindL ((c::r).take j) ↔
 (cls c=3∧j≤endL (c::r))∨(cls c=4∧j≤endL (c::r))∨(cls c=5∧j=endL (c::r)∧(c::r).take j≠[61])∨(cls c=5∧j=1∧c=45):=by
 obtain⟨m,rfl⟩:∃ m,j=m+1:=⟨j - 1,by omega⟩;have e1:=NfD (c::r) (m+1) (by simpa using hl);have e2:=NgU (c::r) (m+1) (by simpa using hl);rw[List.take_succ_cons]at e1 e2 ⊢;unfold kindL;simp only[e1,e2,NcL,NiM];by_cases h3:cls c=3
 ·have n4:¬ cls c=4:=by omega
  have n5:¬ cls c=5:=by omega
  have q1:¬ ((c::r.take m)=[45,62]):=by
   intro e;injection e with e1 e2;rw[e1]at h3;revert h3;decide
  have q2:¬ ((c::r.take m)=[61,61]):=by
   intro e;injection e with e1 e2;rw[e1]at h3;revert h3;decide
  have hE:endL (c::r)=Ncb 3 (c::r):=by
   simp[endL,Ncb,h3]
  by_cases hm:m+1≤Ncb 3 (c::r)
  ·simp[h3,hE,hm]
  ·have a1:(c::r.take m==[45,62])=false:=(by simpa using q1);have a2:(c::r.take m==[61,61])=false:=(by simpa using q2);simp[h3,hE,hm,a1,a2]
 ·have hr3:Ncb 3 (c::r)=0:=by simp[Ncb,h3]
  have hm0:¬ (m+1≤Ncb 3 (c::r)):=by omega
  by_cases h4:cls c=4
  ·have n5:¬ cls c=5:=(by omega);have q1:¬ ((c::r.take m)=[45,62]):=by
    intro e;injection e with e1 e2;rw[e1]at h4;revert h4;decide
   have q2:¬ ((c::r.take m)=[61,61]):=by
    intro e;injection e with e1 e2;rw[e1]at h4;revert h4;decide
   have hE:endL (c::r)=Ncb 4 (c::r):=by
    simp[endL,Ncb,h4]
   by_cases hm:m+1≤Ncb 4 (c::r)
   ·simp only[h3,h4,hE,hm,hm0,decide_true,decide_false,Bool.and_self,if_true];by_cases hk:Njn (c::r.take m)=true<;>simp[hk]
   ·have a1:(c::r.take m==[45,62])=false:=(by simpa using q1);have a2:(c::r.take m==[61,61])=false:=(by simpa using q2);simp[h4,hE,hm,hm0,a1,a2]
  ·by_cases h5:cls c=5
   ·simp only[h3,h4,hm0,h5,decide_true,decide_false,Bool.false_and,Bool.true_and];have hE:endL (c::r)=if(c::r).take 2=[45,62]∨(c::r).take 2=[61,61]then 2 else 1:=(by simp only[endL];rw[if_pos h5]);cases m with
    |zero =>
      simp only[List.take_zero];have h1:endL (c::r)=1∨endL (c::r)=2:=(by rw[hE];split<;>simp);by_cases h45:c=45
      ·subst h45;simp
      ·by_cases h61:c=61
       ·subst h61;simp
       ·have hE1:endL (c::r)=1:=by
         rw[hE,if_neg];rcases r with _|⟨d,r⟩<;>simp[h45,h61]
        simp[h45,h61,hE1]
    |succ m =>
      cases m with
      |zero =>
        rcases r with _|⟨d,r⟩
        ·simp at hl
        ·simp only[List.take_succ_cons,List.take_zero];by_cases hh:[c,d]=[45,62]∨[c,d]=[61,61]
         ·have hE2:endL (c::d::r)=2:=hE.trans (if_pos hh);rcases hh with hh|hh<;>simp[hh,hE2]
         ·have hE2:endL (c::d::r)=1:=hE.trans (if_neg hh);simp only[not_or]at hh;have a1:([c,d]==[45,62])=false:=(by simpa using hh.1);have a2:([c,d]==[61,61])=false:=(by simpa using hh.2);simp[a1,a2,hE2]
      |succ m =>
        have h1:endL (c::r)=1∨endL (c::r)=2:=(by rw[hE];split<;>simp);rcases r with _|⟨d,_|⟨e,r⟩⟩
        ·simp at hl
        ·simp at hl
        ·simp only[List.take_succ_cons];simp;omega
   ·have q1:¬ ((c::r.take m)=[45,62]):=by
     intro e;injection e with e1 e2;rw[e1]at h5;revert h5;decide
    have q2:¬ ((c::r.take m)=[61,61]):=by
     intro e;injection e with e1 e2;rw[e1]at h5;revert h5;decide
    have a1:(c::r.take m==[45,62])=false:=(by simpa using q1);have a2:(c::r.take m==[61,61])=false:=(by simpa using q2);simp[h3,h4,h5,hm0,a1,a2]
def Nc1:Nat→List UInt8→Nat
 |n,[]=>n
 |n,c::r=>Nc1 (n * 10+(c.toNat - 48)) r
def digs(l:List UInt8):Prop:=∀ c∈l,48≤c.toNat∧c.toNat≤57
theorem Nnp(h:Nbo Nb8 l=true):digs l:=by
 induction l with
 |nil=>intro c hc;simp at hc
 |cons b r ih =>
   simp only[Nbo,Bool.and_eq_true]at h;have hb:48≤b.toNat∧b.toNat≤57:=by
    have:=Ncl (p:=fun c=>!NaO c Nb8||(decide (48≤c.toNat)&&decide (c.toNat≤57))) (by decide +kernel) b;simpa[h.1]using this
   intro c hc;rcases List.mem_cons.1 hc with rfl|hc
   ·exact hb
   ·exact ih h.2 c hc
theorem digs.tail(h:digs (c::r)):digs r:=fun x hx=>h x (List.mem_cons_of_mem _ hx)
theorem digs.head(h:digs (c::r)):48≤c.toNat∧c.toNat≤57:=h c List.mem_cons_self
theorem Ngm(l:List UInt8):∀ n:Nat,n * 10 ^ l.length≤Nc1 n l:=by
 induction l with
 |nil =>
   intro n;rw[List.length_nil,Nat.pow_zero,Nat.mul_one];exact Nat.le_refl _
 |cons c r ih =>
   intro n;have:=ih (n * 10+(c.toNat - 48));have e:n * 10 ^ (c::r).length=n * 10 * 10 ^ r.length:=by
    rw[List.length_cons,Nat.pow_succ,Nat.mul_comm (10 ^ r.length) 10,←Nat.mul_assoc]
   rw[e];have h2:n * 10 * 10 ^ r.length≤(n * 10+(c.toNat - 48)) * 10 ^ r.length:=Nat.mul_le_mul_right _ (Nat.le_add_right _ _);exact Nat.le_trans h2 this
theorem Nfh(l:List UInt8)(n:Nat):n≤Nc1 n l:=by
 have:=Ngm l n;have h2:0<10 ^ l.length:=Nat.pow_pos Zaa;exact Nat.le_trans (Nat.le_mul_of_pos_right _ h2) this
theorem NhO(l:List UInt8):∀ n:Nat,digs l→Nc1 n l<(n+1) * 10 ^ l.length:=by
 induction l with
 |nil =>
   intro n _;rw[List.length_nil,Nat.pow_zero,Nat.mul_one];exact Nat.lt_succ_self _
 |cons c r ih =>
   intro n h;have:=ih (n * 10+(c.toNat - 48)) h.tail;have hc:=h.head;have e:(n+1) * 10 ^ (c::r).length=(n+1) * 10 * 10 ^ r.length:=by
    rw[List.length_cons,Nat.pow_succ,Nat.mul_comm (10 ^ r.length) 10,←Nat.mul_assoc]
   rw[e];have h2:(n * 10+(c.toNat - 48)+1) * 10 ^ r.length≤(n+1) * 10 * 10 ^ r.length:=Nat.mul_le_mul_right _ Zaa;exact Nat.lt_of_lt_of_le this h2
theorem Noa(l:List UInt8):∀ n:Nat,digs l→n≤9223372036854775807→Neh n l=if Nc1 n l≤9223372036854775807 then some (Nc1 n l)else none:=by
 induction l with
 |nil =>
   intro n _ hn;have e1:Neh n []=some n:=rfl;have e2:Nc1 n []=n:=rfl;rw[e1,e2,if_pos hn]
 |cons c r ih =>
   intro n h hn;have hc:=h.head;have e:(c.toNat+208) % 256=c.toNat - 48:=(by omega);have ev:Nc1 n (c::r)=Nc1 (n * 10+(c.toNat - 48)) r:=rfl;have en:Neh n (c::r)=if(9223372036854775807 - (c.toNat+208) % 256) / 10<n then none else Neh (n * 10+(c.toNat+208) % 256) r:=(by rw[Neh]);rw[ev,en,e];have hs:=Nfh r (n * 10+(c.toNat - 48));by_cases hg:(9223372036854775807 - (c.toNat - 48)) / 10<n
   ·rw[if_pos hg];generalize Nc1 (n * 10+(c.toNat - 48)) r=v at *;have:¬ v≤9223372036854775807:=(by omega);rw[if_neg this]
   ·rw[if_neg hg];exact ih _ h.tail Zaa
def NaW:List UInt8→List UInt8
 |[]=>[]
 |[c]=>[c]
 |c::d::r=>if c=48 then NaW (d::r)else c::d::r
theorem Nc0:∀ (l:List UInt8),Nc1 0 (NaW l)=Nc1 0 l
 |[]=>rfl
 |[c]=>rfl
 |c::d::r=>by
   unfold NaW;split
   ·rename_i h;rw[Nc0 (d::r)];subst h;rfl
   ·rfl
theorem Ncv:∀ {l:List UInt8},digs l→digs (NaW l)
 |[],h=>h
 |[c],h=>h
 |c::d::r,h=>by
   unfold NaW;split
   ·exact Ncv h.tail
   ·exact h
theorem Nhb:∀ (l:List UInt8),(NaW l).length≤l.length
 |[]=>Nat.le_refl _
 |[c]=>Nat.le_refl _
 |c::d::r=>by
   unfold NaW;split
   ·have:=Nhb (d::r);simp only[List.length_cons]at this ⊢;omega
   ·exact Nat.le_refl _
theorem NfG:∀ (l:List UInt8),(NaW l).length≤1∨∃ c r,NaW l=c::r∧c≠48
 |[]=>.inl (by simp[NaW])
 |[c]=>.inl (by simp[NaW])
 |c::d::r=>by
   unfold NaW;split
   ·exact NfG (d::r)
   ·rename_i h;exact .inr ⟨c,d::r,rfl,h⟩
theorem Nji(h:digs l)(h2:19<(NaW l).length):9223372036854775807<Nc1 0 l:=by
 rw[←Nc0];have hd:=Ncv h;rcases NfG l with h1|⟨c,r,e,hc⟩
 ·omega
 ·rw[e]at h2 hd ⊢;have hc2:=hd.head;have hc3:c.toNat≠48:=fun e=>hc (UInt8.toNat_inj.1 (by simpa using e));have hg:=Ngm r (0 * 10+(c.toNat - 48));have hrl:19≤r.length:=by simp only[List.length_cons]at h2;omega
  have h4:10 ^ 19≤10 ^ r.length:=Nat.pow_le_pow_right (Nat.le_of_ble_eq_true rfl) hrl;have h6:0<0 * 10+(c.toNat - 48):=by omega
  have h5:10 ^ r.length≤(0 * 10+(c.toNat - 48)) * 10 ^ r.length:=Nat.le_mul_of_pos_left _ h6;have h8:9223372036854775807<10 ^ 19:=Nat.le_of_ble_eq_true rfl;exact Nat.lt_of_lt_of_le h8 (Nat.le_trans h4 (Nat.le_trans h5 hg))
theorem NlV:Op.bytesLess [] []=false:=rfl
theorem Nj5(x y:UInt8)(a b:List UInt8):Op.bytesLess (x::a) (y::b)=(decide (x<y)||(x==y&&Op.bytesLess a b)):=by rw[Op.bytesLess]
theorem NkZ(a:List UInt8):∀ (b:List UInt8) (n:Nat),digs a→digs b→a.length=b.length→((Op.bytesLess a b=true↔Nc1 n a<Nc1 n b)∧(a=b↔Nc1 n a=Nc1 n b)):=by
 induction a with
 |nil =>
   intro b n _ _ h;cases b with
   |nil=>rw[NlV];exact⟨⟨fun q=>by simp at q,fun q=>absurd q (Nat.lt_irrefl _)⟩,⟨fun _=>rfl,fun _=>rfl⟩⟩
   |cons y b=>simp at h
 |cons x a ih =>
   intro b n ha hb h;cases b with
   |nil=>simp at h
   |cons y b =>
     simp only[List.length_cons,Nat.add_right_cancel_iff]at h;have hx:=ha.head;have hy:=hb.head;have l1:=NhO a (n * 10+(x.toNat - 48)) ha.tail;have l2:=NhO b (n * 10+(y.toNat - 48)) hb.tail;have g1:=Ngm a (n * 10+(x.toNat - 48));have g2:=Ngm b (n * 10+(y.toNat - 48));rw[h]at l1 g1;have ex:Nc1 n (x::a)=Nc1 (n * 10+(x.toNat - 48)) a:=rfl;have ey:Nc1 n (y::b)=Nc1 (n * 10+(y.toNat - 48)) b:=rfl;rw[Nj5,ex,ey];by_cases e:x=y
     ·subst e;obtain⟨i1,i2⟩:=ih b (n * 10+(x.toNat - 48)) ha.tail hb.tail h;have hxx:decide (x<x)=false:=(by simp);rw[hxx,Bool.false_or,beq_self_eq_true,Bool.true_and];exact⟨i1,⟨fun q=>i2.1 (List.cons.inj q).2,fun q=>by rw[i2.2 q]⟩⟩
     ·have e':x.toNat≠y.toNat:=fun h=>e (UInt8.toNat_inj.1 h);have exy:(x==y)=false:=(by simpa using e);rw[exy,Bool.false_and,Bool.or_false];have hne:¬ (x::a=y::b):=fun q=>e (List.cons.inj q).1;rcases Nat.lt_or_gt_of_ne e' with hl|hl
      ·have h3:(n * 10+(x.toNat - 48)+1) * 10 ^ b.length≤(n * 10+(y.toNat - 48)) * 10 ^ b.length:=Nat.mul_le_mul_right _ Zaa;have hxy:x<y:=UInt8.lt_iff_toNat_lt.2 hl;have hv:=Nat.lt_of_lt_of_le l1 (Nat.le_trans h3 g2);exact⟨⟨fun _=>hv,fun _=>by simpa using hxy⟩,⟨fun q=>absurd q hne,fun q=>absurd q (Nat.ne_of_lt hv)⟩⟩
      ·have h3:(n * 10+(y.toNat - 48)+1) * 10 ^ b.length≤(n * 10+(x.toNat - 48)) * 10 ^ b.length:=Nat.mul_le_mul_right _ Zaa;have hxy:¬ x<y:=fun q=>by have:=UInt8.lt_iff_toNat_lt.1 q;omega
       have hv:=Nat.lt_of_lt_of_le l2 (Nat.le_trans h3 g1);exact⟨⟨fun q=>absurd (by simpa using q) hxy,fun q=>absurd q (Nat.lt_asymm hv)⟩,⟨fun q=>absurd q hne,fun q=>absurd q.symm (Nat.ne_of_lt hv)⟩⟩
def mostT:List UInt8:=[57,50,50,51,51,55,50,48,51,54,56,53,52,55,55,53,56,48,55]
theorem Nkf:digs mostT:=by
 intro c hc;have:(mostT.all fun c=>decide (48≤c.toNat)&&decide (c.toNat≤57))=true:=by decide
 rw[List.all_eq_true]at this;simpa using this c hc
theorem NlZ:Nc1 0 mostT=9223372036854775807:=by decide
theorem Njj(h:digs l)(h2:(NaW l).length=19):(!(Op.bytesLess (NaW l) mostT||NaW l==mostT))=decide (9223372036854775807<Nc1 0 l):=by
 obtain⟨i1,i2⟩:=NkZ (NaW l) mostT 0 (Ncv h) Nkf (by rw[h2];rfl);rw[Nc0,NlZ]at i1 i2;by_cases h3:Op.bytesLess (NaW l) mostT=true
 ·have:=i1.1 h3;rw[h3];simp;omega
 ·by_cases h4:NaW l=mostT
  ·have:=i2.1 h4;simp[h4];omega
  ·have:(NaW l==mostT)=false:=(by simpa using h4);have h5:Op.bytesLess (NaW l) mostT=false:=(by simpa using h3);rw[h5,this];have n1:¬ Nc1 0 l<9223372036854775807:=fun q=>h3 (i1.2 q);have n2:¬ Nc1 0 l=9223372036854775807:=fun q=>h4 (i2.2 q);simp;omega
theorem NhM(h:digs l)(h2:(NaW l).length<19):Nc1 0 l≤9223372036854775807:=by
 rw[←Nc0];have h3:=NhO (NaW l) 0 (Ncv h);have h4:10 ^ (NaW l).length≤10 ^ 18:=Nat.pow_le_pow_right (Nat.le_of_ble_eq_true rfl) Zaa;have h8:10 ^ 18≤9223372036854775807:=Nat.le_of_ble_eq_true rfl;rw[Nat.zero_add,Nat.one_mul]at h3;exact Nat.le_trans (Nat.le_of_lt h3) (Nat.le_trans h4 h8)
def Njm(t:List UInt8):Nat:=if 0<kindL (t.take (endL t))then endL t else 0
def eF(t:List UInt8):Nat→Nat
 |0=>0
 |j+1=>if 0<j∧0<kindL (t.take j)then j else eF t j
theorem NjM(t:List UInt8):∀ j,(eF t j=0∨(0<kindL (t.take (eF t j))∧0<eF t j))∧(j=0∨eF t j<j)∧∀ i,eF t j<i→i<j→¬ (0<kindL (t.take i))
 |0=>⟨.inl rfl,.inl rfl,fun i _ h=>by omega⟩
 |j+1=>by
   obtain⟨h1,h2,h3⟩:=NjM t j;unfold eF;split
   ·rename_i h;exact⟨.inr ⟨h.2,h.1⟩,.inr Zaa,fun i a b=>by omega⟩
   ·rename_i h;have h4:j+1=0∨eF t j<j+1:=by
     rcases h2 with rfl|h2
     ·right;simp[eF]
     ·right;omega
    refine⟨h1,h4,fun i a b=>?_⟩;by_cases e:i=j
    ·subst e;intro q;exact h ⟨by omega,q⟩
    ·exact h3 i a Zaa
theorem NmE{t:List UInt8}(ht:t≠[]){j:Nat}(hj:1≤j)(hjl:j≤t.length+1)(hx:t.length<j∨(2<j∧¬ 0<kindL (t.take j))):eF t j=Njm t:=by
 obtain⟨c,r,rfl⟩:=List.exists_cons_of_ne_nil ht;have hE:=NeI (c::r);have hE1:=Nh3 ht;obtain⟨h1,h2,h3⟩:=NjM (c::r) j;simp only[List.length_cons]at hE hjl hx;have kt:=fun i (a:0<i) (b:i≤r.length+1)=>NgK (c:=c) (r:=r) (j:=i) a b;have kE:=kt (endL (c::r)) hE1 hE;have h5:cls c=5→endL (c::r)≤2:=by
  intro h;simp only[endL];rw[if_pos h];split<;>omega
 unfold Njm;by_cases hp:0<kindL ((c::r).take (endL (c::r)))
 ·rw[if_pos hp];have hlt:endL (c::r)<j:=by
   rcases hx with hx|⟨hx,hn⟩
   ·omega
   ·by_cases hjj:j≤r.length+1
    ·have:=kt j Zaa hjj;rw[this]at hn;rcases kE.1 hp with q|q|q|q
     ·omega
     ·omega
     ·have:=h5 q.1;omega
     ·have:=h5 q.1;omega
    ·omega
  have hge:¬ eF (c::r) j<endL (c::r):=fun q=>h3 _ q hlt hp;rcases h1 with h1|⟨h1,h10⟩
  ·omega
  ·have hlej:eF (c::r) j<j:=(by omega);rcases(kt _ h10 Zaa).1 h1 with q|q|q|q
   ·omega
   ·omega
   ·omega
   ·omega
 ·rw[if_neg hp];rcases h1 with h1|⟨h1,h10⟩
  ·exact h1
  ·exfalso;have hlej:eF (c::r) j<j:=(by omega);rcases(kt _ h10 Zaa).1 h1 with q|q|q|q
   ·exact hp (kE.2 (.inl ⟨q.1,Nat.le_refl _⟩))
   ·exact hp (kE.2 (.inr (.inl ⟨q.1,Nat.le_refl _⟩)))
   ·rw[q.2.1]at h1;exact hp h1
   ·refine hp (kE.2 (.inr (.inr (.inl ⟨q.1,rfl,?_⟩))));rw[q.2.2];obtain⟨m,hm⟩:∃ m,endL (c::r)=m+1:=⟨endL (c::r) - 1,by omega⟩;rw[←q.2.2,hm,List.take_succ_cons,q.2.2];simp
def Noq(text:List UInt8)(at0:Nat):PV :=
 let a:=at0+pass false (text.drop at0)
 let line:Int:=Nb1 text a
 if a=text.length then Nck 5 [] 0 line a a else
 let s:=(text.drop a).take (Njm (text.drop a))
 let e:Nat:=a+Njm (text.drop a)
 if kindL s=0 then Nbm 100 line
 else if kindL s=1 then match Neh 0 s with
  |some n=>Nck 1 [] n line a e
  |none=>Nbm 100 line
 else Nck (kindL s) s 0 line a e
theorem NdH:∀ (l:List UInt8),Nbo NfL l=true→32∉l
 |[],_=>by simp
 |c::r,h=>by
   simp only[Nbo,Bool.and_eq_true]at h;have:=NdH r h.2;have hc:c≠32:=by
    intro e;rw[e]at h;exact absurd h.1 Zaj
   simp[this,Ne.symm hc]
theorem Nos{text:List UInt8}{at0:Nat}(h:at0≤text.length):Noq text at0=Ndh text at0:=by
 rw[Nin h];have hp:=Nch false (text.drop at0);have hl:(text.drop at0).length=text.length - at0:=List.length_drop;unfold Noq Nf7;simp only[];by_cases he:at0+pass false (text.drop at0)=text.length
 ·have he':pass false (text.drop at0)=(text.drop at0).length:=by omega
  rw[if_pos he,if_pos he'];simp[NkA]
 ·have he':¬ pass false (text.drop at0)=(text.drop at0).length:=by omega
  rw[if_neg he,if_neg he'];have e1:(text.drop at0).drop (pass false (text.drop at0))=text.drop (at0+pass false (text.drop at0)):=by rw[List.drop_drop]
  rw[e1];have hne:text.drop (at0+pass false (text.drop at0))≠[]:=by
   intro q;have:=congrArg List.length q;simp only[List.length_drop,List.length_nil]at this;omega
  generalize at0+pass false (text.drop at0)=a at *;generalize Nb1 text a=line;obtain⟨c,r,hcr⟩:=List.exists_cons_of_ne_nil hne;rw[hcr];have hE:=NeI (c::r);have hE1:=Nh3 (l:=c::r) Zaf;have kE:=NgK (c:=c) (r:=r) hE1 (by simpa using hE);have o1:=NfD (c::r) _ hE;have o2:=NgU (c::r) _ hE;obtain⟨m,hm⟩:∃ m,endL (c::r)=m+1:=⟨endL (c::r) - 1,by omega⟩;unfold Np1 Njm;have g0:(c::r).getD 0 0=c:=rfl;simp only[g0];by_cases h3:cls c=3
  ·have hk:0<kindL ((c::r).take (endL (c::r))):=kE.2 (.inl ⟨h3,Nat.le_refl _⟩);have hr:endL (c::r)=Ncb 3 (c::r):=(by simp[endL,Ncb,h3]);have k1:kindL ((c::r).take (endL (c::r)))=1:=by
    have o1':Nbo Nb8 ((c::r).take (endL (c::r)))=true:=(by rw[o1,hr];simp);rw[hm]at o1' ⊢;rw[List.take_succ_cons]at o1' ⊢;unfold kindL;simp only[o1',if_true]
   rw[if_pos hk,k1];simp only[h3,if_true];cases Neh 0 ((c::r).take (endL (c::r)))<;>simp[NkA]
  ·by_cases h4:cls c=4
   ·have hk:0<kindL ((c::r).take (endL (c::r))):=kE.2 (.inr (.inl ⟨h4,Nat.le_refl _⟩));have hr:endL (c::r)=Ncb 4 (c::r):=(by simp[endL,Ncb,h4]);have hr3:Ncb 3 (c::r)=0:=(by simp[Ncb,h4]);have o2':Nbo NfL ((c::r).take (endL (c::r)))=true:=(by rw[o2,hr];simp);have o1':Nbo Nb8 ((c::r).take (endL (c::r)))=false:=(by rw[o1,hr3];simp;omega);have hnb:=NdH _ o2';have k1:kindL ((c::r).take (endL (c::r)))=if Njn ((c::r).take (endL (c::r)))then 3 else 2:=by
     rw[hm]at o1' o2' ⊢;rw[List.take_succ_cons]at o1' o2' ⊢;unfold kindL;simp[o1',o2',NcL,h4]
    rw[if_pos hk,Npw _ hnb,k1];simp only[h3,h4,if_false,if_true];cases Njn ((c::r).take (endL (c::r)))<;>simp[NkA]
   ·by_cases h5:cls c=5∧(c::r).take (endL (c::r))≠[61]
    ·have hk:0<kindL ((c::r).take (endL (c::r))):=kE.2 (.inr (.inr (.inl ⟨h5.1,rfl,h5.2⟩)));have hr3:Ncb 3 (c::r)=0:=(by simp[Ncb,h3]);have o1':Nbo Nb8 ((c::r).take (endL (c::r)))=false:=(by rw[o1,hr3];simp;omega);have k1:kindL ((c::r).take (endL (c::r)))=4:=by
      rw[hm]at o1' hk ⊢;rw[List.take_succ_cons]at o1' hk ⊢
      revert hk
      unfold kindL;simp only[o1',NcL,h4,decide_false,Bool.false_and,Bool.false_eq_true,if_false];split<;>simp
     rw[if_pos hk,k1];simp only[h3,h4,if_false];rw[if_pos h5];simp[NkA]
    ·have hk:¬ 0<kindL ((c::r).take (endL (c::r))):=by
      intro q;rcases kE.1 q with q|q|q|q
      ·exact h3 q.1
      ·exact h4 q.1
      ·exact h5 ⟨q.1,q.2.2⟩
      ·refine h5 ⟨q.1,?_⟩;rw[hm,List.take_succ_cons,q.2.2];simp
     rw[if_neg hk];simp only[h3,h4,if_false,h5,List.take_zero,kindL,if_true];simp[NkA]
end
end Go.Pe
