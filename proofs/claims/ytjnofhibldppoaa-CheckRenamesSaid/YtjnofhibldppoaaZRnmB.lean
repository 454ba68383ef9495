/-
 CheckRenames, plain law: with something behind all names of objects a program is checked alike. No condition; nothing of the program.
-/
import Derived.Test.YtjnofhibldppoaaZWordsS
import Derived.Test.YtjnofhibldppoaaZChkP
import Derived.Test.YtjnofhibldppoaaZCpyC
import Derived.Test.YtjnofhibldppoaaZChkMf
import Derived.Test.YtjnofhibldppoaaZRigP
set_option linter.unusedVariables false
set_option linter.unusedSimpArgs false
namespace Go.Pe
open Go Go.Am Go.RowKit
section
variable {s:List UInt8}
theorem Nif{sub:List UInt8}:∀ {l:List UInt8},Nep sub l=true→∀ c∈sub,c∈l
 |[],h,c,hc=>by
   rw[Nep,List.isEmpty_iff]at h;subst h;cases hc
 |b::l,h,c,hc=>by
   rw[Nep,Bool.or_eq_true]at h;rcases h with h|h
   ·exact(List.isPrefixOf_iff_prefix.1 h).subset hc
   ·exact List.mem_cons_of_mem _ (Nif h c hc)
def NcH(m:List UInt8):Prop:=m=[95]∨m=[48]∨m=[120,57]
theorem NkN{m:List UInt8}(hm:Ncb 4 m=m.length):∀ r:List UInt8,Ncb 4 r=r.length→Ncb 4 (r++m)=(r++m).length
 |[],_=>by simpa using hm
 |c::r,h=>by
   rw[Ncb,List.length_cons]at h;split at h
   ·rename_i hc;rw[List.cons_append,Ncb,if_pos hc,NkN hm r Zaa,List.length_cons];omega
   ·omega
theorem Nnb{n:Nat}(h:n≤16384)(a:Nat):IntKind.i64.wrap (((a+n:Nat):Int) - (a:Int))=(n:Int):=by
 rw[show((a+n:Nat):Int) - (a:Int)=(n:Int) by omega];rw[IntKind.wrap_i64];omega
theorem Nkg(h:s.length≤16384):NaJ s=match Nf7 s with
 |some (k,_,_,l)=>(k==2&&(IntKind.i64.wrap (((pass false s+l:Nat):Int) - (pass false s:Int))==(s.length:Int)))
 |none=>false:=by
 unfold NaJ gNext;simp only;rw[if_neg Zaa,if_neg Zaa,show((0:Nat):Int).toNat=0 from rfl,Nin (Nat.zero_le _),List.drop_zero,Nat.zero_add];cases Nf7 s with
 |none=>rfl
 |some x =>
   obtain⟨k,t,n,l⟩:=x;simp[NkA,Nck]
theorem Nkh(h:NaJ s=true):s.length≤16384:=by
 apply Decidable.byContradiction;intro hl;unfold NaJ gNext at h;simp only at h;rw[if_pos Zaa]at h;simp[Nbm]at h
theorem NfB(h:NaJ s=true):∃ c r,s=c::r∧cls c=4∧pass false s=0∧Ncb 4 r=r.length:=by
 have hl:=Nkh h;rw[Nkg hl]at h;cases hn:Nf7 s with
 |none=>rw[hn]at h;cases h
 |some x =>
   obtain⟨k,t,n,l⟩:=x;rw[hn]at h;simp only[Bool.and_eq_true,beq_iff_eq]at h;obtain⟨rfl,h2⟩:=h;unfold Nf7 at hn;split at hn
   ·cases hn
   rename_i hp;have ple:=Nch false s;have el:=NeI (s.drop (pass false s));rw[List.length_drop]at el;unfold Np1 at hn;simp only at hn;split at hn
   ·split at hn
    ·cases hn
    ·cases hn
   split at hn
   ·rename_i h3 h4;simp only[Sj,Pj]at hn;obtain⟨-,-,-,rfl⟩:=hn;rw[Nnb Zaa]at h2;have hp0:pass false s=0:=(by omega);rw[hp0,List.drop_zero]at h2 h4;cases s with
    |nil=>simp[pass]at hp
    |cons c r =>
      have hc:cls c=4:=h4;refine⟨c,r,rfl,hc,hp0,?_⟩;have he:endL (c::r)=1+Ncb 4 r:=by
       show(if cls c=5 then _ else 1+Ncb (cls c) r)=_;rw[if_neg Zaa,hc]
      rw[he,List.length_cons]at h2;omega
   ·split at hn
    ·simp at hn
    ·cases hn
theorem Ne5{m:List UInt8}(h:NaJ s=true)(hl:s.length≤1000)(hm:NcH m):NaJ (s++m)=true:=by
 obtain⟨c,r,rfl,hc,hp,hr⟩:=NfB h;have hm1:Ncb 4 m=m.length∧m.length≤2∧∃ d∈m,d∉keyText:=by
  rcases hm with rfl|rfl|rfl
  ·exact⟨by decide,by decide,95,by decide,by decide⟩
  ·exact⟨by decide,by decide,48,by decide,by decide⟩
  ·exact⟨by decide,by decide,57,by decide,by decide⟩
 obtain⟨hm1,hm2,d,hd,hdk⟩:=hm1;have hr2:=NkN hm1 r hr;have hp2:pass false (c::(r++m))=0:=by
  unfold pass at hp ⊢;split at hp
  ·omega
  split at hp
  ·omega
  ·rename_i a b;rw[if_neg a,if_neg b]
 rw[List.cons_append];rw[List.length_cons]at hl;have hlen:(c::(r++m)).length≤16384:=by rw[List.length_cons,List.length_append];omega
 have he:endL (c::(r++m))=(c::(r++m)).length:=by
  show(if cls c=5 then _ else 1+Ncb (cls c) (r++m))=_;rw[if_neg Zaa,hc,hr2,List.length_cons];omega
 have hk:Nep (32::(c::(r++m))++[32]) keyText=false:=by
  cases hh:Nep (32::(c::(r++m))++[32]) keyText with
  |false=>rfl
  |true=>exact absurd (Nif hh d (by simp[hd])) hdk
 have hn:Nf7 (c::(r++m))=some (2,c::(r++m),0,(c::(r++m)).length):=by
  unfold Nf7;rw[hp2,if_neg Zaf,List.drop_zero];unfold Np1;have hg:(c::(r++m)).getD 0 0=c:=rfl;simp only[hg,hc,he,List.take_length,hk];rw[if_neg Zaa,if_pos trivial];rfl
 rw[Nkg hlen,hn,hp2];simp only[Bool.and_eq_true,beq_iff_eq];refine⟨trivial,?_⟩;have:=Nnb hlen 0;simpa using this
theorem Ex.cp_L1(e:Ex):e.cp.L=Exs.cp e.L:=by cases e;rw[Ex.cp];rfl
end
mutual
theorem Ex.cp_told(g:List UInt8→Bool):∀ e:Ex,e.cp.told g=e.told g
 |.mk k s n z l=>by
   rw[Ex.cp,Ex.told,Ex.told,Exs.cp_told g l]
theorem Exs.cp_told(g:List UInt8→Bool):∀ l:List Ex,Exs.told g (Exs.cp l)=Exs.told g l
 |[]=>by rw[Exs.cp]
 |e::r=>by
   rw[Exs.cp,Exs.told,Exs.told,Ex.cp_told g e,Exs.cp_told g r]
end
def NiJ(m s:List UInt8):List UInt8:=if s=[]then []else s++m
mutual
def Sm.rn(m:List UInt8):Sm→Sm
 |.mk k o j i n za a zb b ze e r=>.mk k o (NiJ m j) i n true (Exs.cp a) true (Sms.rn m b) true (Sms.rn m e) r
def Sms.rn(m:List UInt8):List Sm→List Sm
 |[]=>[]
 |s::r=>s.rn m::Sms.rn m r
end
def Dc.rn(m:List UInt8)(d:Dc):Dc:=⟨d.K,d.S++m,d.N,NiJ m d.O,d.R⟩
def Td.rn(m:List UInt8)(t:Td):Td:=⟨t.S,true,Sms.rn m t.B,t.R⟩
theorem Sms.rn_len(m:List UInt8):∀ l:List Sm,(Sms.rn m l).length=l.length
 |[]=>by rw[Sms.rn]
 |s::r=>by rw[Sms.rn,List.length_cons,List.length_cons,Sms.rn_len m r]
theorem NdP{m s:List UInt8}(h:s≠[]):NiJ m s=s++m:=if_neg h
theorem Nek(m:List UInt8):NiJ m []=[]:=if_pos rfl
theorem NdF{s:List UInt8}(h:NaJ s=true):s≠[]:=by
 obtain⟨c,r,rfl,-⟩:=NfB h;simp
mutual
theorem Ex.cp_rt:∀ e:Ex,e.cp.rt=e.rt
 |.mk k s n z l=>by rw[Ex.cp,Ex.rt,Ex.rt,Exs.cp_rt l,Exs.cp_len]
theorem Exs.cp_rt:∀ l:List Ex,Exs.rt (Exs.cp l)=Exs.rt l
 |[]=>by rw[Exs.cp]
 |e::r=>by rw[Exs.cp,Exs.rt,Exs.rt,Ex.cp_rt e,Exs.cp_rt r]
end
mutual
def Sm.sj:Sm→Prop
 |.mk k o j i n za a zb b ze e r=>j.length≤1000∧Sms.sj b∧Sms.sj e
def Sms.sj:List Sm→Prop
 |[]=>True
 |s::r=>s.sj∧Sms.sj r
end
theorem Nh1{o:Nat}{j:List UInt8}{n:Int}{a b e:Nat}(h:NaJ j=false):doT o j n a b e=true:=by
 unfold doT;split
 ·rfl
 split
 ·rfl
 ·first|rfl|rw[if_pos h]
theorem Ng6{m:List UInt8}(hm:NcH m){k o:Nat}{j i:List UInt8}{n:Int}{a b e:Nat}(hj:j.length≤1000)(h:Na0 k o j i n a b e=true):Na0 k o (NiJ m j) i n a b e=true∧(k=1→j≠[]):=by
 by_cases h0:j=[]
 ·subst h0;rw[Nek];refine⟨h,fun hk=>?_⟩;subst hk;unfold Na0 at h;rw[if_pos rfl]at h;have hn:NaJ []=false:=by
   cases hh:NaJ []with
   |false=>rfl
   |true=>exact absurd rfl (NdF hh)
  rw[Nh1 hn,if_pos rfl]at h;cases h
 ·refine⟨?_,fun _=>h0⟩;rw[NdP h0];unfold Na0 at h ⊢;by_cases hk:k=1
  ·rw[if_pos hk]at h ⊢;split at h
   ·cases h
   ·rename_i hd;have hj1:NaJ j=true:=by
     cases hh:NaJ j with
     |true=>rfl
     |false=>exact absurd (Nh1 hh) hd
    have hj2:=Ne5 hj1 hj hm;have he:doT o (j++m) n a b e=doT o j n a b e:=(by unfold doT;rw[hj1,hj2]);rw[he,if_neg hd];exact h
  ·rw[if_neg hk]at h;exfalso;by_cases hk2:k=2
   ·rw[if_pos hk2]at h;unfold Nfe at h;split at h
    ·cases h
    first|cases h|(rw[if_pos h0]at h;cases h)
   ·rw[if_neg hk2]at h;have hr:Nby o j i=true:=by
     unfold Nby;split
     ·rfl
     ·first|rfl|rw[if_pos h0]
    rw[hr,if_pos rfl]at h;cases h
mutual
theorem Sm.rn_rt{m:List UInt8}(hm:NcH m):∀ s:Sm,s.sj→s.rt=true→(s.rn m).rt=true
 |.mk k o j i n za a zb b ze e r,hj,h=>by
   rw[Sm.sj]at hj;rw[Sm.rt]at h;simp only[Bool.and_eq_true]at h;rw[Sm.rn,Sm.rt,Exs.cp_len,Sms.rn_len,Sms.rn_len,Exs.cp_rt];simp only[Bool.and_eq_true];exact⟨⟨(Ng6 hm hj.1 h.1.1).1,Sms.rn_rt hm b hj.2.1 h.1.2.1,Sms.rn_rt hm e hj.2.2 h.1.2.2⟩,h.2⟩
theorem Sms.rn_rt{m:List UInt8}(hm:NcH m):∀ l:List Sm,Sms.sj l→Sms.rt l=true→Sms.rt (Sms.rn m l)=true
 |[],_,_=>by rw[Sms.rn,Sms.rt]
 |s::r,hj,h=>by
   rw[Sms.sj]at hj;rw[Sms.rt,Bool.and_eq_true]at h;rw[Sms.rn,Sms.rt,Sm.rn_rt hm s hj.1 h.1,Sms.rn_rt hm r hj.2 h.2];rfl
end
theorem Nm0{f:List Ex→Nat×Nat}(h:∀ l,f (Exs.cp l)=f l):∀ (l:List Ex) (w:Nat×Nat),Exs.szW f (Exs.cp l) w=Exs.szW f l w
 |[],w=>by rw[Exs.cp]
 |e::r,w=>by rw[Exs.cp,Exs.szW,Exs.szW,Ex.cp_L1,h,Nm0 h r]
theorem NpY:∀ (v:Nat) (l:List Ex),Exs.sz v (Exs.cp l)=Exs.sz v l
 |0,l=>by rw[Exs.sz,Exs.sz]
 |v+1,l=>by rw[Exs.sz,Exs.sz,Exs.cp_len,Nm0 (NpY v)]
theorem Sm.rn_A(m:List UInt8)(s:Sm):(s.rn m).A=Exs.cp s.A∧(s.rn m).B=Sms.rn m s.B∧(s.rn m).E=Sms.rn m s.E:=by
 cases s;rw[Sm.rn];exact⟨rfl,rfl,rfl⟩
theorem NkW{m:List UInt8}{v:Nat}{f:List Sm→Nat×Nat}(h:∀ l,f (Sms.rn m l)=f l):∀ (l:List Sm) (w:Nat×Nat),Sms.szW v f (Sms.rn m l) w=Sms.szW v f l w
 |[],w=>by rw[Sms.rn]
 |s::r,w=>by
   obtain⟨h1,h2,h3⟩:=Sm.rn_A m s;rw[Sms.rn,Sms.szW,Sms.szW,h1,h2,h3,NpY,h,h,NkW h r]
theorem Nm5(m:List UInt8):∀ (v:Nat) (l:List Sm),Sms.sz v (Sms.rn m l)=Sms.sz v l
 |0,l=>by rw[Sms.sz,Sms.sz]
 |v+1,l=>by rw[Sms.sz,Sms.sz,Sms.rn_len,NkW (Nm5 m v)]
theorem Npo(m:List UInt8):∀ (T:List Td) (n:Nat),Tds.ft (T.map (Td.rn m)) n=Tds.ft T n
 |[],n=>rfl
 |t::r,n=>by
   rw[List.map_cons,Tds.ft,Tds.ft];have h:(Td.rn m t).B=Sms.rn m t.B:=rfl;rw[h,Nm5,Npo m r]
theorem Tds.rn_rt{m:List UInt8}(hm:NcH m):∀ T:List Td,(∀ t∈T,Sms.sj t.B)→Tds.rt T=true→Tds.rt (T.map (Td.rn m))=true
 |[],_,_=>rfl
 |t::r,hj,h=>by
   rw[Tds.rt]at h;simp only[Bool.and_eq_true]at h;rw[List.map_cons,Tds.rt];simp only[Bool.and_eq_true];exact⟨⟨h.1.1,Sms.rn_rt hm t.B (hj t List.mem_cons_self) h.1.2⟩,Tds.rn_rt hm r (fun u hu=>hj u (List.mem_cons_of_mem _ hu)) h.2⟩
theorem Dc.rn_ok{m:List UInt8}(hm:NcH m){d:Dc}(h1:d.S.length≤1000)(h2:d.O.length≤1000)(h:d.ok=true):(d.rn m).ok=true∧(d.K.toNat=4→d.O≠[])∧d.S≠[]:=by
 unfold Dc.ok Ngn at h ⊢;have hS:NaJ d.S=true:=by
  cases hh:NaJ d.S with
  |true=>rfl
  |false =>
    have:Ndd d.K.toNat d.S d.N=true:=by
     unfold Ndd;split
     ·rfl
     split
     ·rfl
     ·first|rfl|rw[if_pos hh]
    rw[this,if_pos rfl]at h;cases h
 have he:Ndd d.K.toNat (d.S++m) d.N=Ndd d.K.toNat d.S d.N:=by
  unfold Ndd;rw[hS,Ne5 hS h1 hm]
 show(if Ndd d.K.toNat (d.S++m) d.N=true then false else if d.K.toNat=4 then NaJ (NiJ m d.O)else NiJ m d.O==[])=true∧_;rw[he];split at h
 ·cases h
 rename_i ho;rw[if_neg ho];by_cases h4:d.K.toNat=4
 ·rw[if_pos h4]at h ⊢;refine⟨?_,fun _=>NdF h,NdF hS⟩;rw[NdP (NdF h)];exact Ne5 h h2 hm
 ·rw[if_neg h4]at h ⊢;refine⟨?_,fun h5=>absurd h5 h4,NdF hS⟩;have:d.O=[]:=by simpa using h
  rw[this,Nek];rfl
theorem Dcs.rn_rt{m:List UInt8}(hm:NcH m):∀ D:List Dc,(∀ d∈D,d.S.length≤1000∧d.O.length≤1000)→Dcs.rt D=true→Dcs.rt (D.map (Dc.rn m))=true∧∀ d∈D,(d.K.toNat=4→d.O≠[])∧d.S≠[]
 |[],_,_=>⟨rfl,fun d hd=>by cases hd⟩
 |d::r,hj,h=>by
   rw[Dcs.rt,Bool.and_eq_true]at h;obtain⟨a1,a2⟩:=hj d List.mem_cons_self;obtain⟨b1,b2,b3⟩:=Dc.rn_ok hm a1 a2 h.1;obtain⟨c1,c2⟩:=Dcs.rn_rt hm r (fun u hu=>hj u (List.mem_cons_of_mem _ hu)) h.2;rw[List.map_cons,Dcs.rt,b1,c1];refine⟨rfl,fun u hu=>?_⟩;rcases List.mem_cons.1 hu with rfl|hu
   ·exact⟨b2,b3⟩
   ·exact c2 u hu
def esA(m:List UInt8)(es:List (List UInt8×Nat)):List (List UInt8×Nat):=es.map fun p=>(p.1++m,p.2)
theorem Nju(s t m:List UInt8):((s++m)==(t++m))=(s==t):=by
 cases h:s==t with
 |true=>rw[beq_iff_eq.1 h];simp
 |false =>
   have:s≠t:=(by simpa using h);simp[this]
theorem Nf0(s m:List UInt8):∀ es,getN (s++m) (esA m es)=getN s es
 |[]=>rfl
 |(t,k)::r=>by
   show getN (s++m) ((t++m,k)::esA m r)=_;rw[getN,getN,Nju,Nf0 s m r]
theorem Niv(s m:List UInt8)(k:Nat):∀ es,putN (s++m) k (esA m es)=esA m (putN s k es)
 |[]=>rfl
 |(t,j)::r=>by
   show putN (s++m) k ((t++m,j)::esA m r)=_;rw[putN,putN,Nju,Niv s m k r];split<;>rfl
theorem NgP(s m:List UInt8)(d:Nat)(es:List (List UInt8×Nat)):NcS (s++m) d (esA m es)=NcS s d es:=by unfold NcS;rw[Nf0]
theorem Nio{m:List UInt8}:∀ (D:List Dc) (es:List (List UInt8×Nat)),(∀ d∈D,(d.K.toNat=4→d.O≠[])∧d.S≠[])→Ndi (D.map (Dc.rn m)) (esA m es)=((Ndi D es).1,esA m (Ndi D es).2)
 |[],es,_=>by rw[List.map_nil,Ndi,Ndi]
 |d::r,es,h=>by
   have hk:Ndn d.K.toNat (d.S++m) d.N (NiJ m d.O) (esA m es)=Ndn d.K.toNat d.S d.N d.O es:=by
    unfold Ndn;rw[Nf0];by_cases h4:d.K.toNat=4
    ·rw[NdP ((h d List.mem_cons_self).1 h4),NgP]
    ·simp only[if_neg h4]
   rw[List.map_cons,Ndi,Ndi];show(if Ndn d.K.toNat (d.S++m) d.N (NiJ m d.O) (esA m es)=0 then Ndi (r.map (Dc.rn m)) (putN (d.S++m) d.K.toNat (esA m es))else((Ndn d.K.toNat (d.S++m) d.N (NiJ m d.O) (esA m es),d.R),esA m es))=_;rw[hk,Niv];split
   ·exact Nio r _ (fun u hu=>h u (List.mem_cons_of_mem _ hu))
   ·rfl
theorem NpS{m:List UInt8}{es:List (List UInt8×Nat)}{s:Sm}(h:s.K.toNat=1→s.J≠[]):NoG (esA m es) (s.rn m)=NoG es s:=by
 have hK:(s.rn m).K=s.K:=by cases s;rw[Sm.rn];rfl
 have hO:(s.rn m).O=s.O:=by cases s;rw[Sm.rn];rfl
 have hJ:(s.rn m).J=NiJ m s.J:=by cases s;rw[Sm.rn];rfl
 unfold NoG;rw[hK,hO,hJ];by_cases hk:s.K.toNat=1
 ·rw[if_pos hk,if_pos hk,NdP (h hk),NgP]
 ·rw[if_neg hk,if_neg hk]
theorem NpR(m:List UInt8)(s:Sm)(ls:List (List UInt8)):NqK (s.rn m) ls=NqK s ls:=by cases s;rw[Sm.rn];rfl
theorem Nsd(m:List UInt8)(s:Sm):(s.rn m).I=s.I:=by cases s;rw[Sm.rn];rfl
theorem Nmn{m:List UInt8}{es:List (List UInt8×Nat)}{ls:List (List UInt8)}{s:Sm}(h:s.K.toNat=1→s.J≠[]):NcI (esA m es) ls (s.rn m)=NcI es ls s:=by
 unfold NcI;simp only[NpS h,NpR,Nsd,(Sm.rn_A m s).1,Exs.cp_told]
mutual
theorem Sm.rn_chk{m:List UInt8}(hm:NcH m)(es:List (List UInt8×Nat)):∀ (s:Sm) (ls:List (List UInt8)),s.sj→s.rt=true→(s.rn m).chk (esA m es) ls=s.chk es ls
 |.mk k o j i n za a zb b ze e r,ls,hj,h=>by
   rw[Sm.sj]at hj;rw[Sm.rt]at h;simp only[Bool.and_eq_true]at h;have h1:=Nmn (m:=m) (es:=es) (ls:=ls) (s:=.mk k o j i n za a zb b ze e r) (Ng6 hm hj.1 h.1.1).2;rw[Sm.rn]at h1;rw[Sm.rn,Sm.chk,Sm.chk,h1];simp only[Sms.rn_chk hm es b _ hj.2.1 h.1.2.1,Sms.rn_chk hm es e _ hj.2.2 h.1.2.2]
theorem Sms.rn_chk{m:List UInt8}(hm:NcH m)(es:List (List UInt8×Nat)):∀ (l:List Sm) (ls:List (List UInt8)),Sms.sj l→Sms.rt l=true→Sms.chk (esA m es) (Sms.rn m l) ls=Sms.chk es l ls
 |[],ls,_,_=>by rw[Sms.rn,Sms.chk,Sms.chk]
 |s::t,ls,hj,h=>by
   rw[Sms.sj]at hj;rw[Sms.rt,Bool.and_eq_true]at h;rw[Sms.rn,Sms.chk,Sms.chk];simp only[Sm.rn_chk hm es s _ hj.1 h.1,Sms.rn_chk hm es t _ hj.2 h.2]
end
mutual
theorem Sm.rn_runT(m:List UInt8):∀ (s:Sm) (t:Int),(s.rn m).runT t=s.runT t
 |.mk k o j i n za a zb b ze e r,t=>by
   rw[Sm.rn,Sm.runT,Sm.runT,Sms.rn_runT m b,Sms.rn_runT m e]
theorem Sms.rn_runT(m:List UInt8):∀ (l:List Sm) (t:Int),Sms.runT (Sms.rn m l) t=Sms.runT l t
 |[],t=>by rw[Sms.rn]
 |s::r,t=>by
   rw[Sms.rn,Sms.runT,Sms.runT,Sm.rn_runT m s,Sms.rn_runT m r]
end
theorem NiE{m:List UInt8}(hm:NcH m)(es:List (List UInt8×Nat)):∀ (T:List Td) (seen:List (List UInt8)),(∀ t∈T,Sms.sj t.B)→Tds.rt T=true→Ngl (esA m es) (T.map (Td.rn m)) seen=Ngl es T seen
 |[],_,_,_=>rfl
 |t::r,seen,hj,h=>by
   rw[Tds.rt]at h;simp only[Bool.and_eq_true]at h;rw[List.map_cons,Ngl,Ngl];simp only[NiE hm es r _ (fun u hu=>hj u (List.mem_cons_of_mem _ hu)) h.2,Td.rn,Sms.rn_chk hm es t.B _ (hj t List.mem_cons_self) h.1.2,Sms.rn_runT]
theorem NjB{m:List UInt8}(hm:NcH m)(z1 z2:Bool){p:Pg}(hD:∀ d∈p.D,d.S.length≤1000∧d.O.length≤1000)(hT:∀ t∈p.T,Sms.sj t.B)(hr:Njo p=true):Nd3 ⟨z1,p.D.map (Dc.rn m),z2,p.T.map (Td.rn m)⟩=Nd3 p:=by
 have h:=hr;unfold Njo at h;simp only[Bool.and_eq_true]at h;obtain⟨h1,h2,h3⟩:=h;obtain⟨d1,d2⟩:=Dcs.rn_rt hm p.D hD h2;have hr2:Njo ⟨z1,p.D.map (Dc.rn m),z2,p.T.map (Td.rn m)⟩=true:=by
  unfold Njo;simp only[Bool.and_eq_true];refine⟨?_,d1,Tds.rn_rt hm p.T hT h3⟩;unfold NmI at h1 ⊢;simp only[Npo,List.length_map];exact h1
 unfold Nd3;rw[←Ng2,←Ng2,hr,hr2,if_pos rfl,if_pos rfl];have ho:=Nio (m:=m) p.D [] d2;have he:esA m []=[]:=rfl;rw[he]at ho;simp only[ho,NiE hm _ p.T [] hT h3]
end Go.Pe
