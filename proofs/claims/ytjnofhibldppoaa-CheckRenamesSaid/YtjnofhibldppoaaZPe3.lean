/-
 The interpreter of plain data is sound: calls, regions, code, functions. No condition; nothing of the program.
-/
import Derived.Test.YtjnofhibldppoaaZPe2
import Derived.Orders
import Derived.LoopN
import Derived.Scope
set_option linter.unusedVariables false
set_option linter.unusedSimpArgs false
namespace Go.Pe
open Go Go.Am Go.RowKit
section
variable {G G':Ghost}{st st':St}{V:List Nat}{P:Program}{a:Act}{r v:PV}{o:Oper}{w:World}{base key n t:Nat}{c:Loc}{cfg:Cfg}{callE:CallE}{m:MOp}{Gl:Gmap}{f:FuncId}{N:Nat→Prop}{md:MDst}{x:Operand}{b:Bool}{modes:FuncId→Option Bool}{d:Option Tmp}{ops:Array Oper}
theorem ARel.plain{F:Nat→Nat→Option Value}{vs:List Value}{l:List PV}(h:FC F vs l):ARel F w base vs l none:=by
 cases l with
 |nil=>exact⟨h,rfl⟩
 |cons p l =>
   cases p
   case osl sz n cs =>
    exfalso
    match vs,h with
    |[],h=>have:=h.1;simp at this
    |v::vs,h=>have:=h.2 0 v _ rfl rfl;cases this
   all_goals exact⟨h,rfl⟩
theorem NkG{g:List PV→Option PV}(hp:Nbc P Gl f g)(hs:Sim G st w base)(hgl:∀ b o u,Gl b o=some u→G.F b o=some u){own:Bool}(hkey:G.B key=none){vs:List Value}{ps:List PV}(hc:CRel G vs ps)(he:Nam g own st key ps=some (r,st')) :
 Calls P f vs.toArray w fun e w'=>∃ v G',e=.returned v∧VRel G' v r∧Step base (fun k=>k=key) G st w G' st' w':=by
 have gen:∀ {l:List PV}{r0:PV},Nbk st ps=some l→g l=some r0→NaE (if r0.closedB then st else NaI st (keysL st ps)) key r0=some (r,st') →
  Calls P f vs.toArray w fun e w'=>∃ v G',e=.returned v∧VRel G' v r∧Step base (fun k=>k=key) G st w G' st' w':=by
  intro l r0 hl hg hrec;obtain⟨G1,h1,h2,h3,h4,h5⟩:=NeU hs (keysL st ps);have hfc:=NcM h5 hc (fun k hk=>hk) hl;refine(hp l r0 hg G1.F w base vs none h3.frz (fun b o u hu=>h1.F b o u (hgl b o u hu)) hs.bas (ARel.plain hfc)).mono ?_;rintro e w' ⟨v,F',rfl,a1,a2,a3,a4,a5,a6,a7,a8,a9⟩;obtain⟨G',b1,b2⟩:=Nfm hs h1 h2 h3 h4 (gk:=none) (gv:=none) (.inl ⟨rfl,rfl⟩) a1 a2 a3 a4 a5 a6 a7 a8 a9 (st1:=st) rfl key hkey hrec;exact⟨v,G',rfl,b1,b2⟩
 unfold Nam at he;split at he
 ·rename_i k sz off n rest;split at he
  ·rename_i cs hg;split at he
   ·rename_i hcond;obtain⟨rfl,hl,hz,hnk⟩:=hcond;split at he
    ·rename_i l l2 hl1 hl2;split at he
     ·rename_i r0 hr0
      match vs,hc with
      |[],hc=>have:=hc.1;simp at this
      |v0::vs',hc =>
        obtain⟨c1,c2⟩:=hc.uncons;obtain⟨G1,h1,h2,h3,h4,h5⟩:=NeU hs (keysL st cs++keysL st rest);have hnk':k∉keysL st cs++keysL st rest:=by
         intro h;have:(keysL st cs++keysL st rest).contains k=true:=(by simpa using h);rw[this]at hnk;simp at hnk
        obtain⟨blk,size,hB,ho⟩:=NhF hs hg hl c1 h1 h2 h3 h5 (fun j hj=>List.mem_append_left _ hj) hnk' hl1;have hfc:=NcM h5 c2 (fun j hj=>List.mem_append_right _ hj) hl2;refine(hp _ r0 hr0 G1.F w base (v0::vs') (some blk) h3.frz (fun b o u hu=>h1.F b o u (hgl b o u hu)) hs.bas ⟨v0,vs',blk,rfl,ho,hfc,rfl⟩).mono ?_;rintro e w' ⟨v,F',rfl,a1,a2,a3,a4,a5,a6,a7,a8,a9⟩;obtain⟨G',b1,b2⟩:=Nfm hs h1 h2 h3 h4 (gk:=some k) (gv:=some blk) (.inr ⟨k,blk,size,cs,rfl,rfl,hg,hB,hnk'⟩) a1 a2 a3 a4 a5 a6 a7 a8 a9 (st1:=st.put k none) rfl key hkey he;exact⟨v,G',rfl,b1,b2⟩
     ·simp at he
    ·simp at he
   ·simp at he
  ·simp at he
 ·split at he
  ·rename_i l hl;split at he
   ·rename_i r0 hr0;exact gen hl hr0 he
   ·simp at he
  ·simp at he
def OpW(P:Program)(base:Nat)(N:Nat→Prop)(G:Ghost)(st:St)(w:World)(o:Oper)(a:Act)(r:PV)(st':St):Prop :=
 ∀ (K:Act→World→Prop) (Q:Exit→Act→World→Prop),(∀ v w' G',VRel G' v r→Step base N G st w G' st' w'→K (a.put o.dst v) w')→o.wp P a w K Q
theorem OpW.of_ok(h:OpOK P base N G st w (execOp a.eval o) r st'):OpW P base N G st w o a r st':=by
 intro K Q hK;obtain⟨n,w',G',hrun,hn,hst⟩:=h;unfold Oper.wp;rw[hrun];rcases hn with⟨v,rfl,hv⟩|⟨rfl,rfl⟩
 ·exact hK v w' G' hv hst
 ·exact hK undef w' G' (.tup #[] [] rfl (fun i v p h=>by simp at h)) hst
theorem OpW.of_calls{args:Array Value}(hrun:(execOp a.eval o).run P w=.ok (.enter f args) w)
 (h:Calls P f args w fun e w'=>∃ v G',e=.returned v∧VRel G' v r∧Step base N G st w G' st' w'):OpW P base N G st w o a r st':=by
 intro K Q hK;unfold Oper.wp;rw[hrun];refine Calls.mono h ?_;rintro e w' ⟨v,G',rfl,hv,hst⟩;exact hK v w' G' hv hst
theorem Nix{c:Call}(hop:o.op=.call c)(hb:Ncz P f=true){cap:Array Value}(hca:c.callee=.value x)(hx:a.eval x=.func (.func f) #[] cap)(w:World) :
 (execOp a.eval o).run P w=.ok (.enter f (c.args.map a.eval++cap)) w:=by
 unfold Ncz at hb;split at hb
 ·rename_i fn hfn;simp only[Bool.and_eq_true]at hb
  have h1 : decide (fn.name = "runtime.NumGoroutine") = false := by simpa using hb.2
  have h2:fn.body.isNone=false:=by cases hbd:fn.body<;>simp_all
  have:=Ng4 (P:=P) hfn h1 h2 (c.args.map a.eval++cap) w;simp[execOp,hop,resolve,hca,hx,Deferred.ofValue,invoke,this]
 ·simp at hb
theorem NkO{c:Call}(hop:o.op=.call c)(hb:Ncz P f=true){pre:Array Value}(hca:c.callee=.value x)(hx:a.eval x=.func (.func f) pre #[])(w:World) :
 (execOp a.eval o).run P w=.ok (.enter f (pre++c.args.map a.eval)) w:=by
 unfold Ncz at hb;split at hb
 ·rename_i fn hfn;simp only[Bool.and_eq_true]at hb
  have h1 : decide (fn.name = "runtime.NumGoroutine") = false := by simpa using hb.2
  have h2:fn.body.isNone=false:=by cases hbd:fn.body<;>simp_all
  have:=Ng4 (P:=P) hfn h1 h2 (pre++c.args.map a.eval) w;simp[execOp,hop,resolve,hca,hx,Deferred.ofValue,invoke,this]
 ·simp at hb
structure CfgOK(P:Program)(Gl:Gmap)(cfg:Cfg):Prop where
 ext:∀ f g,cfg.ext f=some g→Nbc P Gl f g
 fns:∃ modes,∀ f m,cfg.fn f=some m→Naw P modes f=some m
theorem NfE(hc:CfgOK P Gl cfg)(hE:NaV P Gl callE)(f:FuncId):Nbc P Gl f (Nak cfg callE f):=by
 unfold Nak;split
 ·rename_i g hg;exact hc.ext f g hg
 ·exact Nc3 hE f
def Np4(key:Nat)(st st':St):Nat→Prop:=fun k=>k=key∨st.cnt≤k∧k<st'.cnt
theorem Step.weaken{N':Nat→Prop}{w':World}(h:Step base N G st w G' st' w')(hN:∀ k,N k→N' k):Step base N' G st w G' st' w' :=
 ⟨h.le,fun k x hx=>(h.new k x hx).imp id (hN k),h.sim,h.os,h.tape,h.output,h.size,h.kept,h.own,h.fnew,h.ful⟩
theorem OpW.weaken{N':Nat→Prop}(h:OpW P base N G st w o a r st')(hN:∀ k,N k→N' k):OpW P base N' G st w o a r st' :=
 fun K Q hK=>h K Q fun v w' G' hv hst=>hK v w' G' hv (hst.weaken hN)
theorem St.put_cnt(st:St)(k:Nat)(o:Option PObj):(st.put k o).cnt=st.cnt:=rfl
theorem Nfb{p:PV}(h:NaE st key v=some (p,st')):st'.cnt=st.cnt:=by
 unfold NaE at h;split at h
 ·simp only[Sj,Pj]at h;obtain⟨_,rfl⟩:=h;rfl
 ·split at h
  ·split at h
   ·simp only[Sj,Pj]at h;obtain⟨_,rfl⟩:=h;rfl
   ·simp at h
  ·simp only[Sj,Pj]at h;obtain⟨_,rfl⟩:=h;rfl
 ·simp only[Sj,Pj]at h;obtain⟨_,rfl⟩:=h;rfl
theorem Nd2{g:List PV→Option PV}{own:Bool}{ps:List PV}(h:Nam g own st key ps=some (r,st')):st'.cnt=st.cnt:=by
 unfold Nam at h
 repeat' split at h
 all_goals first|(simp at h;done)|skip
 all_goals (have:=Nfb h;first|(rw[this];done)|(rw[this];rfl)|(rw[this];simp[NeT,St.put_cnt]))
theorem Nh5{ρ:Arg→PV}(hpl:m.plain=true)(he:Nap cfg callE ρ st key m=some (r,st')):st'.cnt=st.cnt:=by
 have hsto:∀ {n:Nat}{a v:PV}{s:St},Na1 st n a v=some s→s.cnt=st.cnt:=by
  intro n a v s h;unfold Na1 at h
  repeat' split at h
  all_goals first|(simp at h;done)|(simp only[Sj]at h;subst h;rfl)
 have happ:∀ {k sz b m:Nat}{l:List PV}{p q:PV}{s:St},Nbj st k sz b m l p=some (q,s)→s.cnt=st.cnt:=by
  intro k sz b m l p q s h;unfold Nbj at h
  repeat' split at h
  all_goals first|(simp at h;done)|(cases h;rfl)
 have happb:∀ {k T:Nat}{l:List UInt8}{p q:PV}{s:St},Nec st k T l p=some (q,s)→s.cnt=st.cnt:=by
  intro k T l p q s h;unfold Nec at h
  repeat' split at h
  all_goals first|(simp at h;done)|(cases h;rfl)
 have hcop:∀ {sz m:Nat}{l:List PV}{p q:PV}{s:St},NdA st sz m l p=some (q,s)→s.cnt=st.cnt:=by
  intro sz m l p q s h;unfold NdA at h
  repeat' split at h
  all_goals first|(simp at h;done)|(cases h;rfl)
 cases m with
 |call=>simp[MOp.plain]at hpl
 |calle=>simp[MOp.plain]at hpl
 |callv=>simp[MOp.plain]at hpl
 |callq=>simp[MOp.plain]at hpl
 |slice arr sz x lo hi =>
   cases arr<;>simp only[Nap]at he
   ·obtain⟨_,_,h⟩:=Option.map_eq_some_iff.1 he;cases h;rfl
   ·repeat' split at he
    all_goals first|(simp at he;done)|(cases he;rfl)
 |indexAddr arr sz x i =>
   cases arr<;>simp only[Nap]at he
   all_goals (repeat' split at he)
   all_goals first|(simp at he;done)|(cases he;rfl)
 |conv c x =>
   simp only[Nap]at he
   repeat' split at he
   all_goals first|(simp at he;done)|(cases he;rfl)|(obtain⟨_,_,h⟩:=Option.map_eq_some_iff.1 he;cases h;rfl)
 |store n a x =>
   simp only[Nap]at he;obtain⟨_,h1,h⟩:=Option.map_eq_some_iff.1 he;cases h;exact hsto h1
 |append =>
   simp only[Nap]at he
   repeat' split at he
   all_goals first|(simp at he;done)|exact happ he
 |appb =>
   simp only[Nap]at he
   repeat' split at he
   all_goals first|(simp at he;done)|exact happb he
 |appbs =>
   simp only[Nap]at he
   repeat' split at he
   all_goals first|(simp at he;done)|exact happb he
 |appstr =>
   simp only[Nap]at he
   repeat' split at he
   all_goals first|(simp at he;done)|exact happ he
 |copy =>
   simp only[Nap]at he
   repeat' split at he
   all_goals first|(simp at he;done)|exact hcop he
 |_ =>
   simp only[Nap]at he
   repeat' split at he
   all_goals first|(simp at he;done)|(cases he;rfl)|(obtain⟨_,_,h⟩:=Option.map_eq_some_iff.1 he;cases h;rfl)
theorem NiN{op:Op}(h:Nk3 P V b op=some m):m.plain=true:=by
 unfold Nk3 at h
 repeat' split at h
 all_goals first|(cases h;done)|(simp only[Sj]at h;subst h;rfl)|(simp only[Option.bind_eq_bind,Option.bind_eq_some_iff,Sj]at h;first|(obtain⟨_,_,rfl⟩:=h;rfl)|(obtain⟨_,_,_,_,rfl⟩:=h;rfl))
theorem NjO(hcfg:CfgOK P Gl cfg)(hE:NaV P Gl callE)(hm:cOp P V modes o.op=some m)(hpc:m.plain=true∨isCallOp o.op=true)(hs:Sim G st w base)(hgl:∀ b o u,Gl b o=some u→G.F b o=some u)(hfu:(∃ f l,m=.calle f l)∨(∃ f l,m=.callv f l)→Nhf Gl G st){ρ:Arg→PV}(hρ:∀ x y,cArg V x=some y→VRel G (a.eval x) (ρ y))
 {key:Nat}(hkey:G.B key=none) (hcnt:∀ k,st.cnt≤k→G.B k=none) {r:PV}{st':St}(he:Nap cfg callE ρ st key m=some (r,st')):st.cnt≤st'.cnt∧OpW P base (Np4 key st st') G st w o a r st':=by
 by_cases hpl:m.plain=true
 ·exact⟨Nat.le_of_eq (Nh5 hpl he).symm,(OpW.of_ok (NiX hm hpl hs hρ (fun f=>rfl) hkey he)).weaken fun k h=>.inl h⟩
 ·-- a call
  replace hm:NcJ P V modes o.op=some m:=by
   unfold cOp at hm;split at hm
   ·rename_i m' hb;simp only[Sj]at hm;subst hm;exact absurd (NiN hb) hpl
   ·exact hm
  cases hop:o.op<;>rw[hop]at hm
  case call c =>
   simp only[NcJ]at hm;split at hm
   ·rename_i f hca;split at hm
    ·rename_i l hb hl;have hargs:=Ncw hρ hl;have hrun:=Nix (P:=P) (a:=a) hop hb (cap:=#[]) hca rfl w;have e1:c.args.map a.eval++#[]=(c.args.toList.map a.eval).toArray:=(by apply Array.ext';simp);rw[e1]at hrun;split at hm
     ·rename_i own hmo;simp only[Sj]at hm;subst hm;simp only[Nap]at he;exact⟨Nat.le_of_eq (Nd2 he).symm,(OpW.of_calls hrun (NkG (NfE hcfg hE f) hs hgl hkey hargs he)).weaken fun k h=>.inl h⟩
     ·simp only[Sj]at hm;subst hm;simp only[Nap]at he;split at he
      ·simp at he
      ·obtain⟨_,h1,h2⟩:=hE f _ _ _ _ he;exact⟨h1,(OpW.of_calls hrun (h2 G w base _ hs (hfu (.inl ⟨_,_,rfl⟩)) hargs hcnt)).weaken fun k h=>.inr h⟩
    ·simp at hm
   ·rename_i t hca;simp only[Option.bind_eq_bind,Option.bind_eq_some_iff,Sj]at hm;obtain⟨x,hx,l,hl,rfl⟩:=hm;simp only[Nap]at he;split at he
    ·rename_i g cap hg;split at he
     ·simp at he
     ·rename_i hext;have hv:=hρ _ _ hx;rw[hg]at hv;obtain⟨q,hq⟩:∃ q,a.eval (.tmp t)=q:=⟨_,rfl⟩;rw[hq]at hv;cases hv with
      |fn _ cs _ hlc hc =>
        obtain⟨hb,h1,h2⟩:=hE g _ _ _ _ he;have hrun:=Nix (P:=P) (a:=a) hop hb (cap:=cs) hca hq w;have e1:c.args.map a.eval++cs=(c.args.toList.map a.eval++cs.toList).toArray:=(by apply Array.ext';simp);rw[e1]at hrun;have hcc:CRel G cs.toList cap:=⟨by simpa using hlc,fun i v p hv hp=>hc i v p (by simpa using hv) hp⟩;exact⟨h1,(OpW.of_calls hrun (h2 G w base _ hs (hfu (.inr ⟨_,_,rfl⟩)) ((Ncw hρ hl).append hcc) hcnt)).weaken fun k h=>.inr h⟩
    ·rename_i g pre hg;split at he
     ·simp at he
     ·rename_i hext;have hv:=hρ _ _ hx;rw[hg]at hv;obtain⟨q,hq⟩:∃ q,a.eval (.tmp t)=q:=⟨_,rfl⟩;rw[hq]at hv;cases hv with
      |bfn _ cs _ hlc hc =>
        obtain⟨hb,h1,h2⟩:=hE g _ _ _ _ he;have hrun:=NkO (P:=P) (a:=a) hop hb (pre:=cs) hca hq w;have e1:cs++c.args.map a.eval=(cs.toList++c.args.toList.map a.eval).toArray:=(by apply Array.ext';simp);rw[e1]at hrun;have hcc:CRel G cs.toList pre:=⟨by simpa using hlc,fun i v p hv hp=>hc i v p (by simpa using hv) hp⟩;exact⟨h1,(OpW.of_calls hrun (h2 G w base _ hs (hfu (.inr ⟨_,_,rfl⟩)) (hcc.append (Ncw hρ hl)) hcnt)).weaken fun k h=>.inr h⟩
    ·simp at he
   all_goals first|(simp at hm;done)|(exfalso;rcases hpc with h|h;exact hpl h;rw[hop]at h;rename_i hca;simp[isCallOp,hca]at h)
  all_goals (exfalso;rcases hpc with h|h;exact hpl h;rw[hop]at h;simp[isCallOp]at h)
def LocRel(V:List Nat)(G:Ghost)(a:Act)(c:Loc):Prop :=
 (∀ t,V.contains t=true→VRel G (a.tmps.getD t undef) (c.env.get t))∧(∀ t,V.contains t=false→VRel G (a.tmps.getD t undef) (Env.get c.loc t))
theorem LocRel.mono(hl:G.le G')(h:LocRel V G a c):LocRel V G' a c:=⟨fun t ht=>(h.1 t ht).mono hl,fun t ht=>(h.2 t ht).mono hl⟩
theorem Env.get_putk(e:Env)(t:Nat)(v:PV):Env.get (Env.put e t v) t=v:=by
 unfold Env.get Env.put;rw[Trie.getk_putk];rfl
theorem Env.get_put_rel{e:Env}{x:Value}(h:VRel G x v):VRel G x (Env.get (Env.put e t v) t):=by
 rw[Env.get_putk];exact h
theorem Env.get_put_ne{e:Env}{t':Nat}(h:t≠t'):Env.get (Env.put e t v) t'=Env.get e t':=by
 unfold Env.get Env.put;rw[Trie.getk_putk_ne _ _ h]
theorem Yad(e:Env)(t u:Nat)(v:PV):Env.get (Env.put e t v) u=if t=u then v else Env.get e u:=by
 by_cases h:t=u
 ·subst h;rw[if_pos rfl,Env.get_putk]
 ·rw[if_neg h,Env.get_put_ne h]
theorem LocRel.eval(h:LocRel V G a c){y:Arg}(hy:cArg V x=some y):VRel G (a.eval x) (c.rd y):=by
 cases x with
 |tmp t =>
   simp only[cArg,Sj]at hy;subst hy;cases ht:V.contains t with
   |true=>simp only[if_pos];exact h.1 t ht
   |false=>simp only[Bool.false_eq_true,if_false];exact h.2 t ht
 |const v =>
   simp only[cArg,Option.map_eq_some_iff]at hy;obtain⟨p,hp,rfl⟩:=hy;exact Ncn hp
 |global g=>simp[cArg]at hy
 |func f =>
   simp only[cArg,Sj]at hy;subst hy;exact .fn f #[] [] rfl (fun i v p h=>by simp at h)
theorem Act.put_defers'(a:Act)(d:Option Tmp)(v:Value):(a.put d v).defers=a.defers:=by cases d<;>rfl
theorem Act.put_size(a:Act)(d:Option Tmp)(v:Value):(a.put d v).tmps.size=a.tmps.size:=by cases d<;>simp[Act.put]
theorem LocRel.put(h:LocRel V G a c)(hn:n≤a.tmps.size)(hd:cDst V n d=some md){v:Value}(hv:VRel G v r):LocRel V G (a.put d v) (c.wr md r):=by
 cases d with
 |none=>simp[cDst]at hd;subst hd;exact h
 |some t =>
   simp only[cDst]at hd;split at hd
   ·rename_i htn;simp only[Sj]at hd;have hsame:∀ t',(a.put (some t) v).tmps.getD t' undef=if t=t' then v else a.tmps.getD t' undef:=by
     intro t';simp only[Act.put,Array.getD_eq_getD_getElem?,Array.getElem?_setIfInBounds];by_cases e:t=t'
     ·subst e;simp[show t<a.tmps.size from Nat.lt_of_lt_of_le htn hn]
     ·simp[e]
    cases hV:V.contains t with
    |true =>
      rw[hV,if_pos rfl]at hd;subst hd;refine⟨fun t' ht'=>?_,fun t' ht'=>?_⟩
      ·rw[hsame];by_cases e:t=t'
       ·subst e;rw[if_pos rfl];exact Env.get_put_rel hv
       ·rw[if_neg e];show VRel G _ (Env.get (Env.put c.env t r) t');rw[Env.get_put_ne e];exact h.1 t' ht'
      ·rw[hsame,if_neg (by rintro rfl;rw[hV]at ht';simp at ht')];exact h.2 t' ht'
    |false =>
      rw[hV]at hd;simp only[Bool.false_eq_true,if_false]at hd;subst hd;refine⟨fun t' ht'=>?_,fun t' ht'=>?_⟩
      ·rw[hsame,if_neg (by rintro rfl;rw[hV]at ht';simp at ht')];exact h.1 t' ht'
      ·rw[hsame];by_cases e:t=t'
       ·subst e;rw[if_pos rfl];exact Env.get_put_rel hv
       ·rw[if_neg e];show VRel G _ (Env.get (Env.put c.loc t r) t');rw[Env.get_put_ne e];exact h.2 t' ht'
   ·simp at hd
theorem NdO(G:Ghost):VRel G undef (.tup []):=.tup #[] [] rfl (fun i v p h=>by simp at h)
theorem Nie{g:Option (Arg×Bool)}(hg:cGuard V n ops o.guard=some g)(h:LocRel V G a c)(hn:n≤a.tmps.size)(hb:NaA c g=some b):Region.wanted o (yielded ops a.tmps)=b:=by
 cases hog:o.guard with
 |none =>
   rw[hog]at hg;simp only[cGuard,Sj]at hg;subst hg;simp only[NaA,Sj]at hb;subst hb;simp[Region.wanted,hog]
 |some jw =>
   obtain⟨j,want⟩:=jw;rw[hog]at hg;simp only[cGuard]at hg;split at hg
   ·rename_i t ht;split at hg
    ·rename_i htn;simp only[Sj]at hg;subst hg;have hv:VRel G (a.tmps.getD t undef) (c.rd (if V.contains t then .t t else .l t)):=h.eval (x:=.tmp t) rfl;have hy:yielded ops a.tmps j=match a.tmps.getD t undef with|.bool b=>some b|_=>none:=by
      have hlt:t<a.tmps.size:=Nat.lt_of_lt_of_le htn hn;unfold yielded;rw[ht];simp only[Option.bind_some,Array.getElem?_eq_getElem hlt,Array.getD_eq_getD_getElem?,Option.getD_some];cases a.tmps[t]<;>rfl
     simp only[Region.wanted,hog,hy];simp only[NaA]at hb;split at hb
     ·rename_i y hy2;simp only[Sj]at hb;subst hb;rw[hy2]at hv;generalize a.tmps.getD t undef=q at hv;cases hv;cases y<;>cases want<;>rfl
     ·rename_i hy2;simp only[Sj]at hb;subst hb;rw[hy2]at hv;generalize a.tmps.getD t undef=q at hv;cases hv;rfl
     ·simp at hb
    ·simp at hg
   ·simp at hg
def KInv(key lim:Nat)(G:Ghost)(st:St):Prop:=∀ k,(key≤k∧k<lim)∨st.cnt≤k→G.B k=none
theorem NdQ{mo:MOper}(h:NiP P V n modes ops o=some mo) :
 cDst V n o.dst=some mo.dst∧cGuard V n ops o.guard=some mo.guard∧(mo.op=.bad∨(cOp P V modes o.op=some mo.op∧(mo.op.plain=true∨isCallOp o.op=true))):=by
 simp only[NiP,Option.bind_eq_bind,Option.bind_eq_some_iff,Sj]at h;obtain⟨d,hd,g,hg,rfl⟩:=h;refine⟨hd,hg,?_⟩;simp only[];split
 ·rename_i m hm;split
  ·rename_i hc;right;exact⟨hm,by simpa using hc⟩
  ·exact .inl rfl
 ·exact .inl rfl
theorem Ne9{P:Program}{Gl:Gmap}{V:List Nat}{n:Nat}{modes:FuncId→Option Bool}{cfg:Cfg}(hcfg:CfgOK P Gl cfg){callE:CallE}(hE:NaV P Gl callE){ops:Array Oper}{base:Nat}{Q:Exit→Act→World→Prop} :
 ∀ (l:List Oper) (ml:List MOper) (i:Nat),ops.toList.drop i=l→mapO (NiP P V n modes ops) l=some ml→∀ (G:Ghost) (a:Act) (w:World) (c c':Loc) (key lim:Nat),LocRel V G a c→n≤a.tmps.size→Sim G c.st w base→Nhf Gl G c.st→KInv key lim G c.st→key+8 * l.length≤lim→lim≤c.st.cnt →
   Na5 cfg callE ml key c=some c'→(∀ a' w' G',LocRel V G' a' c'→n≤a'.tmps.size→a'.defers=a.defers→c.st.cnt≤c'.st.cnt→Step base (fun k=>(key≤k∧k<lim)∨(c.st.cnt≤k∧k<c'.st.cnt)) G c.st w G' c'.st w'→Q .normal a' w') →
   wpOps P ops Q (List.range' i l.length) a w
 |[],ml,i,hl,hm,G,a,w,c,c',key,lim,hL,hn,hs,hfu,hk,hlim,hcnt,he,hQ=>by
   simp[mapO]at hm;subst hm;simp only[Na5,Sj]at he;subst he;simp only[List.length_nil,List.range'_zero,wpOps];exact hQ a w G hL hn rfl (Nat.le_refl _) (Step.refl hs)
 |o::l,ml,i,hl,hm,G,a,w,c,c',key,lim,hL,hn,hs,hfu,hk,hlim,hcnt,he,hQ=>by
   simp only[mapO]at hm;split at hm
   ·rename_i mo ml' hmo hml;simp only[Sj]at hm;subst hm;have hio:ops[i]? = some o:=by
     have:ops.toList[i]? = some o:=by
      have:=congrArg (fun l=>l[0]?) hl;simpa using this
     simpa using this
    have hdrop:ops.toList.drop (i+1)=l:=by
     have:=congrArg (List.drop 1) hl;simpa using this
    obtain⟨hd,hg,hop⟩:=NdQ hmo;simp only[List.length_cons]at hlim;have hkey:G.B key=none:=hk key (.inl ⟨Nat.le_refl _,by omega⟩);simp only[List.length_cons,List.range'_succ,wpOps,hio];simp only[Na5]at he;split at he
    ·rename_i hgd;rw[Nie hg hL hn hgd,if_pos rfl];split at he
     ·rename_i v st hev;rcases hop with hbad|⟨hcop,hpc⟩
      ·rw[hbad]at hev;simp[Nap]at hev
      ·obtain⟨hcn,hw⟩:=NjO hcfg hE hcop hpc hs hfu.1 (fun _=>hfu) (fun x y hy=>hL.eval hy) hkey (fun k hk'=>hk k (.inr hk')) hev;left;refine hw _ _ ?_;intro u w1 G1 hu hst;refine Ne9 (base:=base) hcfg hE l ml' (i+1) hdrop hml G1 (a.put o.dst u) w1 _ c' (key+8) lim (LocRel.put (c:={ c with st:=st }) (hL.mono hst.le) hn hd hu) (by rw[Act.put_size];exact hn) ?_ ?_ ?_ Zaa ?_ he ?_
       ·cases hmd:mo.dst<;>exact hst.sim
       ·cases hmd:mo.dst<;>exact hst.full hfu
       ·intro k hk';have hcst:(Loc.wr { c with st:=st } mo.dst v).st=st:=(by cases mo.dst<;>rfl);rw[hcst]at hk';cases hx:G1.B k with
        |none=>rfl
        |some x =>
          rcases hst.new k x hx with h1|h1|h1
          ·rw[hk k (by rcases hk' with h|h;exact .inl ⟨by omega,h.2⟩;exact .inr (by omega))]at h1;simp at h1
          ·subst h1;rcases hk' with h|h<;>omega
          ·rcases hk' with h|h<;>omega
       ·have hcst:(Loc.wr { c with st:=st } mo.dst v).st=st:=(by cases mo.dst<;>rfl);rw[hcst];omega
       ·intro a' w' G' hL' hn' hdf hcc hst';have hcst:(Loc.wr { c with st:=st } mo.dst v).st=st:=(by cases mo.dst<;>rfl);rw[hcst]at hst' hcc;refine hQ a' w' G' hL' hn' (by rw[hdf,Act.put_defers']) Zaa ?_;refine hst.trans hst' ?_ ?_
        ·intro k hk';rcases hk' with h|h
         ·left;omega
         ·right;omega
        ·intro k hk';rcases hk' with h|h
         ·left;omega
         ·right;omega
     ·simp at he
    ·rename_i hgd;rw[Nie hg hL hn hgd,if_neg Zaf];have hcst:∀ v,(Loc.wr c mo.dst v).st=c.st:=(by intro v;cases mo.dst<;>rfl);refine Ne9 (base:=base) hcfg hE l ml' (i+1) hdrop hml G (a.put o.dst undef) w _ c' (key+8) lim (hL.put hn hd (NdO G)) (by rw[Act.put_size];exact hn) (by rw[hcst];exact hs) (by rw[hcst];exact hfu) ?_ Zaa (by rw[hcst];exact hcnt) he ?_
     ·rw[hcst];intro k hk';exact hk k (by rcases hk' with h|h;exact .inl ⟨by omega,h.2⟩;exact .inr h)
     ·intro a' w' G' hL' hn' hdf hcc hst';rw[hcst]at hst' hcc;refine hQ a' w' G' hL' hn' (by rw[hdf,Act.put_defers']) hcc (hst'.weaken ?_);intro k hk';rcases hk' with h|h
      ·left;omega
      ·exact .inr h
    ·simp at he
   ·simp at hm
theorem Nfq{ρ ρ':Arg→PV}(m:MOp)(h:∀ x∈mArgs m,ρ x=ρ' x):Nap cfg callE ρ st key m=Nap cfg callE ρ' st key m:=by
 have hp:∀ l:List (Nat×Nat×Arg),(∀ x∈l.map (fun p=>p.2.2),ρ x=ρ' x)→(l.map fun p=>(p.1,p.2.1,ρ p.2.2))=l.map fun p=>(p.1,p.2.1,ρ' p.2.2):=by
  intro l hl;refine List.map_congr_left fun p hp=>?_;rw[hl p.2.2 (List.mem_map.2 ⟨p,hp,rfl⟩)]
 have hl:∀ l:List Arg,(∀ x∈l,ρ x=ρ' x)→l.map ρ=l.map ρ':=fun l hl=>List.map_congr_left hl;have ho:∀ o:Option Arg,(∀ x∈argsO o,ρ x=ρ' x)→o.map ρ=o.map ρ':=by
  intro o ho;cases o with
  |none=>rfl
  |some a=>simp[ho a (by simp[argsO])]
 cases m
 case build z ps=>simp only[Nap];rw[hp ps h]
 case bslice n s z ps=>simp only[Nap];rw[hp ps h]
 case mkfn f l=>simp only[Nap];rw[hl l h]
 case mkbfn f l=>simp only[Nap];rw[hl l h]
 case call f own l=>simp only[Nap];rw[hl l h]
 case calle f l=>simp only[Nap];rw[hl l h]
 case callq f l=>simp only[Nap];rw[hl l h]
 case callv f l=>simp only[Nap];rw[h f (by simp[mArgs]),hl l (fun x hx=>h x (by simp[mArgs,hx]))]
 case min x l=>simp only[Nap];rw[h x (by simp[mArgs]),hl l (fun y hy=>h y (by simp[mArgs,hy]))]
 case max x l=>simp only[Nap];rw[h x (by simp[mArgs]),hl l (fun y hy=>h y (by simp[mArgs,hy]))]
 case slice arr sz x lo hi =>
  have h1:=h x (by simp[mArgs]);have h2:=ho lo (fun y hy=>h y (by simp[mArgs,hy]));have h3:=ho hi (fun y hy=>h y (by simp[mArgs,hy]));cases arr<;>simp only[Nap,h1,h2,h3]
 case substr x lo hi =>
  have h1:=h x (by simp[mArgs]);have h2:=ho lo (fun y hy=>h y (by simp[mArgs,hy]));have h3:=ho hi (fun y hy=>h y (by simp[mArgs,hy]));simp only[Nap,h1,h2,h3]
 case indexAddr arr sz x i =>
  have h1:=h x (by simp[mArgs]);have h2:=h i (by simp[mArgs]);cases arr<;>simp only[Nap,h1,h2]
 all_goals first
  |rfl
  |(simp only[mArgs,List.mem_cons,List.not_mem_nil,or_false,forall_eq_or_imp,forall_eq]at h;simp only[Nap,h])
theorem Nge{p:PV}(h:NaE st key v=some (p,st')):st'=st∨∃ o,st'=st.put key (some o):=by
 unfold NaE at h
 repeat' split at h
 all_goals first
  |(simp at h;done)
  |(simp only[Sj,Pj]at h;obtain⟨_,rfl⟩:=h;first|exact .inl rfl|exact .inr ⟨_,rfl⟩)
theorem NbG{ρ:Arg→PV}(hq:NaB m=true)(he:Nap cfg callE ρ st key m=some (r,st')):st'=st∨∃ o,st'=st.put key (some o):=by
 cases m
 case store=>simp[NaB]at hq
 case append=>simp[NaB]at hq
 case appstr=>simp[NaB]at hq
 case appb=>simp[NaB]at hq
 case appbs=>simp[NaB]at hq
 case ustr=>simp[NaB]at hq
 case copy=>simp[NaB]at hq
 case mark=>simp[NaB]at hq
 case mapup=>simp[NaB]at hq
 case snext=>simp[NaB]at hq
 case call=>simp[NaB]at hq
 case calle=>simp[NaB]at hq
 case callv=>simp[NaB]at hq
 case slice arr sz x lo hi =>
  cases arr<;>simp only[Nap]at he
  ·obtain⟨_,_,h⟩:=Option.map_eq_some_iff.1 he;cases h;exact .inl rfl
  ·repeat' split at he
   all_goals first|(simp at he;done)|(cases he;exact .inl rfl)
 case indexAddr arr sz x i =>
  cases arr<;>simp only[Nap]at he
  all_goals (repeat' split at he)
  all_goals first|(simp at he;done)|(cases he;exact .inl rfl)
 case callq f args =>
  simp only[Nap]at he
  repeat' split at he
  all_goals first|(simp at he;done)|exact Nge he
 all_goals
  simp only[Nap]at he
  repeat' split at he
  all_goals first
   |(simp at he;done)
   |(cases he;first|exact .inl rfl|exact .inr ⟨_,rfl⟩)
   |(obtain⟨_,_,h⟩:=Option.map_eq_some_iff.1 he;cases h;first|exact .inl rfl|exact .inr ⟨_,rfl⟩)
def NdZ(cfg:Cfg)(callE:CallE)(key:Nat)(mo:MOper)(c:Loc)(r:PV)(c':Loc):Prop :=
 (NaA c mo.guard=some true∧∃ st,Nap cfg callE c.rd c.st key mo.op=some (r,st)∧c'=Loc.wr { c with st:=st } mo.dst r) ∨
 (NaA c mo.guard=some false∧r=.tup []∧c'=c.wr mo.dst (.tup []))
theorem NeJ{cfg:Cfg}{callE:CallE}:∀ (ml:List MOper) (key:Nat) (c c':Loc),Na5 cfg callE ml key c=some c' →
 ∃ (cs:Nat→Loc) (rs:Nat→PV),cs 0=c∧cs ml.length=c'∧∀ i mo,ml[i]? = some mo→NdZ cfg callE (key+8 * i) mo (cs i) (rs i) (cs (i+1))
 |[],key,c,c',h=>by
   simp only[Na5,Sj]at h;exact⟨fun _=>c,fun _=>.und,rfl,h,fun i mo hi=>by simp at hi⟩
 |o::ml,key,c,c',h=>by
   simp only[Na5]at h;have key':∀ i,key+8+8 * i=key+8 * (i+1):=(by intro i;omega);split at h
   ·rename_i hg;split at h
    ·rename_i v st hev;obtain⟨cs,rs,h0,hN,hs⟩:=NeJ ml _ _ _ h;refine⟨fun i=>match i with|0=>c|i+1=>cs i,fun i=>match i with|0=>v|i+1=>rs i,rfl,hN,?_⟩;intro i mo hi;cases i with
     |zero =>
       simp only[List.getElem?_cons_zero,Sj]at hi;subst hi;exact .inl ⟨hg,st,hev,h0⟩
     |succ i =>
       have:=hs i mo (by simpa using hi);rw[key']at this;exact this
    ·simp at h
   ·rename_i hg;obtain⟨cs,rs,h0,hN,hs⟩:=NeJ ml _ _ _ h;refine⟨fun i=>match i with|0=>c|i+1=>cs i,fun i=>match i with|0=>.tup []|i+1=>rs i,rfl,hN,?_⟩;intro i mo hi;cases i with
    |zero =>
      simp only[List.getElem?_cons_zero,Sj]at hi;subst hi;exact .inr ⟨hg,rfl,h0⟩
    |succ i =>
      have:=hs i mo (by simpa using hi);rw[key']at this;exact this
   ·simp at h
noncomputable def lk(V:List Nat)(c:Loc)(t:Nat):PV:=if V.contains t then c.env.get t else Env.get c.loc t
theorem Nbb(c:Loc)(d:MDst)(v:PV):(c.wr d v).st=c.st:=by cases d<;>rfl
theorem Env.put_get_or(e:Env)(t:Nat)(v:PV):Env.get (Env.put e t v) t=v∨Env.get (Env.put e t v) t=.und:=.inl (Env.get_putk e t v)
theorem Net(hd:cDst V n d=some md)(h:d≠some t):lk V (c.wr md r) t=lk V c t:=by
 cases d with
 |none=>simp[cDst]at hd;subst hd;rfl
 |some u =>
   have hne:u≠t:=fun e=>h (by rw[e]);simp only[cDst]at hd;split at hd
   ·simp only[Sj]at hd;subst hd;unfold lk;cases hU:V.contains u<;>cases hT:V.contains t<;>simp only[if_true,Bool.false_eq_true,if_false,Loc.wr]<;>first|rfl|exact Env.get_put_ne hne
   ·simp at hd
theorem Ndb(hd:cDst V n (some t)=some md):lk V (c.wr md r) t=r∨lk V (c.wr md r) t=.und:=by
 simp only[cDst]at hd;split at hd
 ·simp only[Sj]at hd;subst hd;unfold lk;cases hV:V.contains t with
  |true=>simp only[if_true,Loc.wr];exact Env.put_get_or _ _ _
  |false=>simp only[Bool.false_eq_true,if_false,Loc.wr];exact Env.put_get_or _ _ _
 ·simp at hd
theorem Npy:c.rd (if V.contains t then .t t else .l t)=lk V c t:=by
 unfold lk;split<;>rfl
theorem Sim.merge{st1 stN:St}{w':World}(hN:Sim G stN w base)(hle:∀ k x,st.get k=some x→stN.get k=some x)
 (h1:Step base (fun k=>k=key) G st w G' st1 w') (hk:G.B key=none) (hkey:stN.get key=st1.get key) (hne:∀ k,k≠key→st1.get k=st.get k):Sim G' stN w' base:=by
 have hle':∀ k,(st.get k).isSome→(stN.get k).isSome:=by
  intro k hk;obtain⟨x,hx⟩:=Option.isSome_iff_exists.1 hk;rw[hle k x hx];rfl
 have old:∀ k x,k≠key→G'.B k=some x→G.B k=some x:=by
  intro k x hk' hx;rcases h1.new k x hx with h|h
  ·exact h
  ·exact absurd h hk'
 have same:∀ (k:Nat) (y:PObj),k≠key→(st.get k).isSome→stN.get k=some y→st1.get k=some y:=by
  intro k y hk' hs hy;obtain⟨z,hz⟩:=Option.isSome_iff_exists.1 hs;rw[hne k hk',hz];have:=hle k z hz;rw[hy]at this;exact this.symm
 have alone:∀ (k:Nat) (x:Nat×Nat),(stN.get k).isSome→¬ (st.get k).isSome→G.B k=some x→∀ (k0:Nat) (x0:Nat×Nat),(st.get k0).isSome→G.B k0=some x0→x0.1≠x.1:=by
  intro k x hk' hn hB k0 x0 h0 hB0 e;have:=hN.inj k0 k x0 x (hle' k0 h0) hk' hB0 hB e;subst this;exact hn h0
 have kp:∀ (k:Nat) (x:Nat×Nat),(stN.get k).isSome→¬ (st.get k).isSome→G.B k=some x→w'.heap[x.1]? = w.heap[x.1]?:=fun k x a b c=>h1.kept x.1 (hN.low k x a c).2 (alone k x a b c);refine⟨h1.sim.bas,h1.sim.frz,?_,?_,?_,?_,?_,?_⟩
 rotate_right 1
 ·intro k es blk size hg hB;by_cases hkk:k=key
  ·subst hkk;rw[hkey]at hg;exact h1.sim.mps _ _ _ _ hg hB
  ·by_cases hs:(st.get k).isSome
   ·exact h1.sim.mps _ _ _ _ (same k _ hkk hs hg) hB
   ·have hB0:=old k _ hkk hB;have e:=kp k (blk,size) (by rw[hg];rfl) hs hB0;obtain⟨obj,a1,a2⟩:=hN.mps k es blk size hg hB0;exact⟨obj,by rw[←a1];exact e,a2.mono h1.le⟩
 ·intro k cs z blk size hg hB;by_cases hkk:k=key
  ·subst hkk;rw[hkey]at hg;exact h1.sim.cells _ _ _ _ _ hg hB
  ·by_cases hs:(st.get k).isSome
   ·exact h1.sim.cells _ _ _ _ _ (same k _ hkk hs hg) hB
   ·have hB0:=old k _ hkk hB;have e:=kp k (blk,size) (by rw[hg];rfl) hs hB0;obtain⟨cur,ty,m,a1,a2,a3,a4,a5⟩:=hN.cells k cs z blk size hg hB0;exact⟨cur,ty,m,by rw[←a1];exact e,a2,a3,a4,a5.mono h1.le⟩
 ·intro k cs blk size hg hB i hi;by_cases hkk:k=key
  ·subst hkk;rw[hkey]at hg;exact h1.sim.frzd _ _ _ _ hg hB i hi
  ·obtain⟨u,hu⟩:=hN.frzd k cs blk size hg (old k _ hkk hB) i hi;exact⟨u,h1.le.F _ _ _ hu⟩
 ·intro k cs blk size hg ho hB o;by_cases hkk:k=key
  ·subst hkk;rw[hkey]at hg;exact h1.sim.free _ _ _ _ hg ho hB o
  ·by_cases hs:(st.get k).isSome
   ·exact h1.sim.free _ _ _ _ (same k _ hkk hs hg) ho hB o
   ·have hB0:=old k _ hkk hB;cases hF:G'.F blk o with
    |none=>rfl
    |some u =>
      exfalso;rcases h1.fnew blk o u hF with h|h|⟨k0,x0,c,d,e⟩
      ·rw[hN.free k cs blk size hg ho hB0 o]at h;simp at h
      ·have:=(hN.low k _ (by rw[hg];rfl) hB0).2;simp only[]at this;omega
      ·exact alone k (blk,size) (by rw[hg];rfl) hs hB0 k0 x0 c d e
 ·have half:∀ (k':Nat) (x x':Nat×Nat),k'≠key→(stN.get key).isSome→(stN.get k').isSome→G'.B key=some x→G'.B k'=some x'→x.1=x'.1→False:=by
   intro k' x x' hk' h0 h2 hB hB' e;rw[hkey]at h0;have hB0:=old k' _ hk' hB';by_cases hs:(st.get k').isSome
   ·have:=h1.sim.inj key k' x x' h0 (by rw[hne k' hk'];exact hs) hB hB' e;exact hk' this.symm
   ·rcases h1.own key x h0 hB with h|⟨k0,x0,c,d,e'⟩
    ·have:=(hN.low k' x' h2 hB0).2;omega
    ·exact alone k' x' h2 hs hB0 k0 x0 c d Zaa
  intro k k' x x' h0 h2 hB hB' e;by_cases hkk:k=key
  ·subst hkk;by_cases hkk':k'=k
   ·exact hkk'.symm
   ·exact(half k' x x' hkk' h0 h2 hB hB' e).elim
  ·by_cases hkk':k'=key
   ·subst hkk';exact(half k x' x hkk h2 h0 hB' hB e.symm).elim
   ·exact hN.inj k k' x x' h0 h2 (old k x hkk hB) (old k' x' hkk' hB') e
 ·intro k x h0 hB;by_cases hkk:k=key
  ·subst hkk;rw[hkey]at h0;exact h1.sim.low _ _ h0 hB
  ·obtain⟨a1,a2⟩:=hN.low k x h0 (old k x hkk hB);exact⟨a1,Nat.lt_of_lt_of_le a2 h1.size⟩
theorem NmF(hcfg:CfgOK P Gl cfg)(hE:NaV P Gl callE){mq:MOp}(hm:cOp P V modes o.op=some m)(hpc:m.plain=true∨isCallOp o.op=true)
 (hq:(mq=m∧NaB m=true)∨∃ f l,m=.call f false l∧mq=.callq f l) {G:Ghost}{st:St}{w:World}{base:Nat}(hs:Sim G st w base) (hgl:∀ b o u,Gl b o=some u→G.F b o=some u) {a:Act}{ρ:Arg→PV}(hρ:∀ x y,cArg V x=some y→VRel G (a.eval x) (ρ y))
 {key:Nat}(hkey:G.B key=none) (hcnt:∀ k,st.cnt≤k→G.B k=none) {r:PV}{st':St}(he:Nap cfg callE ρ st key mq=some (r,st')):OpW P base (fun k=>k=key) G st w o a r st':=by
 have hst:st'.cnt=st.cnt:=by
  have:NaB mq=true:=by
   rcases hq with⟨rfl,h⟩|⟨f,l,rfl,rfl⟩
   ·exact h
   ·rfl
  rcases NbG this he with rfl|⟨o,rfl⟩<;>rfl
 have he':Nap cfg callE ρ st key m=some (r,st'):=by
  rcases hq with⟨rfl,h⟩|⟨f,l,rfl,rfl⟩
  ·exact he
  ·simp only[Nap]at he ⊢;split at he
   ·rename_i l' hl;split at he
    ·rename_i r0 hr0;split at he
     ·rename_i hcl;unfold Nam;simp only[hl,hr0,if_pos hcl];exact he
     ·simp at he
    ·simp at he
   ·simp at he
 have hfu:(∃ f l,m=.calle f l)∨(∃ f l,m=.callv f l)→Nhf Gl G st:=by
  rintro(⟨f,l,rfl⟩|⟨f,l,rfl⟩)
  all_goals
   exfalso;rcases hq with⟨_,h⟩|⟨f,l,h,_⟩
   ·simp[NaB]at h
   ·simp at h
 obtain⟨_,h⟩:=NjO hcfg hE hm hpc hs hgl hfu hρ hkey hcnt he';refine h.weaken ?_;intro k hk;rcases hk with h|h
 ·exact h
 ·omega
theorem NgI{g:Option (Arg×Bool)}(hg:cGuard V n ops o.guard=some g)(h:∀ y b,g=some (y,b)→∀ x,cArg V x=some y→VRel G (a.eval x) (c.rd y))(hn:n≤a.tmps.size)(hb:NaA c g=some b):Region.wanted o (yielded ops a.tmps)=b:=by
 cases hog:o.guard with
 |none =>
   rw[hog]at hg;simp only[cGuard,Sj]at hg;subst hg;simp only[NaA,Sj]at hb;subst hb;simp[Region.wanted,hog]
 |some jw =>
   obtain⟨j,want⟩:=jw;rw[hog]at hg;simp only[cGuard]at hg;split at hg
   ·rename_i t ht;split at hg
    ·rename_i htn;simp only[Sj]at hg;subst hg;have hv:VRel G (a.tmps.getD t undef) (c.rd (if V.contains t then .t t else .l t)):=by
      have:=h _ _ rfl (.tmp t) rfl;simpa[Act.eval]using this
     have hy:yielded ops a.tmps j=match a.tmps.getD t undef with|.bool b=>some b|_=>none:=by
      have hlt:t<a.tmps.size:=Nat.lt_of_lt_of_le htn hn;unfold yielded;rw[ht];simp only[Option.bind_some,Array.getElem?_eq_getElem hlt,Array.getD_eq_getD_getElem?,Option.getD_some];cases a.tmps[t]<;>rfl
     simp only[Region.wanted,hog,hy];simp only[NaA]at hb;split at hb
     ·rename_i y hy2;simp only[Sj]at hb;subst hb;rw[hy2]at hv;generalize a.tmps.getD t undef=q at hv;cases hv;cases y<;>cases want<;>rfl
     ·rename_i hy2;simp only[Sj]at hb;subst hb;rw[hy2]at hv;generalize a.tmps.getD t undef=q at hv;cases hv;rfl
     ·simp at hb
    ·simp at hg
   ·simp at hg
theorem Nh2(h:cDst V n d=some md):md.slot=d:=by
 cases d with
 |none=>simp[cDst]at h;subst h;rfl
 |some t =>
   simp only[cDst]at h;split at h
   ·simp only[Sj]at h;subst h;split<;>rfl
   ·simp at h
def NbL(ops:Array Oper)(i:Nat):Option Nat:=(ops[i]?).bind (·.dst)
structure DCtx(P:Program)(Gl:Gmap)(V:List Nat)(n:Nat)(modes:FuncId→Option Bool)(cfg:Cfg)(callE:CallE)(ops:Array Oper)(ml:List MOper)(A:Nat→Nat→Prop)(key:Nat)(G0:Ghost)(cs:Nat→Loc)(rs:Nat→PV):Prop where
 len:ml.length=ops.size
 comp:∀ (i:Nat) (o:Oper) (mo:MOper),ops[i]? = some o→ml[i]? = some mo→cDst V n o.dst=some mo.dst∧cGuard V n ops o.guard=some mo.guard∧(mo.op=.bad∨∃ m,cOp P V modes o.op=some m∧(m.plain=true∨isCallOp o.op=true)∧((mo.op=m∧NaB m=true)∨∃ f l,m=.call f false l∧mo.op=.callq f l))
 step:∀ (i:Nat) (mo:MOper),ml[i]? = some mo→NdZ cfg callE (key+8 * i) mo (cs i) (rs i) (cs (i+1))
 quiet:∀ (i:Nat) (mo:MOper),ml[i]? = some mo→NaB mo.op=true
 back:∀ (i:Nat) (o:Oper),ops[i]? = some o→∀ e∈o.after,Region.binds .any e=true→e.on<i
 ahead:∀ (i:Nat) (o:Oper) (j:Nat),ops[i]? = some o→j<ops.size→A i j→∃ e∈o.after,Region.binds .any e=true∧(e.on=j∨A e.on j)
 lone:∀ (i j t:Nat),i<ops.size→j<ops.size→NbL ops i=some t→NbL ops j=some t→i=j
 sees:∀ (i j:Nat) (mo:MOper) (t:Nat),ml[i]? = some mo→j<ops.size→NbL ops j=some t→t∈mo.reads→(j<i∧A i j)∨(i<j∧A j i)
 full:Nhf Gl G0 (cs 0).st
 fresh:∀ k,key≤k→G0.B k=none
 cnt:key+8 * ops.size≤(cs 0).st.cnt
end
section
variable {P:Program}{Gl:Gmap}{V:List Nat}{n:Nat}{modes:FuncId→Option Bool}{cfg:Cfg}{callE:CallE}{ops:Array Oper}{ml:List MOper}{A:Nat→Nat→Prop}{key:Nat}{G0:Ghost}{cs:Nat→Loc}{rs:Nat→PV}
theorem DCtx.mo(D:DCtx P Gl V n modes cfg callE ops ml A key G0 cs rs){i:Nat}(h:i<ops.size):∃ o mo,ops[i]? = some o∧ml[i]? = some mo :=
 ⟨ops[i],ml[i]'(by rw[D.len];exact h),Array.getElem?_eq_getElem h,List.getElem?_eq_getElem _⟩
theorem DCtx.st1(D:DCtx P Gl V n modes cfg callE ops ml A key G0 cs rs){i:Nat}(h:i<ops.size):(cs (i+1)).st=(cs i).st∨∃ o,(cs (i+1)).st=(cs i).st.put (key+8 * i) (some o):=by
 obtain⟨o,mo,ho,hmo⟩:=D.mo h;rcases D.step i mo hmo with⟨_,st,hev,hc⟩|⟨_,_,hc⟩
 ·rw[hc,Nbb];exact NbG (D.quiet i mo hmo) hev
 ·rw[hc,Nbb];exact .inl rfl
theorem DCtx.get1(D:DCtx P Gl V n modes cfg callE ops ml A key G0 cs rs){i:Nat}(h:i<ops.size){k:Nat}(hk:k≠key+8 * i):(cs (i+1)).st.get k=(cs i).st.get k:=by
 rcases D.st1 h with e|⟨o,e⟩
 ·rw[e]
 ·rw[e];exact Yae (fun h=>hk h.symm)
theorem DCtx.cntEq(D:DCtx P Gl V n modes cfg callE ops ml A key G0 cs rs):∀ i,i≤ops.size→(cs i).st.cnt=(cs 0).st.cnt
 |0,_=>rfl
 |i+1,h=>by
   rw[←D.cntEq i Zaa];rcases D.st1 (i:=i) Zaa with e|⟨o,e⟩<;>rw[e];rfl
theorem DCtx.getN(D:DCtx P Gl V n modes cfg callE ops ml A key G0 cs rs):∀ j i k,i≤j→j≤ops.size→(∀ m,i≤m→m<j→k≠key+8 * m)→(cs j).st.get k=(cs i).st.get k
 |0,i,k,hi,_,_=>by rw[show i=0 by omega]
 |j+1,i,k,hi,hj,h=>by
   by_cases e:i=j+1
   ·rw[e]
   ·rw[D.get1 Zaa (h j Zaa Zaa),D.getN j i k Zaa Zaa (fun m a b=>h m a Zaa)]
theorem DCtx.new0(D:DCtx P Gl V n modes cfg callE ops ml A key G0 cs rs)(m:Nat):(cs 0).st.get (key+8 * m)=none:=by
 cases hx:(cs 0).st.get (key+8 * m)with
 |none=>rfl
 |some x =>
   have:=D.full.2 (key+8 * m) (by rw[hx];rfl);rw[D.fresh _ Zaa]at this;simp at this
theorem DCtx.newN(D:DCtx P Gl V n modes cfg callE ops ml A key G0 cs rs){j m:Nat}(hj:j≤ops.size)(hm:j≤m):(cs j).st.get (key+8 * m)=none:=by
 rw[D.getN j 0 _ Zaa hj (fun q _ hq=>by omega),D.new0]
theorem DCtx.sub(D:DCtx P Gl V n modes cfg callE ops ml A key G0 cs rs){j:Nat}(hj:j≤ops.size){k:Nat}{x:PObj}(h:(cs j).st.get k=some x):(cs ops.size).st.get k=some x:=by
 rw[D.getN ops.size j k hj (Nat.le_refl _) ?_]
 ·exact h
 ·rintro m hm1 hm2 rfl;rw[D.newN hj hm1]at h;simp at h
theorem DCtx.at_key(D:DCtx P Gl V n modes cfg callE ops ml A key G0 cs rs){j:Nat}(hj:j<ops.size):(cs ops.size).st.get (key+8 * j)=(cs (j+1)).st.get (key+8 * j) :=
 D.getN ops.size (j+1) _ Zaa (Nat.le_refl _) (fun m _ _=>by omega)
theorem DCtx.slot(D:DCtx P Gl V n modes cfg callE ops ml A key G0 cs rs)(t:Nat):∀ j,j≤ops.size →
 (∃ i,i<j∧NbL ops i=some t∧(lk V (cs j) t=rs i∨lk V (cs j) t=.und))∨((∀ i,i<j→NbL ops i≠some t)∧lk V (cs j) t=lk V (cs 0) t)
 |0,_=>.inr ⟨fun i hi=>by omega,rfl⟩
 |j+1,h=>by
   obtain⟨o,mo,ho,hmo⟩:=D.mo (i:=j) Zaa;obtain⟨hd,_,_⟩:=D.comp j o mo ho hmo;have hda:NbL ops j=o.dst:=(by simp[NbL,ho]);by_cases hdt:o.dst=some t
   ·left;refine⟨j,by omega,by rw[hda,hdt],?_⟩;rw[hdt]at hd;rcases D.step j mo hmo with⟨_,st,hev,hc⟩|⟨_,hr,hc⟩
    ·rw[hc];exact Ndb hd
    ·rw[hc,hr];exact Ndb hd
   ·have e:lk V (cs (j+1)) t=lk V (cs j) t:=by
     rcases D.step j mo hmo with⟨_,st,hev,hc⟩|⟨_,hr,hc⟩
     ·rw[hc,Net hd hdt];rfl
     ·rw[hc,Net hd hdt]
    rcases D.slot t j Zaa with⟨i,hi,hi2,hi3⟩|⟨h1,h2⟩
    ·left;exact⟨i,by omega,hi2,by rw[e];exact hi3⟩
    ·right;refine⟨fun i hi=>?_,by rw[e];exact h2⟩;by_cases hij:i=j
     ·subst hij;rw[hda];exact hdt
     ·exact h1 i Zaa
structure DInv(V:List Nat)(n:Nat)(ops:Array Oper)(key base:Nat)(G0:Ghost)(a0:Act)(w0:World)(cs:Nat→Loc)(rs:Nat→PV)(L:Nat→Prop)(G:Ghost)(a:Act)(w:World):Prop where
 size:n≤a.tmps.size
 defers:a.defers=a0.defers
 edges:∀ (i:Nat) (o:Oper),L i→ops[i]? = some o→∀ e∈o.after,Region.binds .any e=true→L e.on
 inr:∀ i,L i→i<ops.size
 slotW:∀ i t,L i→NbL ops i=some t→VRel G (a.tmps.getD t undef) (rs i)
 slotO:∀ t,(∀ i,L i→NbL ops i≠some t)→VRel G (a.tmps.getD t undef) (lk V (cs 0) t)
 le:G0.le G
 new:∀ k x,G.B k=some x→G0.B k=some x∨∃ i,L i∧k=key+8 * i
 sim:Sim G (cs ops.size).st w base
 os:w.os=w0.os
 tape:w.tape=w0.tape
 output:w.output=w0.output
 hsize:w0.heap.size≤w.heap.size
 kept:∀ j,j<w0.heap.size→(∀ k x,((cs 0).st.get k).isSome→G0.B k=some x→x.1≠j)→w.heap[j]? = w0.heap[j]?
 own:∀ k x,((cs ops.size).st.get k).isSome→G.B k=some x→w0.heap.size≤x.1∨∃ k0 x0,((cs 0).st.get k0).isSome∧G0.B k0=some x0∧x0.1=x.1
 fnew:∀ b o u,G.F b o=some u→G0.F b o=some u∨w0.heap.size≤b∨∃ k0 x0,((cs 0).st.get k0).isSome∧G0.B k0=some x0∧x0.1=b
 ful:∀ i,L i→((cs ops.size).st.get (key+8 * i)).isSome→(G.B (key+8 * i)).isSome
variable {base:Nat}{a0:Act}{w0:World}
theorem DInv.closed(D:DCtx P Gl V n modes cfg callE ops ml A key G0 cs rs){L:Nat→Prop}{G:Ghost}{a:Act}{w:World}(I:DInv V n ops key base G0 a0 w0 cs rs L G a w):∀ i j,L i→j<ops.size→A i j→L j:=by
 intro i
 induction i using Nat.strongRecOn with
 |ind i ih =>
   intro j hi hj hA;have hin:=I.inr i hi;obtain⟨o,mo,ho,hmo⟩:=D.mo hin;obtain⟨e,he,hb,hc⟩:=D.ahead i o j ho hj hA;have hL:=I.edges i o hi ho e he hb;rcases hc with h|h
   ·rw[←h];exact hL
   ·exact ih e.on (D.back i o ho e he hb) j hL hj h
theorem DInv.read(D:DCtx P Gl V n modes cfg callE ops ml A key G0 cs rs){L:Nat→Prop}{G:Ghost}{a:Act}{w:World}(I:DInv V n ops key base G0 a0 w0 cs rs L G a w){j:Nat}{o:Oper}{mo:MOper}(ho:ops[j]? = some o)(hmo:ml[j]? = some mo)(hj:¬ L j)(hr:∀ e∈o.after,Region.binds .any e=true→L e.on){t:Nat}(ht:t∈mo.reads):VRel G (a.tmps.getD t undef) (lk V (cs j) t):=by
 have hjn:j<ops.size:=(Array.getElem?_eq_some_iff.1 ho).1;rcases D.slot t j Zaa with⟨i,hi,hd,hv⟩|⟨h1,h2⟩
 ·have hL:L i:=by
   rcases D.sees j i mo t hmo Zaa hd ht with⟨_,hA⟩|⟨hc,_⟩
   ·obtain⟨e,he,hb,hc⟩:=D.ahead j o i ho Zaa hA;rcases hc with h|h
    ·rw[←h];exact hr e he hb
    ·exact I.closed D e.on i (hr e he hb) Zaa h
   ·omega
  rcases hv with hv|hv
  ·rw[hv];exact I.slotW i t hL hd
  ·rw[hv];exact .und _
 ·rw[h2];refine I.slotO t ?_;intro i hi hd;have hin:=I.inr i hi;rcases D.sees j i mo t hmo hin hd ht with⟨hc,_⟩|⟨_,hA⟩
  ·exact h1 i hc hd
  ·exact hj (I.closed D i j hi hjn hA)
theorem Nen{a:Act}{n:Nat}(hn:n≤a.tmps.size){t:Nat}(ht:t<n){v:Value}(t':Nat):(a.put (some t) v).tmps.getD t' undef=if t=t' then v else a.tmps.getD t' undef:=by
 simp only[Act.put,Array.getD_eq_getD_getElem?,Array.getElem?_setIfInBounds];by_cases e:t=t'
 ·subst e;simp[show t<a.tmps.size by omega]
 ·simp[e]
theorem NfN{V:List Nat}{n t:Nat}{md:MDst}(h:cDst V n (some t)=some md):t<n:=by
 simp only[cDst]at h;split at h
 ·assumption
 ·simp at h
theorem DInv.after(D:DCtx P Gl V n modes cfg callE ops ml A key G0 cs rs){L:Nat→Prop}{G:Ghost}{a:Act}{w:World}(I:DInv V n ops key base G0 a0 w0 cs rs L G a w){j:Nat}{o:Oper}{mo:MOper}(ho:ops[j]? = some o)(hmo:ml[j]? = some mo)(hj:¬ L j)(hr:∀ e∈o.after,Region.binds .any e=true→L e.on)
 {v:Value}{G':Ghost}{w':World}(hv:VRel G' v (rs j)) (hst:Step base (fun k=>k=key+8 * j) G (cs j).st w G' (cs (j+1)).st w'):DInv V n ops key base G0 a0 w0 cs rs (fun i=>i=j∨L i) G' (a.put o.dst v) w':=by
 have hjn:j<ops.size:=(Array.getElem?_eq_some_iff.1 ho).1;have hda:NbL ops j=o.dst:=by simp[NbL,ho]
 obtain⟨hd,_,_⟩:=D.comp j o mo ho hmo;have hGk:G.B (key+8 * j)=none:=by
  cases hx:G.B (key+8 * j)with
  |none=>rfl
  |some x =>
    rcases I.new _ x hx with h|⟨i,hi,he⟩
    ·rw[D.fresh _ Zaa]at h;simp at h
    ·exact absurd (by rw[show j=i by omega];exact hi) hj
 have keep:∀ t,o.dst≠some t→(a.put o.dst v).tmps.getD t undef=a.tmps.getD t undef:=by
  intro t ht;cases hod:o.dst with
  |none=>rfl
  |some u =>
    rw[hod]at hd;rw[Nen I.size (NfN hd),if_neg (fun e=>ht (by rw[hod,e]))]
 have ownOK:∀ k0 x0,((cs j).st.get k0).isSome→G.B k0=some x0→w0.heap.size≤x0.1∨∃ k1 x1,((cs 0).st.get k1).isSome∧G0.B k1=some x1∧x1.1=x0.1:=by
  intro k0 x0 h0 hB;refine I.own k0 x0 ?_ hB;obtain⟨y,hy⟩:=Option.isSome_iff_exists.1 h0;rw[D.sub Zaa hy];rfl
 refine⟨by rw[Act.put_size];exact I.size,by rw[Act.put_defers'];exact I.defers,?_,?_,?_,?_,I.le.trans hst.le,?_,?_,hst.os.trans I.os,hst.tape.trans I.tape,hst.output.trans I.output,Nat.le_trans I.hsize hst.size,?_,?_,?_,?_⟩
 ·rintro i o' (rfl|hi) ho' e he hb
  ·rw[ho]at ho';cases ho';exact .inr (hr e he hb)
  ·exact .inr (I.edges i o' hi ho' e he hb)
 ·rintro i (rfl|hi)
  ·exact hjn
  ·exact I.inr i hi
 ·rintro i t (rfl|hi) hdt
  ·rw[hda]at hdt;rw[hdt]at hd ⊢;rw[Nen I.size (NfN hd),if_pos rfl];exact hv
  ·have hne:o.dst≠some t:=by
    intro e;have:=D.lone i j t (I.inr i hi) hjn hdt (by rw[hda];exact e);subst this;exact hj hi
   rw[keep t hne];exact(I.slotW i t hi hdt).mono hst.le
 ·intro t ht;rw[keep t (by rw[←hda];exact ht j (.inl rfl))];exact(I.slotO t (fun i hi=>ht i (.inr hi))).mono hst.le
 ·intro k x hx;rcases hst.new k x hx with h|h
  ·rcases I.new k x h with h2|⟨i,hi,he⟩
   ·exact .inl h2
   ·exact .inr ⟨i,.inr hi,he⟩
  ·exact .inr ⟨j,.inl rfl,h⟩
 ·exact Sim.merge I.sim (fun k x hx=>D.sub Zaa hx) hst hGk (D.at_key hjn) (fun k hk=>D.get1 hjn hk)
 ·intro q hq hk;rw[hst.kept q (Nat.lt_of_lt_of_le hq I.hsize) ?_]
  ·exact I.kept q hq hk
  ·intro k x hx hB e;rcases ownOK k x hx hB with h|⟨k1,x1,c,d,e'⟩
   ·omega
   ·exact hk k1 x1 c d Zaa
 ·intro k x hx hB;by_cases hkk:k=key+8 * j
  ·subst hkk;rw[D.at_key hjn]at hx;rcases hst.own _ x hx hB with h|⟨k0,x0,c,d,e⟩
   ·exact .inl (Nat.le_trans I.hsize h)
   ·rcases ownOK k0 x0 c d with h|⟨k1,x1,c1,d1,e1⟩
    ·exact .inl Zaa
    ·exact .inr ⟨k1,x1,c1,d1,by omega⟩
  ·rcases hst.new k x hB with h|h
   ·exact I.own k x hx h
   ·exact absurd h hkk
 ·intro b q u hu;rcases hst.fnew b q u hu with h|h|⟨k0,x0,c,d,e⟩
  ·exact I.fnew b q u h
  ·exact .inr (.inl (Nat.le_trans I.hsize h))
  ·rcases ownOK k0 x0 c d with h|⟨k1,x1,c1,d1,e1⟩
   ·exact .inr (.inl Zaa)
   ·exact .inr (.inr ⟨k1,x1,c1,d1,by omega⟩)
 ·rintro i (rfl|hi) hs
  ·rw[D.at_key hjn]at hs;rcases hst.ful _ hs with h|h
   ·rw[D.newN Zaa (Nat.le_refl _)]at h;simp at h
   ·exact h
  ·obtain⟨x,hx⟩:=Option.isSome_iff_exists.1 (I.ful i hi hs);rw[hst.le.B _ x hx];rfl
theorem DInv.one(hcfg:CfgOK P Gl cfg)(hE:NaV P Gl callE)(D:DCtx P Gl V n modes cfg callE ops ml A key G0 cs rs){L:Nat→Prop}{G:Ghost}{a:Act}{w:World}(I:DInv V n ops key base G0 a0 w0 cs rs L G a w){j:Nat}{o:Oper}(ho:ops[j]? = some o)(hj:¬ L j)(hr:∀ e∈o.after,Region.binds .any e=true→L e.on)
 {Q:Exit→Act→World→Prop}{K:Act→World→Prop}(hK:∀ a' w' G',DInv V n ops key base G0 a0 w0 cs rs (fun i=>i=j∨L i) G' a' w'→K a' w'):wpOp P ops Q j K a w:=by
 have hjn:j<ops.size:=(Array.getElem?_eq_some_iff.1 ho).1;obtain⟨o',mo,ho',hmo⟩:=D.mo hjn;rw[ho]at ho';cases ho';obtain⟨hd,hg,hop⟩:=D.comp j o mo ho hmo;have hread:∀ x y,cArg V x=some y→(∀ t,y.slot=some t→t∈mo.reads)→VRel G (a.eval x) ((cs j).rd y):=by
  intro x y hy hs;cases x with
  |tmp t =>
    simp only[cArg,Sj]at hy;subst hy;rw[Npy];exact I.read D ho hmo hj hr (hs t (by split<;>rfl))
  |const v =>
    simp only[cArg,Option.map_eq_some_iff]at hy;obtain⟨p,hp,rfl⟩:=hy;exact Ncn hp
  |global g=>simp[cArg]at hy
  |func f =>
    simp only[cArg,Sj]at hy;subst hy;exact .fn f #[] [] rfl (fun i v p h=>by simp at h)
 have hwant:∀ b,NaA (cs j) mo.guard=some b→Region.wanted o (yielded ops a.tmps)=b:=by
  intro b hb;refine NgI (G:=G) hg ?_ I.size hb;intro y b' hgy x hx;refine hread x y hx ?_;intro t ht;unfold MOper.reads;rw[hgy];exact List.mem_filterMap.2 ⟨y,by simp,ht⟩
 unfold wpOp;simp only[ho];rcases D.step j mo hmo with⟨hgd,st,hev,hc⟩|⟨hgd,hrj,hc⟩
 ·rw[hwant true hgd,if_pos rfl];rcases hop with hbad|⟨m,hcop,hpc,hq⟩
  ·rw[hbad]at hev;simp[Nap]at hev
  ·left;have hst:(cs (j+1)).st=st:=(by rw[hc,Nbb]);have hkeyN:G.B (key+8 * j)=none:=by
    cases hx:G.B (key+8 * j)with
    |none=>rfl
    |some x =>
      rcases I.new _ x hx with h|⟨i,hi,he⟩
      ·rw[D.fresh _ Zaa]at h;simp at h
      ·exact absurd (by rw[show j=i by omega];exact hi) hj
   have hcnt:∀ k,(cs j).st.cnt≤k→G.B k=none:=by
    intro k hk;have h1:=D.cntEq j Zaa;have h2:=D.cnt;cases hx:G.B k with
    |none=>rfl
    |some x =>
      rcases I.new _ x hx with h|⟨i,hi,he⟩
      ·rw[D.fresh _ Zaa]at h;simp at h
      ·have:=I.inr i hi;omega
   -- what it does not read does not count
   let ρ:Arg→PV:=fun y=>match y.slot with
    |none=>(cs j).rd y
    |some t=>if t∈mo.reads then(cs j).rd y else .und
   have hρ:∀ x y,cArg V x=some y→VRel G (a.eval x) (ρ y):=by
    intro x y hy;show VRel G (a.eval x) (match y.slot with|none=>(cs j).rd y|some t=>if t∈mo.reads then(cs j).rd y else .und);split
    ·rename_i hn;exact hread x y hy (fun t ht=>by rw[hn]at ht;simp at ht)
    ·rename_i t ht;split
     ·rename_i hm;exact hread x y hy (fun t' ht'=>by rw[ht]at ht';cases ht';exact hm)
     ·exact .und _
   have hev':Nap cfg callE ρ (cs j).st (key+8 * j) mo.op=some (rs j,st):=by
    rw[←hev];refine Nfq _ ?_;intro y hy;show(match y.slot with|none=>(cs j).rd y|some t=>if t∈mo.reads then(cs j).rd y else .und)=_;split
    ·rfl
    ·rename_i t ht;rw[if_pos];unfold MOper.reads;exact List.mem_filterMap.2 ⟨y,List.mem_append_left _ hy,ht⟩
   have hs:Sim G (cs j).st w base:=I.sim.less (fun k x hx=>D.sub Zaa hx);refine NmF hcfg hE hcop hpc hq hs (fun b o u hu=>I.le.F b o u (D.full.1 b o u hu)) hρ hkeyN hcnt hev' _ _ ?_;intro v w' G' hv hstep;refine hK _ _ G' (I.after D ho hmo hj hr hv ?_);rw[hst];exact hstep
 ·rw[hwant false hgd,if_neg Zaf];have hst:(cs (j+1)).st=(cs j).st:=by rw[hc,Nbb]
  refine hK _ _ G (I.after D ho hmo hj hr (v:=undef) (by rw[hrj];exact NdO G) ?_);rw[hst];exact Step.refl (I.sim.less (fun k x hx=>D.sub Zaa hx))
end
section
variable {V:List Nat}{n key:Nat}{ops:Array Oper}{l:Array Bool}{G0:Ghost}{cs:Nat→Loc}{rs:Nat→PV}{P:Program}{Gl:Gmap}{modes:FuncId→Option Bool}{cfg:Cfg}{callE:CallE}{ml:List MOper}
def LS(l:Array Bool)(i:Nat):Prop:=l.getD i false=true
theorem NmM{j:Nat}(hj:j<l.size)(i:Nat):LS (l.setIfInBounds j true) i↔i=j∨LS l i:=by
 unfold LS;by_cases e:j=i
 ·subst e;simp[hj]
 ·simp only[Array.getD_eq_getD_getElem?,Array.getElem?_setIfInBounds,if_neg e];constructor
  ·exact fun h=>.inr h
  ·rintro(h|h)
   ·exact absurd h.symm e
   ·exact h
theorem NgB{j:Nat}(hj:l[j]? = some false):(l.setIfInBounds j true).count false+1=l.count false:=by
 obtain⟨hlt,hv⟩:=Array.getElem?_eq_some_iff.1 hj;rw[Array.setIfInBounds,dif_pos hlt,Array.count_set];have h1:0<l.count false:=Array.count_pos_iff.2 (by rw[←hv];exact Array.getElem_mem hlt);simp only[hv];simp;omega
theorem DInv.congr{base:Nat}{a0:Act}{w0:World}{L L':Nat→Prop}{G:Ghost}{a:Act}{w:World}(h:DInv V n ops key base G0 a0 w0 cs rs L G a w)(e:∀ i,L' i↔L i):DInv V n ops key base G0 a0 w0 cs rs L' G a w:=by
 have:L'=L:=funext fun i=>propext (e i);rw[this];exact h
theorem NiK{A:Nat→Nat→Prop}(D:DCtx P Gl V n modes cfg callE ops ml A key G0 cs rs)(hl:l.size=ops.size)(hr:Region.ready .any ops l=[]):∀ i,i<ops.size→LS l i:=by
 intro i
 induction i using Nat.strongRecOn with
 |ind i ih =>
   intro hi;by_cases h:LS l i
   ·exact h
   ·exfalso;have:i∈Region.ready .any ops l:=by
     rw[mem_ready];refine⟨?_,ops[i],Array.getElem?_eq_getElem hi,?_⟩
     ·unfold LS at h;have h2:i<l.size:=(by omega);simp only[Array.getD_eq_getD_getElem?,Array.getElem?_eq_getElem h2,Option.getD_some]at h ⊢;simpa using h
     ·intro e he hb;have hlt:=D.back i _ (Array.getElem?_eq_getElem hi) e he hb;exact ih e.on hlt Zaa
    rw[hr]at this;simp at this
theorem Njt(hcfg:CfgOK P Gl cfg)(hE:NaV P Gl callE){A:Nat→Nat→Prop}(D:DCtx P Gl V n modes cfg callE ops ml A key G0 cs rs)
 {base:Nat}{a0:Act}{w0:World}{Q:Exit→Act→World→Prop}(hQ:∀ a w G,DInv V n ops key base G0 a0 w0 cs rs (fun i=>i<ops.size) G a w→Q .normal a w) :
 ∀ (fuel:Nat) (l:Array Bool) (G:Ghost) (a:Act) (w:World),l.size=ops.size→l.count false=fuel→DInv V n ops key base G0 a0 w0 cs rs (LS l) G a w→wpAny P .any ops Q fuel l a w:=by
 have fin:∀ (l:Array Bool) (G:Ghost) (a:Act) (w:World),l.size=ops.size→DInv V n ops key base G0 a0 w0 cs rs (LS l) G a w→Region.ready .any ops l=[]→Q .normal a w:=by
  intro l G a w hl I hr;refine hQ a w G (I.congr fun i=>⟨fun h=>NiK D hl hr i h,fun h=>I.inr i h⟩)
 intro fuel
 induction fuel with
 |zero =>
   intro l G a w hl hc I;have hr:Region.ready .any ops l=[]:=by
    cases hx:Region.ready .any ops l with
    |nil=>rfl
    |cons i r =>
      exfalso;have hi:i∈Region.ready .any ops l:=(by rw[hx];simp);rw[mem_ready]at hi;obtain⟨h0,o,ho,_⟩:=hi;have hlt:i<l.size:=(by rw[hl];exact(Array.getElem?_eq_some_iff.1 ho).1);simp only[Array.getD_eq_getD_getElem?,Array.getElem?_eq_getElem hlt,Option.getD_some]at h0;have:0<l.count false:=Array.count_pos_iff.2 (by rw[←h0];exact Array.getElem_mem hlt);omega
   exact⟨hr,fin l G a w hl I hr⟩
 |succ fuel ih =>
   intro l G a w hl hc I;refine⟨fin l G a w hl I,?_⟩;intro i hi;rw[mem_ready]at hi;obtain⟨h0,o,ho,he⟩:=hi;have hlt:i<l.size:=(by rw[hl];exact(Array.getElem?_eq_some_iff.1 ho).1);have h0':l[i]? = some false:=by
    simp only[Array.getD_eq_getD_getElem?,Array.getElem?_eq_getElem hlt,Option.getD_some]at h0;rw[Array.getElem?_eq_getElem hlt,h0]
   refine I.one hcfg hE D ho ?_ (fun e h hb=>he e h hb) ?_
   ·unfold LS;simp[h0']
   ·intro a' w' G' I';refine ih _ G' a' w' (by simp[hl]) ?_ (I'.congr fun k=>NmM hlt k);have:=NgB h0';omega
theorem NiS(hcfg:CfgOK P Gl cfg)(hE:NaV P Gl callE)(hml:mapO (NiP P V n modes ops) ops.toList=some ml){masks:List Nat}(hdo:NjL ops.toList (ml.map Nbt) masks=true)
 {base key:Nat}{G:Ghost}{a:Act}{w:World}{c c':Loc}(hL:LocRel V G a c) (hn:n≤a.tmps.size) (hs:Sim G c.st w base) (hfu:Nhf Gl G c.st) (hk:∀ k,key≤k→G.B k=none) (hcnt:key+8 * ops.size≤c.st.cnt) (he:Na5 cfg callE (ml.map Nbt) key c=some c')
 {Q:Exit→Act→World→Prop}(hQ:∀ a' w' G',LocRel V G' a' c'→n≤a'.tmps.size→a'.defers=a.defers→c.st.cnt=c'.st.cnt→Step base (fun k=>key≤k∧k<key+8 * ops.size) G c.st w G' c'.st w'→Q .normal a' w') :
 wpAny P .any ops Q ops.size (Array.replicate ops.size false) a w:=by
 unfold NjL at hdo;simp only[Bool.and_eq_true]at hdo;obtain⟨hdo1,hdo2⟩:=hdo;unfold NfV at hdo2;obtain⟨cs,rs,h0,hN,hst⟩:=NeJ _ _ _ _ he;have hlen0:=(NaZ hml).1;have hlen:(ml.map Nbt).length=ops.size:=by simpa using hlen0
 have hD:∀ i,i<ops.size→∀ o mo,ops[i]? = some o→(ml.map Nbt)[i]? = some mo→NaB mo.op=true∧(∀ e∈o.after,Region.binds .any e=true→e.on<i) ∧
  (∀ j,j<ops.size→NaK masks i j=true→∃ e∈o.after,Region.binds .any e=true∧(e.on=j∨NaK masks e.on j=true)) ∧
  (∀ j,j<ops.size→∀ mj,(ml.map Nbt)[j]? = some mj→∀ t,mj.dst.slot=some t→(i=j∨mo.dst.slot≠some t)∧(t∈mo.reads→(j<i∧NaK masks i j=true)∨(i<j∧NaK masks j i=true))):=by
  intro i hi o mo ho hmo;have h:=List.all_eq_true.1 hdo2 i (by simpa using hi);have ho':ops.toList[i]? = some o:=by simpa using ho
  rw[ho',hmo]at h;simp only[Bool.and_eq_true]at h;obtain⟨⟨h2,h3⟩,h4⟩:=h;refine⟨List.all_eq_true.1 hdo1 mo (List.mem_of_getElem? hmo),?_,?_,?_⟩
  ·intro e he hb;have:=List.all_eq_true.1 h2 e (by simpa using he);simpa[hb]using this
  ·intro j hj hA;have:=List.all_eq_true.1 h3 j (by simpa using hj);simp only[hA,Bool.not_true,Bool.false_or,List.any_eq_true,Bool.and_eq_true,Bool.or_eq_true,beq_iff_eq]at this;obtain⟨e,he,hb,hc⟩:=this;exact⟨e,by simpa using he,hb,hc⟩
  ·intro j hj mj hmj t ht;have:=List.all_eq_true.1 h4 j (by simpa using hj);rw[hmj]at this;simp only[ht,Bool.and_eq_true,Bool.or_eq_true,decide_eq_true_eq,Bool.not_eq_true',bne_iff_ne]at this;obtain⟨h5,h6⟩:=this;refine⟨h5,fun hr=>?_⟩;rcases h6 with(h6|h6)|h6
   ·have:mo.reads.contains t=true:=(by simpa using hr);rw[this]at h6;simp at h6
   ·exact .inl h6
   ·exact .inr h6
 have hcomp:∀ (i:Nat) (o:Oper) (mo:MOper),ops[i]? = some o→(ml.map Nbt)[i]? = some mo→cDst V n o.dst=some mo.dst∧cGuard V n ops o.guard=some mo.guard∧(mo.op=.bad∨∃ m,cOp P V modes o.op=some m∧(m.plain=true∨isCallOp o.op=true)∧((mo.op=m∧NaB m=true)∨∃ f l,m=.call f false l∧mo.op=.callq f l)):=by
  intro i o mo ho hmo;rw[List.getElem?_map,Option.map_eq_some_iff]at hmo;obtain⟨m0,hm0,rfl⟩:=hmo;obtain⟨hd,hg,hop⟩:=NdQ ((NaZ hml).2 i o m0 (by simpa using ho) hm0);obtain⟨d0,op0,g0⟩:=m0;unfold Nbt;split
  ·rename_i f args heq;simp only[]at heq;refine⟨hd,hg,?_⟩;rcases hop with h|⟨h1,h2⟩
   ·simp only[]at h;rw[h]at heq;simp at heq
   ·right;refine⟨_,h1,h2,.inr ⟨f,args,heq,rfl⟩⟩
  ·split
   ·rename_i hq;refine⟨hd,hg,?_⟩;rcases hop with h|⟨h1,h2⟩
    ·exact .inl h
    ·exact .inr ⟨_,h1,h2,.inl ⟨rfl,hq⟩⟩
   ·exact⟨hd,hg,.inl rfl⟩
 have hdst:∀ i,i<ops.size→∃ o mo,ops[i]? = some o∧(ml.map Nbt)[i]? = some mo∧mo.dst.slot=NbL ops i:=by
  intro i hi;refine⟨ops[i],(ml.map Nbt)[i]'(by rw[hlen];exact hi),Array.getElem?_eq_getElem hi,List.getElem?_eq_getElem _,?_⟩;obtain⟨hd,_,_⟩:=hcomp i _ _ (Array.getElem?_eq_getElem hi) (List.getElem?_eq_getElem (by rw[hlen];exact hi));rw[Nh2 hd];simp[NbL,hi]
 have D:DCtx P Gl V n modes cfg callE ops (ml.map Nbt) (fun i j=>NaK masks i j=true) key G cs rs:=by
  have lt:∀ (i:Nat) (o:Oper),ops[i]? = some o→i<ops.size:=fun i o h=>(Array.getElem?_eq_some_iff.1 h).1;have lt2:∀ (i:Nat) (mo:MOper),(ml.map Nbt)[i]? = some mo→i<ops.size:=fun i o h=>by rw[←hlen];exact(List.getElem?_eq_some_iff.1 h).1
  refine⟨hlen,hcomp,hst,?_,?_,?_,?_,?_,by rw[h0];exact hfu,hk,by rw[h0];exact hcnt⟩
  ·intro i mo hmo;have hi:=lt2 i mo hmo;exact(hD i hi _ mo (Array.getElem?_eq_getElem hi) hmo).1
  ·intro i o ho e he hb;have hi:=lt i o ho;obtain⟨_,mo,_,hmo,_⟩:=hdst i hi;exact(hD i hi o mo ho hmo).2.1 e he hb
  ·intro i o j ho hj hA;have hi:=lt i o ho;obtain⟨_,mo,_,hmo,_⟩:=hdst i hi;exact(hD i hi o mo ho hmo).2.2.1 j hj hA
  ·intro i j t hi hj hti htj;obtain⟨oi,mi,hoi,hmi,hsi⟩:=hdst i hi;obtain⟨oj,mj,hoj,hmj,hsj⟩:=hdst j hj;rcases((hD i hi oi mi hoi hmi).2.2.2 j hj mj hmj t (by rw[hsj,htj])).1 with h|h
   ·exact h
   ·exact absurd (by rw[hsi,hti]) h
  ·intro i j mo t hmo hj htj hr;have hi:=lt2 i mo hmo;obtain⟨oj,mj,hoj,hmj,hsj⟩:=hdst j hj;exact((hD i hi _ mo (Array.getElem?_eq_getElem hi) hmo).2.2.2 j hj mj hmj t (by rw[hsj,htj])).2 hr
 have hls:∀ i,¬ LS (Array.replicate ops.size false) i:=by
  intro i h;unfold LS at h;simp[Array.getD_eq_getD_getElem?,Array.getElem?_replicate]at h;split at h<;>simp at h
 rw[hlen]at hN;subst h0;have hsN:Sim G (cs ops.size).st w base:=by
  -- what is new has no block yet
  have get:∀ k x y,(cs ops.size).st.get k=some x→G.B k=some y→(cs 0).st.get k=some x:=by
   intro k x y hx hy;rw[←hx];refine(D.getN ops.size 0 k Zaa (Nat.le_refl _) ?_).symm;rintro m _ _ rfl;rw[hk _ Zaa]at hy;simp at hy
  have get':∀ k y,((cs ops.size).st.get k).isSome→G.B k=some y→((cs 0).st.get k).isSome:=by
   intro k y hx hy;obtain⟨x,hx⟩:=Option.isSome_iff_exists.1 hx;rw[get k x y hx hy];rfl
  exact⟨hs.bas,hs.frz,fun k l z b s hg hB=>hs.cells k l z b s (get k _ _ hg hB) hB,fun k l b s hg hB=>hs.frzd k l b s (get k _ _ hg hB) hB,fun k l b s hg ho hB=>hs.free k l b s (get k _ _ hg hB) ho hB,
   fun k k' x x' h1 h2 hB hB' e=>hs.inj k k' x x' (get' k x h1 hB) (get' k' x' h2 hB') hB hB' e,fun k x h1 hB=>hs.low k x (get' k x h1 hB) hB,fun k es b s hg hB=>hs.mps k es b s (get k _ _ hg hB) hB⟩
 refine Njt hcfg hE D (base:=base) (a0:=a) (w0:=w) ?_ _ _ G a w Zaf Zaf ?_
 ·intro a' w' G' I;refine hQ a' w' G' ?_ I.size I.defers (by rw[←hN];exact(D.cntEq ops.size (Nat.le_refl _)).symm) ?_
  ·have hlk:∀ t,VRel G' (a'.tmps.getD t undef) (lk V c' t):=by
    intro t;rw[←hN];rcases D.slot t ops.size (Nat.le_refl _)with⟨i,hi,hd,hv⟩|⟨h1,h2⟩
    ·rcases hv with hv|hv
     ·rw[hv];exact I.slotW i t hi hd
     ·rw[hv];exact .und _
    ·rw[h2];exact I.slotO t (fun i hi=>h1 i hi)
   refine⟨fun t ht=>?_,fun t ht=>?_⟩
   ·have:=hlk t;unfold lk at this;rwa[if_pos ht]at this
   ·have:=hlk t;unfold lk at this;rwa[ht,if_neg Zaf]at this
  ·rw[←hN];refine⟨I.le,fun k x hx=>?_,I.sim,I.os,I.tape,I.output,I.hsize,I.kept,I.own,I.fnew,?_⟩
   ·rcases I.new k x hx with h|⟨i,hi,rfl⟩
    ·exact .inl h
    ·right;omega
   ·intro k hk';by_cases hx:∃ i,i<ops.size∧k=key+8 * i
    ·obtain⟨i,hi,rfl⟩:=hx;exact .inr (I.ful i hi hk')
    ·left;rw[←D.getN ops.size 0 k Zaa (Nat.le_refl _) (fun m _ hm e=>hx ⟨m,hm,e⟩)];exact hk'
 ·refine⟨hn,rfl,fun i o h=>absurd h (hls i),fun i h=>absurd h (hls i),fun i t h=>absurd h (hls i),fun t _=>?_,.refl G,fun k x h=>.inl h,hsN,rfl,rfl,rfl,Nat.le_refl _,fun _ _ _=>rfl,?_,fun _ _ _ h=>.inl h,fun i h=>absurd h (hls i)⟩
  ·unfold lk;cases hV:V.contains t with
   |true=>exact hL.1 t hV
   |false=>exact hL.2 t hV
  ·intro k x h1 hB;right;refine⟨k,x,?_,hB,rfl⟩;rw[←D.getN ops.size 0 k Zaa (Nat.le_refl _) ?_]
   ·exact h1
   ·rintro m _ _ rfl;rw[hk _ Zaa]at hB;simp at hB
theorem Sim.merge2{G G':Ghost}{st st1 stA stB:St}{w w':World}{base:Nat}{N:Nat→Prop}(hN:Sim G stA w base)(hle:∀ k x,st.get k=some x→stA.get k=some x)
 (h1:Step base N G st w G' st1 w') (hnk:∀ k,(stA.get k).isSome→N k→False) (hM:∀ k y,stB.get k=some y→st1.get k=some y∨(st.get k=none∧stA.get k=some y)):Sim G' stB w' base:=by
 have hle':∀ k,(st.get k).isSome→(stA.get k).isSome:=by
  intro k hk;obtain⟨x,hx⟩:=Option.isSome_iff_exists.1 hk;rw[hle k x hx];rfl
 have old:∀ (k:Nat) (x:Nat×Nat),(stA.get k).isSome→G'.B k=some x→G.B k=some x:=by
  intro k x hk' hx;rcases h1.new k x hx with h|h
  ·exact h
  ·exact(hnk k hk' h).elim
 have alone:∀ (k:Nat) (x:Nat×Nat),(stA.get k).isSome→st.get k=none→G.B k=some x→∀ (k0:Nat) (x0:Nat×Nat),(st.get k0).isSome→G.B k0=some x0→x0.1≠x.1:=by
  intro k x hk' hn hB k0 x0 h0 hB0 e;have:=hN.inj k0 k x0 x (hle' k0 h0) hk' hB0 hB e;subst this;rw[hn]at h0;simp at h0
 have kp:∀ (k:Nat) (x:Nat×Nat),(stA.get k).isSome→st.get k=none→G.B k=some x→w'.heap[x.1]? = w.heap[x.1]?:=fun k x a b c=>h1.kept x.1 (hN.low k x a c).2 (alone k x a b c);have hMs:∀ k,(stB.get k).isSome→(st1.get k).isSome∨(st.get k=none∧(stA.get k).isSome):=by
  intro k hk;obtain⟨y,hy⟩:=Option.isSome_iff_exists.1 hk;rcases hM k y hy with h|⟨h,h2⟩
  ·left;rw[h];rfl
  ·right;exact⟨h,by rw[h2];rfl⟩
 refine⟨h1.sim.bas,h1.sim.frz,?_,?_,?_,?_,?_,?_⟩
 ·intro k cs z blk size hg hB;rcases hM k _ hg with h|⟨h,h2⟩
  ·exact h1.sim.cells _ _ _ _ _ h hB
  ·have hs:(stA.get k).isSome:=(by rw[h2];rfl);have hB0:=old k _ hs hB;obtain⟨cur,ty,m,a1,a2,a3,a4,a5⟩:=hN.cells k cs z blk size h2 hB0;exact⟨cur,ty,m,by rw[←a1];exact kp k (blk,size) hs h hB0,a2,a3,a4,a5.mono h1.le⟩
 ·intro k cs blk size hg hB i hi;rcases hM k _ hg with h|⟨h,h2⟩
  ·exact h1.sim.frzd _ _ _ _ h hB i hi
  ·obtain⟨u,hu⟩:=hN.frzd k cs blk size h2 (old k _ (by rw[h2];rfl) hB) i hi;exact⟨u,h1.le.F _ _ _ hu⟩
 ·intro k cs blk size hg ho hB o;rcases hM k _ hg with h|⟨h,h2⟩
  ·exact h1.sim.free _ _ _ _ h ho hB o
  ·have hs:(stA.get k).isSome:=(by rw[h2];rfl);have hB0:=old k _ hs hB;cases hF:G'.F blk o with
   |none=>rfl
   |some u =>
     exfalso;rcases h1.fnew blk o u hF with h3|h3|⟨k0,x0,c,d,e⟩
     ·rw[hN.free k cs blk size h2 ho hB0 o]at h3;simp at h3
     ·have:=(hN.low k _ hs hB0).2;simp only[]at this;omega
     ·exact alone k (blk,size) hs h hB0 k0 x0 c d e
 ·have half:∀ (k k':Nat) (x x':Nat×Nat),(st1.get k).isSome→st.get k'=none→(stA.get k').isSome→G'.B k=some x→G'.B k'=some x'→x.1=x'.1→k=k':=by
   intro k k' x x' h0 h2 h3 hB hB' e;have hB0:=old k' _ h3 hB';rcases h1.own k x h0 hB with h|⟨k0,x0,c,d,e'⟩
   ·have:=(hN.low k' x' h3 hB0).2;omega
   ·exact absurd (show x0.1=x'.1 by omega) (alone k' x' h3 h2 hB0 k0 x0 c d)
  intro k k' x x' hk hk' hB hB' e;rcases hMs k hk with h|⟨h,h2⟩<;>rcases hMs k' hk' with h'|⟨h',h2'⟩
  ·exact h1.sim.inj k k' x x' h h' hB hB' e
  ·exact half k k' x x' h h' h2' hB hB' e
  ·exact(half k' k x' x h' h h2 hB' hB e.symm).symm
  ·exact hN.inj k k' x x' h2 h2' (old k x h2 hB) (old k' x' h2' hB') e
 ·intro k x hk hB;rcases hMs k hk with h|⟨h,h2⟩
  ·exact h1.sim.low _ _ h hB
  ·obtain⟨a1,a2⟩:=hN.low k x h2 (old k x h2 hB);exact⟨a1,Nat.lt_of_lt_of_le a2 h1.size⟩
 ·intro k es blk size hg hB;rcases hM k _ hg with h|⟨h,h2⟩
  ·exact h1.sim.mps _ _ _ _ h hB
  ·have hs:(stA.get k).isSome:=(by rw[h2];rfl);have hB0:=old k _ hs hB;obtain⟨obj,a1,a2⟩:=hN.mps k es blk size h2 hB0;exact⟨obj,by rw[←a1];exact kp k (blk,size) hs h hB0,a2.mono h1.le⟩
structure CCtx(P:Program)(Gl:Gmap)(V:List Nat)(n:Nat)(modes:FuncId→Option Bool)(cfg:Cfg)(callE:CallE)(ops:Array Oper)(ml:List MOper)(A:Nat→Nat→Prop)(key:Nat)(G0:Ghost)(cs:Nat→Loc)(rs:Nat→PV):Prop where
 len:ml.length=ops.size
 comp:∀ (i:Nat) (o:Oper) (mo:MOper),ops[i]? = some o→ml[i]? = some mo→cDst V n o.dst=some mo.dst∧cGuard V n ops o.guard=some mo.guard∧(mo.op=.bad∨∃ m,cOp P V modes o.op=some m∧(m.plain=true∨isCallOp o.op=true)∧(mo.op=m∨∃ f l,m=.call f false l∧mo.op=.callq f l))
 step:∀ (i:Nat) (mo:MOper),ml[i]? = some mo→NdZ cfg callE (key+8 * i) mo (cs i) (rs i) (cs (i+1))
 back:∀ (i:Nat) (o:Oper),ops[i]? = some o→∀ e∈o.after,Region.binds .any e=true→e.on<i
 ahead:∀ (i:Nat) (o:Oper) (j:Nat),ops[i]? = some o→j<ops.size→A i j→∃ e∈o.after,Region.binds .any e=true∧(e.on=j∨A e.on j)
 lone:∀ (i j t:Nat),i<ops.size→j<ops.size→NbL ops i=some t→NbL ops j=some t→i=j
 sees:∀ (i j:Nat) (mo:MOper) (t:Nat),ml[i]? = some mo→j<ops.size→NbL ops j=some t→t∈mo.reads→(j<i∧A i j)∨(i<j∧A j i)
 full:Nhf Gl G0 (cs 0).st
 fresh:∀ k,key≤k→G0.B k=none
 cnt:key+8 * ops.size≤(cs 0).st.cnt
def May(ops:Array Oper)(ml:List MOper)(A:Nat→Nat→Prop)(d:Nat→Bool)(q:Nat):Prop :=
 (∀ w,w<ops.size→Nai ml w=false→A q w→d w=true)∧(∀ w,w<ops.size→Nai ml w=false→A w q→d w=false)
structure PosSys(cfg:Cfg)(callE:CallE)(ops:Array Oper)(ml:List MOper)(A:Nat→Nat→Prop)(key:Nat)(cs:Nat→Loc)(rs:Nat→PV)(X:Type)(dn:X→Nat→Bool)(sg:X→St):Prop where
 quiet:∀ (x:X) (q:Nat) (mo:MOper),ml[q]? = some mo→NaB mo.op=true→May ops ml A (dn x) q →
  (NaA (cs q) mo.guard=some true→∃ st st',(∀ k y,st.get k=some y→(sg x).get k=some y)∧st.get (key+8 * q)=none∧st.cnt=(sg x).cnt∧Nap cfg callE (cs q).rd st (key+8 * q) mo.op=some (rs q,st')∧(sg x).get (key+8 * q)=st'.get (key+8 * q)) ∧
  (NaA (cs q) mo.guard=some false→(sg x).get (key+8 * q)=none)
 chain:∀ (x:X) (w:Nat) (mo:MOper),ml[w]? = some mo→NaB mo.op=false→dn x w=false→May ops ml A (dn x) w→∃ x':X,(∀ v,v<ops.size→Nai ml v=false→(dn x' v=true↔v=w∨dn x v=true)) ∧
  (NaA (cs w) mo.guard=some false→(∀ k y,(sg x').get k=some y→(sg x).get k=some y)∧(sg x').cnt=(sg x).cnt) ∧
  (NaA (cs w) mo.guard=some true→∃ st st1,(∀ k y,st.get k=some y→(sg x).get k=some y)∧st.cnt=(sg x).cnt∧Nap cfg callE (cs w).rd st (key+8 * w) mo.op=some (rs w,st1) ∧
   (∀ k y,(sg x').get k=some y→st1.get k=some y∨(st.get k=none∧(sg x).get k=some y))∧(sg x').cnt=st1.cnt∧(∀ q,q<ops.size→Nai ml q=true→(st.get (key+8 * q)).isSome→A w q))
 last:∀ x,(∀ w,w<ops.size→Nai ml w=false→dn x w=true)→(∀ k y,(cs ops.size).st.get k=some y→(sg x).get k=some y)∧(cs ops.size).st.cnt=(sg x).cnt
end
section
variable {P:Program}{Gl:Gmap}{V:List Nat}{n:Nat}{modes:FuncId→Option Bool}{cfg:Cfg}{callE:CallE}{ops:Array Oper}{ml:List MOper}{A:Nat→Nat→Prop}{key:Nat}{G0:Ghost}{cs:Nat→Loc}{rs:Nat→PV}
theorem CCtx.mo(D:CCtx P Gl V n modes cfg callE ops ml A key G0 cs rs){i:Nat}(h:i<ops.size):∃ o mo,ops[i]? = some o∧ml[i]? = some mo :=
 ⟨ops[i],ml[i]'(by rw[D.len];exact h),Array.getElem?_eq_getElem h,List.getElem?_eq_getElem _⟩
theorem CCtx.slot(D:CCtx P Gl V n modes cfg callE ops ml A key G0 cs rs)(t:Nat):∀ j,j≤ops.size →
 (∃ i,i<j∧NbL ops i=some t∧(lk V (cs j) t=rs i∨lk V (cs j) t=.und))∨((∀ i,i<j→NbL ops i≠some t)∧lk V (cs j) t=lk V (cs 0) t)
 |0,_=>.inr ⟨fun i hi=>by omega,rfl⟩
 |j+1,h=>by
   obtain⟨o,mo,ho,hmo⟩:=D.mo (i:=j) Zaa;obtain⟨hd,_,_⟩:=D.comp j o mo ho hmo;have hda:NbL ops j=o.dst:=(by simp[NbL,ho]);by_cases hdt:o.dst=some t
   ·left;refine⟨j,by omega,by rw[hda,hdt],?_⟩;rw[hdt]at hd;rcases D.step j mo hmo with⟨_,st,hev,hc⟩|⟨_,hr,hc⟩
    ·rw[hc];exact Ndb hd
    ·rw[hc,hr];exact Ndb hd
   ·have e:lk V (cs (j+1)) t=lk V (cs j) t:=by
     rcases D.step j mo hmo with⟨_,st,hev,hc⟩|⟨_,hr,hc⟩
     ·rw[hc,Net hd hdt];rfl
     ·rw[hc,Net hd hdt]
    rcases D.slot t j Zaa with⟨i,hi,hi2,hi3⟩|⟨h1,h2⟩
    ·left;exact⟨i,by omega,hi2,by rw[e];exact hi3⟩
    ·right;refine⟨fun i hi=>?_,by rw[e];exact h2⟩;by_cases hij:i=j
     ·subst hij;rw[hda];exact hdt
     ·exact h1 i Zaa
structure CInv(V:List Nat)(n:Nat)(ops:Array Oper)(ml:List MOper)(key base:Nat)(G0:Ghost)(a0:Act)(w0:World)(cs:Nat→Loc)(rs:Nat→PV)(d:Nat→Bool)(σ:St)(L:Nat→Prop)(G:Ghost)(a:Act)(w:World):Prop where
 size:n≤a.tmps.size
 defers:a.defers=a0.defers
 edges:∀ (i:Nat) (o:Oper),L i→ops[i]? = some o→∀ e∈o.after,Region.binds .any e=true→L e.on
 inr:∀ i,L i→i<ops.size
 slotW:∀ i t,L i→NbL ops i=some t→VRel G (a.tmps.getD t undef) (rs i)
 slotO:∀ t,(∀ i,L i→NbL ops i≠some t)→VRel G (a.tmps.getD t undef) (lk V (cs 0) t)
 pos:∀ v,v<ops.size→Nai ml v=false→(d v=true↔L v)
 le:G0.le G
 new:∀ k x,G.B k=some x→G0.B k=some x∨(∃ i,L i∧k=key+8 * i)∨((cs 0).st.cnt≤k∧k<σ.cnt)
 cntle:(cs 0).st.cnt≤σ.cnt
 sim:Sim G σ w base
 os:w.os=w0.os
 tape:w.tape=w0.tape
 output:w.output=w0.output
 hsize:w0.heap.size≤w.heap.size
 kept:∀ j,j<w0.heap.size→(∀ k x,((cs 0).st.get k).isSome→G0.B k=some x→x.1≠j)→w.heap[j]? = w0.heap[j]?
 own:∀ k x,(σ.get k).isSome→G.B k=some x→w0.heap.size≤x.1∨∃ k0 x0,((cs 0).st.get k0).isSome∧G0.B k0=some x0∧x0.1=x.1
 fnew:∀ b o u,G.F b o=some u→G0.F b o=some u∨w0.heap.size≤b∨∃ k0 x0,((cs 0).st.get k0).isSome∧G0.B k0=some x0∧x0.1=b
 ful:∀ k,(σ.get k).isSome→((cs 0).st.get k).isSome∨(G.B k).isSome∨∃ q,q<ops.size∧Nai ml q=true∧¬ L q∧k=key+8 * q
variable {base:Nat}{a0:Act}{w0:World}{d:Nat→Bool}{σ:St}{L:Nat→Prop}{G:Ghost}{a:Act}{w:World}
theorem CInv.closed(D:CCtx P Gl V n modes cfg callE ops ml A key G0 cs rs)(I:CInv V n ops ml key base G0 a0 w0 cs rs d σ L G a w):∀ i j,L i→j<ops.size→A i j→L j:=by
 intro i
 induction i using Nat.strongRecOn with
 |ind i ih =>
   intro j hi hj hA;have hin:=I.inr i hi;obtain⟨o,mo,ho,hmo⟩:=D.mo hin;obtain⟨e,he,hb,hc⟩:=D.ahead i o j ho hj hA;have hL:=I.edges i o hi ho e he hb;rcases hc with h|h
   ·rw[←h];exact hL
   ·exact ih e.on (D.back i o ho e he hb) j hL hj h
theorem CInv.before(D:CCtx P Gl V n modes cfg callE ops ml A key G0 cs rs)(I:CInv V n ops ml key base G0 a0 w0 cs rs d σ L G a w){j:Nat}{o:Oper}(ho:ops[j]? = some o)(hr:∀ e∈o.after,Region.binds .any e=true→L e.on){i:Nat}(hi:i<ops.size)(hA:A j i):L i:=by
 obtain⟨e,he,hb,hc⟩:=D.ahead j o i ho hi hA;rcases hc with h|h
 ·rw[←h];exact hr e he hb
 ·exact I.closed D e.on i (hr e he hb) hi h
theorem CInv.may(D:CCtx P Gl V n modes cfg callE ops ml A key G0 cs rs)(I:CInv V n ops ml key base G0 a0 w0 cs rs d σ L G a w){j:Nat}{o:Oper}(ho:ops[j]? = some o)(hj:¬ L j)(hr:∀ e∈o.after,Region.binds .any e=true→L e.on):May ops ml A d j:=by
 have hjn:j<ops.size:=(Array.getElem?_eq_some_iff.1 ho).1;refine⟨fun v hv hq hA=>(I.pos v hv hq).2 (I.before D ho hr hv hA),fun v hv hq hA=>?_⟩;cases hd:d v with
 |false=>rfl
 |true=>exact absurd (I.closed D v j ((I.pos v hv hq).1 hd) hjn hA) hj
theorem CInv.read(D:CCtx P Gl V n modes cfg callE ops ml A key G0 cs rs)(I:CInv V n ops ml key base G0 a0 w0 cs rs d σ L G a w){j:Nat}{o:Oper}{mo:MOper}(ho:ops[j]? = some o)(hmo:ml[j]? = some mo)(hj:¬ L j)(hr:∀ e∈o.after,Region.binds .any e=true→L e.on){t:Nat}(ht:t∈mo.reads):VRel G (a.tmps.getD t undef) (lk V (cs j) t):=by
 have hjn:j<ops.size:=(Array.getElem?_eq_some_iff.1 ho).1;rcases D.slot t j Zaa with⟨i,hi,hd,hv⟩|⟨h1,h2⟩
 ·have hL:L i:=by
   rcases D.sees j i mo t hmo Zaa hd ht with⟨_,hA⟩|⟨hc,_⟩
   ·exact I.before D ho hr Zaa hA
   ·omega
  rcases hv with hv|hv
  ·rw[hv];exact I.slotW i t hL hd
  ·rw[hv];exact .und _
 ·rw[h2];refine I.slotO t ?_;intro i hi hd;have hin:=I.inr i hi;rcases D.sees j i mo t hmo hin hd ht with⟨hc,_⟩|⟨_,hA⟩
  ·exact h1 i hc hd
  ·exact hj (I.closed D i j hi hjn hA)
theorem CInv.noKey(D:CCtx P Gl V n modes cfg callE ops ml A key G0 cs rs)(I:CInv V n ops ml key base G0 a0 w0 cs rs d σ L G a w){j:Nat}(hjn:j<ops.size)(hj:¬ L j):G.B (key+8 * j)=none:=by
 have h2:=D.cnt;cases hx:G.B (key+8 * j)with
 |none=>rfl
 |some x =>
   rcases I.new _ x hx with h|⟨i,hi,he⟩|⟨h,_⟩
   ·rw[D.fresh _ Zaa]at h;simp at h
   ·exact absurd (by rw[show j=i by omega];exact hi) hj
   ·omega
theorem CInv.noCnt(D:CCtx P Gl V n modes cfg callE ops ml A key G0 cs rs)(I:CInv V n ops ml key base G0 a0 w0 cs rs d σ L G a w):∀ k,σ.cnt≤k→G.B k=none:=by
 intro k hk;have h1:=I.cntle;have h2:=D.cnt;cases hx:G.B k with
 |none=>rfl
 |some x =>
   rcases I.new _ x hx with h|⟨i,hi,he⟩|⟨_,h⟩
   ·rw[D.fresh _ Zaa]at h;simp at h
   ·have:=I.inr i hi;omega
   ·omega
theorem CInv.after(D:CCtx P Gl V n modes cfg callE ops ml A key G0 cs rs)(I:CInv V n ops ml key base G0 a0 w0 cs rs d σ L G a w){j:Nat}{o:Oper}{mo:MOper}(ho:ops[j]? = some o)(hmo:ml[j]? = some mo)(hj:¬ L j)(hr:∀ e∈o.after,Region.binds .any e=true→L e.on)
 {d':Nat→Bool}{σ' st st1:St}(hd':∀ v,v<ops.size→Nai ml v=false→(d' v=true↔v=j∨d v=true)) (hle:∀ k y,st.get k=some y→σ.get k=some y) (hcn:st.cnt=σ.cnt) (hcn':σ'.cnt=st1.cnt) (hcm:st.cnt≤st1.cnt)
 (hM:∀ k y,σ'.get k=some y→st1.get k=some y∨(st.get k=none∧σ.get k=some y∧k≠key+8 * j))
 (hqk:Nai ml j=true→st.get (key+8 * j)=none)
 {v:Value}{G':Ghost}{w':World}(hv:VRel G' v (rs j)) (hst:Step base (Np4 (key+8 * j) st st1) G st w G' st1 w'):CInv V n ops ml key base G0 a0 w0 cs rs d' σ' (fun i=>i=j∨L i) G' (a.put o.dst v) w':=by
 have hjn:j<ops.size:=(Array.getElem?_eq_some_iff.1 ho).1;have hda:NbL ops j=o.dst:=by simp[NbL,ho]
 have hcnt:=D.cnt;have hcl:=I.cntle;obtain⟨hd,_,_⟩:=D.comp j o mo ho hmo;have hGk:=I.noKey D hjn hj;have hGc:=I.noCnt D;have keep:∀ t,o.dst≠some t→(a.put o.dst v).tmps.getD t undef=a.tmps.getD t undef:=by
  intro t ht;cases hod:o.dst with
  |none=>rfl
  |some u =>
    rw[hod]at hd;rw[Nen I.size (NfN hd),if_neg (fun e=>ht (by rw[hod,e]))]
 have hles:∀ k,(st.get k).isSome→(σ.get k).isSome:=by
  intro k h0;obtain⟨y,hy⟩:=Option.isSome_iff_exists.1 h0;rw[hle k y hy];rfl
 have ownOK:∀ k0 x0,(st.get k0).isSome→G.B k0=some x0→w0.heap.size≤x0.1∨∃ k1 x1,((cs 0).st.get k1).isSome∧G0.B k1=some x1∧x1.1=x0.1:=fun k0 x0 h0 hB=>I.own k0 x0 (hles k0 h0) hB;have hMs:∀ k,(σ'.get k).isSome→(st1.get k).isSome∨(st.get k=none∧(σ.get k).isSome∧k≠key+8 * j):=by
  intro k hk;obtain⟨y,hy⟩:=Option.isSome_iff_exists.1 hk;rcases hM k y hy with h|⟨h,h2,h3⟩
  ·left;rw[h];rfl
  ·right;exact⟨h,by rw[h2];rfl,h3⟩
 -- what is in the store, and is none of the operation's keys but its own
 have hnk:∀ k,(σ.get k).isSome→Np4 (key+8 * j) st st1 k→k=key+8 * j:=by
  intro k hk hN;rcases hN with h|⟨h,_⟩
  ·exact h
  ·exfalso;rcases I.ful k hk with h1|h1|⟨q,hq,_,_,rfl⟩
   ·have:=D.full.2 k h1;rw[D.fresh _ Zaa]at this;simp at this
   ·rw[hGc k Zaa]at h1;simp at h1
   ·omega
 have hsk:st.get (key+8 * j)=none:=by
  cases hqj:Nai ml j with
  |true=>exact hqk hqj
  |false =>
    cases hx:st.get (key+8 * j)with
    |none=>rfl
    |some y =>
      exfalso;rcases I.ful _ (hles _ (by rw[hx];rfl))with h2|h2|⟨q,h3,h4,h5,h6⟩
      ·have:=D.full.2 _ h2;rw[D.fresh _ Zaa]at this;simp at this
      ·rw[hGk]at h2;simp at h2
      ·have:q=j:=(by omega);subst this;rw[hqj]at h4;simp at h4
 refine⟨by rw[Act.put_size];exact I.size,by rw[Act.put_defers'];exact I.defers,?_,?_,?_,?_,?_,I.le.trans hst.le,?_,by omega,?_,hst.os.trans I.os,hst.tape.trans I.tape,hst.output.trans I.output,Nat.le_trans I.hsize hst.size,?_,?_,?_,?_⟩
 ·rintro i o' (rfl|hi) ho' e he hb
  ·rw[ho]at ho';cases ho';exact .inr (hr e he hb)
  ·exact .inr (I.edges i o' hi ho' e he hb)
 ·rintro i (rfl|hi)
  ·exact hjn
  ·exact I.inr i hi
 ·rintro i t (rfl|hi) hdt
  ·rw[hda]at hdt;rw[hdt]at hd ⊢;rw[Nen I.size (NfN hd),if_pos rfl];exact hv
  ·have hne:o.dst≠some t:=by
    intro e;have:=D.lone i j t (I.inr i hi) hjn hdt (by rw[hda];exact e);subst this;exact hj hi
   rw[keep t hne];exact(I.slotW i t hi hdt).mono hst.le
 ·intro t ht;rw[keep t (by rw[←hda];exact ht j (.inl rfl))];exact(I.slotO t (fun i hi=>ht i (.inr hi))).mono hst.le
 ·intro q hq hqq;rw[hd' q hq hqq,I.pos q hq hqq]
 ·intro k x hx;rcases hst.new k x hx with h|h|h
  ·rcases I.new k x h with h2|⟨i,hi,he⟩|⟨h2,h3⟩
   ·exact .inl h2
   ·exact .inr (.inl ⟨i,.inr hi,he⟩)
   ·exact .inr (.inr ⟨h2,by omega⟩)
  ·exact .inr (.inl ⟨j,.inl rfl,h⟩)
  ·exact .inr (.inr ⟨by omega,by omega⟩)
 ·refine Sim.merge2 (stA:=σ.put (key+8 * j) none) (I.sim.less (fun k x hx=>(St.drop_less _ _ k x hx).2)) ?_ hst ?_ ?_
  ·intro k x hx;rw[Yae (by rintro rfl;rw[hsk]at hx;simp at hx)];exact hle k x hx
  ·intro k hk hN;obtain⟨x,hx⟩:=Option.isSome_iff_exists.1 hk;obtain⟨h1,h2⟩:=St.drop_less _ _ k x hx;exact h1 (hnk k (by rw[h2];rfl) hN)
  ·intro k y hy;rcases hM k y hy with h|⟨h,h2,h3⟩
   ·exact .inl h
   ·right;rw[Yae (fun e=>h3 e.symm)];exact⟨h,h2⟩
 ·intro q hq hk;rw[hst.kept q (Nat.lt_of_lt_of_le hq I.hsize) ?_]
  ·exact I.kept q hq hk
  ·intro k x hx hB e;rcases ownOK k x hx hB with h|⟨k1,x1,c,e1,e'⟩
   ·omega
   ·exact hk k1 x1 c e1 Zaa
 ·intro k x hx hB;rcases hMs k hx with h|⟨h,h2,h3⟩
  ·rcases hst.own _ x h hB with h|⟨k0,x0,c,e1,e⟩
   ·exact .inl (Nat.le_trans I.hsize h)
   ·rcases ownOK k0 x0 c e1 with h|⟨k1,x1,c1,d1,e2⟩
    ·exact .inl Zaa
    ·exact .inr ⟨k1,x1,c1,d1,by omega⟩
  ·rcases hst.new k x hB with h4|h4
   ·exact I.own k x h2 h4
   ·exact absurd (hnk k h2 h4) h3
 ·intro b q u hu;rcases hst.fnew b q u hu with h|h|⟨k0,x0,c,e1,e⟩
  ·exact I.fnew b q u h
  ·exact .inr (.inl (Nat.le_trans I.hsize h))
  ·rcases ownOK k0 x0 c e1 with h|⟨k1,x1,c1,d1,e2⟩
   ·exact .inr (.inl Zaa)
   ·exact .inr (.inr ⟨k1,x1,c1,d1,by omega⟩)
 ·have fwd:∀ k,(σ.get k).isSome→k≠key+8 * j→((cs 0).st.get k).isSome∨(G'.B k).isSome∨∃ q,q<ops.size∧Nai ml q=true∧¬ (q=j∨L q)∧k=key+8 * q:=by
   intro k hk hne;rcases I.ful k hk with h|h|⟨q,h1,h2,h3,rfl⟩
   ·exact .inl h
   ·obtain⟨x,hx⟩:=Option.isSome_iff_exists.1 h;exact .inr (.inl (by rw[hst.le.B _ x hx];rfl))
   ·exact .inr (.inr ⟨q,h1,h2,by rintro(rfl|h);exact hne rfl;exact h3 h,rfl⟩)
  intro k hk;rcases hMs k hk with h|⟨h,h2,h3⟩
  ·rcases hst.ful k h with h1|h1
   ·by_cases e:k=key+8 * j
    ·subst e;rw[hsk]at h1;simp at h1
    ·exact fwd k (hles k h1) e
   ·exact .inr (.inl h1)
  ·exact fwd k h2 h3
end
section
variable {P:Program}{Gl:Gmap}{V:List Nat}{n:Nat}{modes:FuncId→Option Bool}{cfg:Cfg}{callE:CallE}{ops:Array Oper}{ml:List MOper}{A:Nat→Nat→Prop}{key:Nat}{G0:Ghost}{cs:Nat→Loc}{rs:Nat→PV}
variable {base:Nat}{a0:Act}{w0:World}{X:Type}{dn:X→Nat→Bool}{sg:X→St}
theorem CInv.one(hcfg:CfgOK P Gl cfg)(hE:NaV P Gl callE)(D:CCtx P Gl V n modes cfg callE ops ml A key G0 cs rs)(S:PosSys cfg callE ops ml A key cs rs X dn sg){x:X}{L:Nat→Prop}{G:Ghost}{a:Act}{w:World}(I:CInv V n ops ml key base G0 a0 w0 cs rs (dn x) (sg x) L G a w){j:Nat}{o:Oper}(ho:ops[j]? = some o)(hj:¬ L j)(hr:∀ e∈o.after,Region.binds .any e=true→L e.on)
 {Q:Exit→Act→World→Prop}{K:Act→World→Prop}(hK:∀ x' a' w' G',CInv V n ops ml key base G0 a0 w0 cs rs (dn x') (sg x') (fun i=>i=j∨L i) G' a' w'→K a' w'):wpOp P ops Q j K a w:=by
 have hjn:j<ops.size:=(Array.getElem?_eq_some_iff.1 ho).1;obtain⟨o',mo,ho',hmo⟩:=D.mo hjn;rw[ho]at ho';cases ho';obtain⟨hd,hg,hop⟩:=D.comp j o mo ho hmo;have hmay:=I.may D ho hj hr;have hqa:Nai ml j=NaB mo.op:=by simp[Nai,hmo]
 have hread:∀ x y,cArg V x=some y→(∀ t,y.slot=some t→t∈mo.reads)→VRel G (a.eval x) ((cs j).rd y):=by
  intro x y hy hs;cases x with
  |tmp t =>
    simp only[cArg,Sj]at hy;subst hy;rw[Npy];exact I.read D ho hmo hj hr (hs t (by split<;>rfl))
  |const v =>
    simp only[cArg,Option.map_eq_some_iff]at hy;obtain⟨p,hp,rfl⟩:=hy;exact Ncn hp
  |global g=>simp[cArg]at hy
  |func f =>
    simp only[cArg,Sj]at hy;subst hy;exact .fn f #[] [] rfl (fun i v p h=>by simp at h)
 have hwant:∀ b,NaA (cs j) mo.guard=some b→Region.wanted o (yielded ops a.tmps)=b:=by
  intro b hb;refine NgI (G:=G) hg ?_ I.size hb;intro y b' hgy x hx;refine hread x y hx ?_;intro t ht;unfold MOper.reads;rw[hgy];exact List.mem_filterMap.2 ⟨y,by simp,ht⟩
 have hkeyN:=I.noKey D hjn hj;have hcntN:=I.noCnt D
 -- what it does not read does not count
 let ρ:Arg→PV:=fun y=>match y.slot with
  |none=>(cs j).rd y
  |some t=>if t∈mo.reads then(cs j).rd y else .und
 have hρ:∀ x y,cArg V x=some y→VRel G (a.eval x) (ρ y):=by
  intro x y hy;show VRel G (a.eval x) (match y.slot with|none=>(cs j).rd y|some t=>if t∈mo.reads then(cs j).rd y else .und);split
  ·rename_i hn;exact hread x y hy (fun t ht=>by rw[hn]at ht;simp at ht)
  ·rename_i t ht;split
   ·rename_i hm;exact hread x y hy (fun t' ht'=>by rw[ht]at ht';cases ht';exact hm)
   ·exact .und _
 have hevρ:∀ {st:St}{r:PV}{st1:St},Nap cfg callE (cs j).rd st (key+8 * j) mo.op=some (r,st1)→Nap cfg callE ρ st (key+8 * j) mo.op=some (r,st1):=by
  intro st r st1 hev;rw[←hev];refine Nfq _ ?_;intro y hy;show(match y.slot with|none=>(cs j).rd y|some t=>if t∈mo.reads then(cs j).rd y else .und)=_;split
  ·rfl
  ·rename_i t ht;rw[if_pos];unfold MOper.reads;exact List.mem_filterMap.2 ⟨y,List.mem_append_left _ hy,ht⟩
 unfold wpOp;simp only[ho];cases hqj:NaB mo.op with
 |true =>
   obtain⟨hq1,hq2⟩:=S.quiet x j mo hmo hqj hmay;have hd':∀ v,v<ops.size→Nai ml v=false→(dn x v=true↔v=j∨dn x v=true):=by
    intro v hv hvq;constructor
    ·exact .inr
    ·rintro(rfl|h)
     ·rw[hqa,hqj]at hvq;simp at hvq
     ·exact h
   rcases D.step j mo hmo with⟨hgd,_,_,_⟩|⟨hgd,hrj,_⟩
   ·obtain⟨st,st',hle,hfr,hcn,hev,hsame⟩:=hq1 hgd;rw[hwant true hgd,if_pos rfl];rcases hop with hbad|⟨m,hcop,hpc,hmq⟩
    ·rw[hbad]at hev;simp[Nap]at hev
    ·left;have hqs:=NbG hqj hev;have hcn2:st'.cnt=st.cnt:=(by rcases hqs with e|⟨o,e⟩<;>rw[e];rfl);have hs:Sim G st w base:=I.sim.less hle;have hmq':(mo.op=m∧NaB m=true)∨∃ f l,m=.call f false l∧mo.op=.callq f l:=by
      rcases hmq with h|h
      ·exact .inl ⟨h,by rw[←h];exact hqj⟩
      ·exact .inr h
     have hw:=(NmF hcfg hE hcop hpc hmq' hs (fun b o u hu=>I.le.F b o u (D.full.1 b o u hu)) hρ hkeyN (fun k hk=>hcntN k Zaa) (hevρ hev)).weaken (N':=Np4 (key+8 * j) st st') (fun k h=>.inl h);refine hw _ _ ?_;intro v w' G' hv hstep;refine hK x _ _ G' (I.after D ho hmo hj hr hd' hle hcn Zaa Zaa ?_ (fun _=>hfr) hv hstep);intro k y hy;by_cases hk:k=key+8 * j
     ·subst hk;rw[hsame]at hy;exact .inl hy
     ·have e:st'.get k=st.get k:=by
       rcases hqs with e|⟨o,e⟩
       ·rw[e]
       ·rw[e];exact Yae (fun h=>hk h.symm)
      rw[e];cases hx:st.get k with
      |none=>exact .inr ⟨rfl,hy,hk⟩
      |some z=>left;rw[hle k z hx]at hy;exact hy
   ·have hno:=hq2 hgd;rw[hwant false hgd,if_neg Zaf];exact hK x _ _ G (I.after D ho hmo hj hr hd' (fun _ _ h=>h) rfl rfl (Nat.le_refl _) (fun k y hy=>.inl hy) (fun _=>hno) (v:=undef) (by rw[hrj];exact NdO G) (Step.refl I.sim))
 |false =>
   have hdj:dn x j=false:=by
    cases h:dn x j with
    |false=>rfl
    |true=>exact absurd ((I.pos j hjn (by rw[hqa,hqj])).1 h) hj
   have hnq:Nai ml j=true→False:=(by intro h;rw[hqa,hqj]at h;simp at h);obtain⟨x',hdx,hc2,hc1⟩:=S.chain x j mo hmo hqj hdj hmay;rcases D.step j mo hmo with⟨hgd,_,_,_⟩|⟨hgd,hrj,_⟩
   ·obtain⟨st,st1,hle,hcn,hev,hM,hcn',hah⟩:=hc1 hgd;rw[hwant true hgd,if_pos rfl];rcases hop with hbad|⟨m,hcop,hpc,hmq⟩
    ·rw[hbad]at hev;simp[Nap]at hev
    rcases hmq with hmq|⟨f,l,_,hmq⟩
    case inr=>rw[hmq]at hqj;simp[NaB]at hqj
    ·left;rw[←hmq]at hcop hpc;have hs:Sim G st w base:=I.sim.less hle;have hles:∀ k,(st.get k).isSome→((sg x).get k).isSome:=by
      intro k h0;obtain⟨y,hy⟩:=Option.isSome_iff_exists.1 h0;rw[hle k y hy];rfl
     have hfull:Nhf Gl G st:=by
      refine⟨fun b o u hu=>I.le.F b o u (D.full.1 b o u hu),?_⟩;intro k hk;rcases I.ful k (hles k hk)with h|h|⟨q,h1,h2,h3,rfl⟩
      ·obtain⟨y,hy⟩:=Option.isSome_iff_exists.1 (D.full.2 k h);rw[I.le.B k y hy];rfl
      ·exact h
      ·exact absurd (I.before D ho hr h1 (hah q h1 h2 hk)) h3
     obtain⟨hcm,hw⟩:=NjO hcfg hE hcop hpc hs hfull.1 (fun _=>hfull) hρ hkeyN (fun k hk=>hcntN k Zaa) (hevρ hev);refine hw _ _ ?_;intro v w' G' hv hstep;refine hK x' _ _ G' (I.after D ho hmo hj hr hdx hle hcn hcn' hcm ?_ (fun h=>(hnq h).elim) hv hstep);intro k y hy;rcases hM k y hy with h|⟨h,h2⟩
     ·exact .inl h
     ·right;refine⟨h,h2,?_⟩;rintro rfl;have:=D.cnt;rcases I.ful _ (by rw[h2];rfl)with h3|h3|⟨q,h4,h5,h6,h7⟩
      ·have:=D.full.2 _ h3;rw[D.fresh _ Zaa]at this;simp at this
      ·rw[hkeyN]at h3;simp at h3
      ·have:q=j:=(by omega);subst this;exact hnq h5
   ·obtain⟨h1,h2⟩:=hc2 hgd;rw[hwant false hgd,if_neg Zaf];exact hK x' _ _ G (I.after D ho hmo hj hr hdx (fun _ _ h=>h) rfl h2 (Nat.le_refl _) (fun k y hy=>.inl (h1 k y hy)) (fun h=>(hnq h).elim) (v:=undef) (by rw[hrj];exact NdO G) (Step.refl I.sim))
theorem Nhl(D:CCtx P Gl V n modes cfg callE ops ml A key G0 cs rs){l:Array Bool}(hl:l.size=ops.size)(hr:Region.ready .any ops l=[]):∀ i,i<ops.size→LS l i:=by
 intro i
 induction i using Nat.strongRecOn with
 |ind i ih =>
   intro hi;by_cases h:LS l i
   ·exact h
   ·exfalso;have:i∈Region.ready .any ops l:=by
     rw[mem_ready];refine⟨?_,ops[i],Array.getElem?_eq_getElem hi,?_⟩
     ·unfold LS at h;have h2:i<l.size:=(by omega);simp only[Array.getD_eq_getD_getElem?,Array.getElem?_eq_getElem h2,Option.getD_some]at h ⊢;simpa using h
     ·intro e he hb;have hlt:=D.back i _ (Array.getElem?_eq_getElem hi) e he hb;exact ih e.on hlt Zaa
    rw[hr]at this;simp at this
theorem CInv.congr{d:Nat→Bool}{σ:St}{L L':Nat→Prop}{G:Ghost}{a:Act}{w:World}(h:CInv V n ops ml key base G0 a0 w0 cs rs d σ L G a w)(e:∀ i,L' i↔L i):CInv V n ops ml key base G0 a0 w0 cs rs d σ L' G a w:=by
 have:L'=L:=funext fun i=>propext (e i);rw[this];exact h
theorem NiQ(hcfg:CfgOK P Gl cfg)(hE:NaV P Gl callE)(D:CCtx P Gl V n modes cfg callE ops ml A key G0 cs rs)(S:PosSys cfg callE ops ml A key cs rs X dn sg)
 {Q:Exit→Act→World→Prop}(hQ:∀ x a w G,CInv V n ops ml key base G0 a0 w0 cs rs (dn x) (sg x) (fun i=>i<ops.size) G a w→Q .normal a w) :
 ∀ (fuel:Nat) (l:Array Bool) (x:X) (G:Ghost) (a:Act) (w:World),l.size=ops.size→l.count false=fuel→CInv V n ops ml key base G0 a0 w0 cs rs (dn x) (sg x) (LS l) G a w→wpAny P .any ops Q fuel l a w:=by
 have fin:∀ (l:Array Bool) (x:X) (G:Ghost) (a:Act) (w:World),l.size=ops.size→CInv V n ops ml key base G0 a0 w0 cs rs (dn x) (sg x) (LS l) G a w→Region.ready .any ops l=[]→Q .normal a w:=by
  intro l x G a w hl I hr;refine hQ x a w G (I.congr fun i=>⟨fun h=>Nhl D hl hr i h,fun h=>I.inr i h⟩)
 intro fuel
 induction fuel with
 |zero =>
   intro l x G a w hl hc I;have hr:Region.ready .any ops l=[]:=by
    cases hx:Region.ready .any ops l with
    |nil=>rfl
    |cons i r =>
      exfalso;have hi:i∈Region.ready .any ops l:=(by rw[hx];simp);rw[mem_ready]at hi;obtain⟨h0,o,ho,_⟩:=hi;have hlt:i<l.size:=(by rw[hl];exact(Array.getElem?_eq_some_iff.1 ho).1);simp only[Array.getD_eq_getD_getElem?,Array.getElem?_eq_getElem hlt,Option.getD_some]at h0;have:0<l.count false:=Array.count_pos_iff.2 (by rw[←h0];exact Array.getElem_mem hlt);omega
   exact⟨hr,fin l x G a w hl I hr⟩
 |succ fuel ih =>
   intro l x G a w hl hc I;refine⟨fin l x G a w hl I,?_⟩;intro i hi;rw[mem_ready]at hi;obtain⟨h0,o,ho,he⟩:=hi;have hlt:i<l.size:=(by rw[hl];exact(Array.getElem?_eq_some_iff.1 ho).1);have h0':l[i]? = some false:=by
    simp only[Array.getD_eq_getD_getElem?,Array.getElem?_eq_getElem hlt,Option.getD_some]at h0;rw[Array.getElem?_eq_getElem hlt,h0]
   refine I.one hcfg hE D S ho ?_ (fun e h hb=>he e h hb) ?_
   ·unfold LS;simp[h0']
   ·intro x' a' w' G' I';refine ih _ x' G' a' w' (by simp[hl]) ?_ (I'.congr fun k=>NmM hlt k);have:=NgB h0';omega
end
theorem NeB{α:Type}{g:α→α→Bool}:∀ (x y:List α),(∀ a,a∈x→∀ c,g a c=true→a=c)→x.length=y.length→(x.zip y).all (fun p=>g p.1 p.2)=true→x=y
 |[],[],_,_,_=>rfl
 |[],_::_,_,h,_=>by simp at h
 |_::_,[],_,h,_=>by simp at h
 |a::x,c::y,hg,hl,h=>by
   simp only[List.zip_cons_cons,List.all_cons,Bool.and_eq_true]at h;rw[hg a Zaf c h.1,NeB x y (fun b hb=>hg b (by simp[hb])) (by simpa using hl) h.2]
mutual
theorem PV.sm_eq:∀ (a c:PV),PV.sm a c=true→a=c:=fun a c h=>by
 cases a<;>cases c<;>first
  |rfl
  |(simp[PV.sm]at h;done)
  |skip
 all_goals simp only[PV.sm,Bool.and_eq_true,beq_iff_eq,decide_eq_true_eq]at h
 all_goals first
  |(rw[PV.smL_eq _ _ h];done)
  |(obtain⟨h0,h1⟩:=h;rw[h0,PV.smL_eq _ _ h1];done)
  |(obtain⟨⟨h9,h0⟩,h1⟩:=h;rw[h9,h0,PV.smL_eq _ _ h1];done)
  |(obtain⟨⟨⟨h9,h0⟩,h1⟩,h2⟩:=h;rw[h9,h0,h1,h2];done)
  |(obtain⟨h1,h2⟩:=h;rw[h1,h2];done)
  |(rw[h];done)
theorem PV.smL_eq:∀ (x y:List PV),PV.smL x y=true→x=y
 |[],[],_=>rfl
 |[],_::_,h=>by simp[PV.smL]at h
 |_::_,[],h=>by simp[PV.smL]at h
 |a::x,c::y,h=>by
   simp only[PV.smL,Bool.and_eq_true]at h;rw[PV.sm_eq a c h.1,PV.smL_eq x y h.2]
end
theorem PV.same_eq:∀ (f:Nat) (a c:PV),PV.same f a c=true→a=c
 |0,_,_,h=>by simp[PV.same]at h
 |f+1,a,c,h=>by
   have hz:∀ x y:List PV,x.length=y.length→(x.zip y).all (fun p=>PV.same f p.1 p.2)=true→x=y:=fun x y=>NeB x y (fun a _ c hac=>PV.same_eq f a c hac);cases a<;>cases c<;>first
    |rfl
    |(simp[PV.same]at h;done)
    |skip
   all_goals simp only[PV.same,Bool.and_eq_true,beq_iff_eq,decide_eq_true_eq]at h
   all_goals first
    |(obtain⟨h1,h2⟩:=h;rw[hz _ _ h1 h2];done)
    |(obtain⟨h0,h1⟩:=h;rw[h0,PV.smL_eq _ _ h1];done)
    |(obtain⟨⟨h0,h1⟩,h2⟩:=h;rw[h0,hz _ _ h1 h2];done)
    |(obtain⟨⟨⟨h9,h0⟩,h1⟩,h2⟩:=h;rw[h9,h0,hz _ _ h1 h2];done)
    |(obtain⟨⟨⟨h9,h0⟩,h1⟩,h2⟩:=h;rw[h9,h0,h1,h2];done)
    |(obtain⟨h1,h2⟩:=h;rw[h1,h2];done)
    |(rw[h];done)
theorem PObj.same_eq{a c:Option PObj}(h:PObj.same a c=true):a=c:=by
 cases a with
 |none=>cases c<;>first|rfl|(simp[PObj.same]at h)
 |some a =>
   cases c with
   |none=>cases a<;>simp[PObj.same]at h
   |some c =>
     cases a with
     |cells x b =>
       cases c with
       |cells y d =>
         simp only[PObj.same,Bool.and_eq_true,beq_iff_eq]at h;rw[h.1.1,NeB x y (fun a _ c hac=>PV.same_eq _ a c hac) h.1.2 h.2]
       |map y=>simp[PObj.same]at h
       |iter y q=>simp[PObj.same]at h
       |_=>simp[PObj.same]at h
     |map x =>
       cases c with
       |cells y d=>simp[PObj.same]at h
       |map y =>
         simp only[PObj.same,Bool.and_eq_true,beq_iff_eq]at h;rw[NeB (g:=fun p q:PV×PV=>PV.same NbK p.1 q.1&&PV.same NbK p.2 q.2) x y (fun a _ c hac=>by
          simp only[Bool.and_eq_true]at hac;exact Prod.ext (PV.same_eq _ _ _ hac.1) (PV.same_eq _ _ _ hac.2)) h.1 (by simpa using h.2)]
       |iter y q=>simp[PObj.same]at h
       |_=>simp[PObj.same]at h
     |iter x p =>
       cases c with
       |cells y d=>simp[PObj.same]at h
       |map y=>simp[PObj.same]at h
       |iter y q =>
         simp only[PObj.same,Bool.and_eq_true,beq_iff_eq]at h;rw[h.1,h.2]
       |_=>simp[PObj.same]at h
     |bld x =>
       cases c with
       |bld y =>
         simp only[PObj.same,decide_eq_true_eq]at h;rw[h]
       |_=>simp[PObj.same]at h
     |bytes x l =>
       cases c with
       |bytes y m =>
         simp only[PObj.same,Bool.and_eq_true,beq_iff_eq,decide_eq_true_eq]at h;rw[h.1,h.2]
       |_=>simp[PObj.same]at h
theorem Nh7{cfg:Cfg}{callE:CallE}:∀ (ml:List MOper) (key:Nat) (c c':Loc) (tr:List (Loc×PV)),NcP cfg callE ml key c=some (tr,c') →
 ∃ (cs:Nat→Loc) (rs:Nat→PV),cs 0=c∧cs ml.length=c'∧tr.length=ml.length∧(∀ i,i<ml.length→tr[i]? = some (cs i,rs i))∧∀ i mo,ml[i]? = some mo→NdZ cfg callE (key+8 * i) mo (cs i) (rs i) (cs (i+1))
 |[],key,c,c',tr,h=>by
   simp only[NcP,Sj,Pj]at h;obtain⟨rfl,rfl⟩:=h;exact⟨fun _=>c,fun _=>.und,rfl,rfl,rfl,fun i hi=>by simp at hi,fun i mo hi=>by simp at hi⟩
 |o::ml,key,c,c',tr,h=>by
   simp only[NcP]at h;have key':∀ i,key+8+8 * i=key+8 * (i+1):=(by intro i;omega);have fin:∀ (v:PV) (c1:Loc) (tr':List (Loc×PV)),NcP cfg callE ml (key+8) c1=some (tr',c')→tr=(c,v)::tr'→NdZ cfg callE key o c v c1 →
    ∃ (cs:Nat→Loc) (rs:Nat→PV),cs 0=c∧cs (o::ml).length=c'∧tr.length=(o::ml).length∧(∀ i,i<(o::ml).length→tr[i]? = some (cs i,rs i))∧∀ i mo,(o::ml)[i]? = some mo→NdZ cfg callE (key+8 * i) mo (cs i) (rs i) (cs (i+1)):=by
    intro v c1 tr' he ht hs0;obtain⟨cs,rs,h0,hN,hl,htr,hs⟩:=Nh7 ml _ _ _ _ he;refine⟨fun i=>match i with|0=>c|i+1=>cs i,fun i=>match i with|0=>v|i+1=>rs i,rfl,hN,by rw[ht];simp[hl],?_,?_⟩
    ·intro i hi;rw[ht];cases i with
     |zero=>rfl
     |succ i=>simpa using htr i (by simpa using hi)
    ·intro i mo hi;cases i with
     |zero =>
       simp only[List.getElem?_cons_zero,Sj]at hi;subst hi;show NdZ cfg callE (key+8 * 0) o c v (cs 0);rw[h0];exact hs0
     |succ i =>
       have:=hs i mo (by simpa using hi);rw[key']at this;exact this
   split at h
   ·rename_i hg;split at h
    ·rename_i v st hev;simp only[Option.map_eq_some_iff,Pj]at h;obtain⟨⟨tr',c2⟩,he,rfl,rfl⟩:=h;exact fin v _ tr' he rfl (.inl ⟨hg,st,hev,rfl⟩)
    ·simp at h
   ·rename_i hg;simp only[Option.map_eq_some_iff,Pj]at h;obtain⟨⟨tr',c2⟩,he,rfl,rfl⟩:=h;exact fin _ _ tr' he rfl (.inr ⟨hg,rfl,rfl⟩)
   ·simp at h
section
variable {ml:List MOper}{tr:List (Loc×PV)}{c':Loc}{key t:Nat}
theorem NeA:∀ (l:List Nat) (st:St),(sigA ml tr c' key t l st).cnt=st.cnt
 |[],st=>rfl
 |q::l,st=>by
   simp only[sigA];split
   ·split
    ·rw[NeA l];rfl
    ·rw[NeA l]
   ·rw[NeA l]
theorem NdK:∀ (l:List Nat) (st:St) (k:Nat) (y:PObj),(sigA ml tr c' key t l st).get k=some y→st.get k=some y∨∃ q,q∈l∧t≤q∧Nai ml q=true∧k=key+8 * q∧(stAt tr c' (q+1)).get (key+8 * q)=some y
 |[],st,k,y,h=>.inl h
 |q::l,st,k,y,h=>by
   simp only[sigA]at h;split at h
   ·rename_i hc;simp only[Bool.and_eq_true,decide_eq_true_eq]at hc;split at h
    ·rename_i o ho;rcases NdK l _ k y h with h1|⟨q',a,b⟩
     ·rcases St.get_put h1 with⟨rfl,e⟩|⟨_,e⟩
      ·right;exact⟨q,by simp,hc.1,hc.2,rfl,by rw[ho];exact e⟩
      ·exact .inl e
     ·right;exact⟨q',by simp[a],b⟩
    ·rcases NdK l _ k y h with h1|⟨q',a,b⟩
     ·exact .inl h1
     ·right;exact⟨q',by simp[a],b⟩
   ·rcases NdK l _ k y h with h1|⟨q',a,b⟩
    ·exact .inl h1
    ·right;exact⟨q',by simp[a],b⟩
theorem Ncu:∀ (l:List Nat) (st:St) (k:Nat),(∀ q,q∈l→t≤q→Nai ml q=true→k≠key+8 * q)→(sigA ml tr c' key t l st).get k=st.get k
 |[],st,k,h=>rfl
 |q::l,st,k,h=>by
   simp only[sigA];have ih:=fun st=>Ncu l st k (fun q hq=>h q (by simp[hq]));split
   ·rename_i hc;simp only[Bool.and_eq_true,decide_eq_true_eq]at hc;split
    ·rw[ih,Yae (fun e=>h q Zaf hc.1 hc.2 e.symm)]
    ·rw[ih]
   ·rw[ih]
theorem Ngj:∀ (l:List Nat) (st:St) (q:Nat),q∈l→l.Nodup→t≤q→Nai ml q=true→(∀ y,(stAt tr c' (q+1)).get (key+8 * q)=some y→(sigA ml tr c' key t l st).get (key+8 * q)=some y)
 |[],st,q,h,_,_,_=>by simp at h
 |p::l,st,q,h,hn,ht,hq=>by
   intro y hy;rw[List.nodup_cons]at hn;simp only[sigA];by_cases e:p=q
   ·subst e;rw[if_pos (by simp[ht,hq])];rw[hy];simp only[];rw[Ncu l _ _ (fun q' hq' _ _ e=>hn.1 (by rw[show p=q' by omega];exact hq')),St.get_put_same _ (St.get_range hy)]
   ·have hq':q∈l:=(by simpa[show q≠p from fun h=>e h.symm]using h);split
    ·split
     ·exact Ngj l _ q hq' hn.2 ht hq y hy
     ·exact Ngj l _ q hq' hn.2 ht hq y hy
    ·exact Ngj l _ q hq' hn.2 ht hq y hy
end
structure TCtx(cfg:Cfg)(callE:CallE)(N:Nat)(ml:List MOper)(masks:List Nat)(tr:List (Loc×PV))(c':Loc)(key:Nat)(sw:Option (Nat×Nat))(cs:Nat→Loc)(rs:Nat→PV):Prop where
 len:ml.length=N
 trc:∀ i,i<N→tr[i]? = some (cs i,rs i)
 trl:tr.length=N
 fin:cs N=c'
 step:∀ (i:Nat) (mo:MOper),ml[i]? = some mo→NdZ cfg callE (key+8 * i) mo (cs i) (rs i) (cs (i+1))
 new0:∀ m,(cs 0).st.get (key+8 * m)=none
 dyn:Nbv cfg callE ml masks tr c' key=true
 tot:∀ i j,i<j→j<N→Nai ml i=false→Nai ml j=false→NaK masks j i=true∨sw=some (i,j)
section
variable {cfg:Cfg}{callE:CallE}{N:Nat}{ml:List MOper}{masks:List Nat}{tr:List (Loc×PV)}{c':Loc}{key:Nat}{sw:Option (Nat×Nat)}{cs:Nat→Loc}{rs:Nat→PV}
theorem TCtx.stAt(T:TCtx cfg callE N ml masks tr c' key sw cs rs){i:Nat}(h:i≤N):stAt tr c' i=(cs i).st:=by
 unfold Go.Pe.stAt;by_cases e:i<N
 ·rw[T.trc i e]
 ·have:i=N:=by omega
  subst this;rw[List.getElem?_eq_none (by rw[T.trl];omega),T.fin]
theorem TCtx.mo(T:TCtx cfg callE N ml masks tr c' key sw cs rs){i:Nat}(h:i<N):∃ mo,ml[i]? = some mo∧Nai ml i=NaB mo.op :=
 ⟨ml[i]'(by rw[T.len];exact h),List.getElem?_eq_getElem _,by simp[Nai,T.len,h]⟩
theorem TCtx.st1(T:TCtx cfg callE N ml masks tr c' key sw cs rs){i:Nat}(h:i<N)(hq:Nai ml i=true):(cs (i+1)).st=(cs i).st∨∃ o,(cs (i+1)).st=(cs i).st.put (key+8 * i) (some o):=by
 obtain⟨mo,hmo,e⟩:=T.mo h;rcases T.step i mo hmo with⟨_,st,hev,hc⟩|⟨_,_,hc⟩
 ·rw[hc,Nbb];exact NbG (by rw[←e];exact hq) hev
 ·rw[hc,Nbb];exact .inl rfl
theorem TCtx.dynQ(T:TCtx cfg callE N ml masks tr c' key sw cs rs){q t:Nat}(hq:q<N)(hqq:Nai ml q=true)(ht:t≤N)(htc:t=N∨Nai ml t=false):NdM ml q t=true∨Nf5 ml masks q t=false∨Ndy cfg callE ml tr c' key q t=true:=by
 have h:=List.all_eq_true.1 T.dyn q (by rw[T.len];simpa using hq);rw[if_pos hqq]at h;have h2:=List.all_eq_true.1 h t (by rw[T.len];simp;omega);simp only[Bool.or_eq_true,Bool.and_eq_true,decide_eq_true_eq,Bool.not_eq_true']at h2;rcases h2 with((⟨h3,h4⟩|h3)|h3)|h3
 ·exfalso;rw[T.len]at h3;rcases htc with e|e
  ·omega
  ·rw[e]at h4;simp at h4
 ·exact .inl h3
 ·exact .inr (.inl h3)
 ·exact .inr (.inr h3)
theorem TCtx.dynC(T:TCtx cfg callE N ml masks tr c' key sw cs rs){j:Nat}(hj:j<N)(hjq:Nai ml j=false):(∀ m,j<m→m<N→(cs (j+1)).st.get (key+8 * m)=none)∧(∀ m,m<j→Nai ml m=true→NaK masks j m=true∨(cs j).st.get (key+8 * m)=none):=by
 have h:=List.all_eq_true.1 T.dyn j (by rw[T.len];simpa using hj);rw[if_neg (by rw[hjq];simp)]at h;refine⟨fun m h1 h2=>?_,fun m h1 h2=>?_⟩
 ·have h3:=List.all_eq_true.1 h m (by rw[T.len];simpa using h2);rw[if_pos h1,T.stAt (i:=j+1) Zaa]at h3;simpa using h3
 ·have h3:=List.all_eq_true.1 h m (by rw[T.len];simp;omega);rw[if_neg Zaa,if_pos (by simp[h1,h2]),T.stAt (i:=j) Zaa]at h3;simpa using h3
theorem TCtx.fresh(T:TCtx cfg callE N ml masks tr c' key sw cs rs):∀ i m,i≤m→m<N→(cs i).st.get (key+8 * m)=none
 |0,m,_,_=>T.new0 m
 |i+1,m,h,hm=>by
   cases hq:Nai ml i with
   |true =>
     have ih:=T.fresh i m Zaa hm;rcases T.st1 Zaa hq with e|⟨o,e⟩
     ·rw[e];exact ih
     ·rw[e,Yae Zaa];exact ih
   |false=>exact(T.dynC Zaa hq).1 m Zaa hm
theorem TCtx.along(T:TCtx cfg callE N ml masks tr c' key sw cs rs):∀ t i,i≤t→t≤N→(∀ m,i≤m→m<t→Nai ml m=true)→(cs t).st.cnt=(cs i).st.cnt∧∀ k,(∀ m,i≤m→m<t→k≠key+8 * m)→(cs t).st.get k=(cs i).st.get k
 |0,i,hi,_,_=>by rw[show i=0 by omega];exact⟨rfl,fun _ _=>rfl⟩
 |t+1,i,hi,ht,hq=>by
   by_cases e:i=t+1
   ·rw[e];exact⟨rfl,fun _ _=>rfl⟩
   ·obtain⟨h1,h2⟩:=T.along t i Zaa Zaa (fun m a b=>hq m a Zaa);rcases T.st1 (i:=t) Zaa (hq t Zaa Zaa)with e1|⟨o,e1⟩
    ·rw[e1];exact⟨h1,fun k hk=>h2 k (fun m a b=>hk m a Zaa)⟩
    ·rw[e1];refine⟨h1,fun k hk=>?_⟩;rw[Yae (fun e=>hk t Zaa Zaa e.symm)];exact h2 k (fun m a b=>hk m a Zaa)
theorem TCtx.sigA(T:TCtx cfg callE N ml masks tr c' key sw cs rs){t:Nat}(ht:t≤N){k:Nat}{y:PObj}(h:(cs t).st.get k=some y):(sig ml tr c' key t).get k=some y:=by
 unfold sig;rw[Ncu]
 ·rw[T.stAt ht];exact h
 ·rintro q hq h1 h2 rfl;rw[T.fresh t q h1 (by rw[←T.len];simpa using hq)]at h;simp at h
theorem TCtx.sigC(T:TCtx cfg callE N ml masks tr c' key sw cs rs){t:Nat}(ht:t≤N){k:Nat}{y:PObj}(h:(sig ml tr c' key t).get k=some y):(cs t).st.get k=some y∨∃ q,q<N∧t≤q∧Nai ml q=true∧k=key+8 * q∧(cs (q+1)).st.get (key+8 * q)=some y:=by
 rcases NdK _ _ _ _ h with h1|⟨q,h1,h2,h3,h4,h5⟩
 ·rw[T.stAt ht]at h1;exact .inl h1
 ·have hq:q<N:=by rw[←T.len];simpa using h1
  right;exact⟨q,hq,h2,h3,h4,by rwa[T.stAt Zaa]at h5⟩
theorem TCtx.sigB(T:TCtx cfg callE N ml masks tr c' key sw cs rs){t q:Nat}(ht:t≤q)(hq:q<N)(hqq:Nai ml q=true):(sig ml tr c' key t).get (key+8 * q)=(cs (q+1)).st.get (key+8 * q):=by
 cases hx:(cs (q+1)).st.get (key+8 * q)with
 |some y=>exact Ngj _ _ q (by rw[T.len];simpa using hq) List.nodup_range ht hqq y (by rw[T.stAt (by omega)];exact hx)
 |none =>
   cases hy:(sig ml tr c' key t).get (key+8 * q)with
   |none=>rfl
   |some y =>
     rcases T.sigC Zaa hy with h|⟨q',h1,h2,h3,h4,h5⟩
     ·rw[T.fresh t q ht hq]at h;simp at h
     ·have:q'=q:=(by omega);subst this;rw[hx]at h5;simp at h5
theorem TCtx.sigD(T:TCtx cfg callE N ml masks tr c' key sw cs rs){t q:Nat}(ht:t≤N)(hq:q<t):(sig ml tr c' key t).get (key+8 * q)=(cs t).st.get (key+8 * q):=by
 cases hx:(cs t).st.get (key+8 * q)with
 |some y=>exact T.sigA ht hx
 |none =>
   cases hy:(sig ml tr c' key t).get (key+8 * q)with
   |none=>rfl
   |some y =>
     rcases T.sigC ht hy with h|⟨q',h1,h2,h3,h4,h5⟩
     ·rw[hx]at h;simp at h
     ·omega
theorem TCtx.sigN(T:TCtx cfg callE N ml masks tr c' key sw cs rs){t:Nat}(ht:t≤N):(sig ml tr c' key t).cnt=(cs t).st.cnt:=by
 unfold sig;rw[NeA,T.stAt ht]
theorem Nhz(ml:List MOper)(N:Nat):∀ (d i:Nat),i+d=N→∃ t,i≤t∧t≤N∧(t=N∨Nai ml t=false)∧∀ m,i≤m→m<t→Nai ml m=true
 |0,i,h=>⟨i,Nat.le_refl _,by omega,.inl Zaa,fun m a b=>by omega⟩
 |d+1,i,h=>by
   cases hq:Nai ml i with
   |false=>exact⟨i,Nat.le_refl _,by omega,.inr hq,fun m a b=>by omega⟩
   |true =>
     obtain⟨t,h1,h2,h3,h4⟩:=Nhz ml N d (i+1) Zaa;refine⟨t,by omega,h2,h3,fun m a b=>?_⟩;by_cases e:m=i
     ·rw[e];exact hq
     ·exact h4 m Zaa b
theorem TCtx.quietT{ops:Array Oper}(T:TCtx cfg callE ops.size ml masks tr c' key sw cs rs){t:Nat}(ht:t≤ops.size)(htc:t=ops.size∨Nai ml t=false){q:Nat}{mo:MOper}(hmo:ml[q]? = some mo)(hqb:NaB mo.op=true)
 (hm1:∀ w,w<ops.size→Nai ml w=false→NaK masks q w=true→w<t) (hm2:∀ w,w<ops.size→Nai ml w=false→NaK masks w q=true→¬ w<t) :
 (NaA (cs q) mo.guard=some true→∃ st st',(∀ k y,st.get k=some y→(sig ml tr c' key t).get k=some y)∧st.get (key+8 * q)=none∧st.cnt=(sig ml tr c' key t).cnt∧Nap cfg callE (cs q).rd st (key+8 * q) mo.op=some (rs q,st')∧(sig ml tr c' key t).get (key+8 * q)=st'.get (key+8 * q)) ∧
 (NaA (cs q) mo.guard=some false→(sig ml tr c' key t).get (key+8 * q)=none):=by
 have hq:q<ops.size:=by rw[←T.len];exact(List.getElem?_eq_some_iff.1 hmo).1
 have hqq:Nai ml q=true:=by simp[Nai,hmo,hqb]
 have hmay:Nf5 ml masks q t=true:=by
  unfold Nf5;rw[List.all_eq_true];intro j hj;have hj':j<ops.size:=by rw[←T.len];simpa using hj
  cases hjq:Nai ml j with
  |true=>rfl
  |false =>
    simp only[Bool.false_or,Bool.and_eq_true,Bool.or_eq_true,Bool.not_eq_true',decide_eq_true_eq];refine⟨?_,?_⟩
    ·cases h:NaK masks q j with
     |false=>exact .inl rfl
     |true=>exact .inr (hm1 j hj' hjq h)
    ·cases h:NaK masks j q with
     |false=>exact .inl rfl
     |true=>exact .inr (by have:=hm2 j hj' hjq h;omega)
 -- where the text has it
 have text:NdM ml q t=true→q<t∧∀ m,q≤m→m<t→Nai ml m=true:=by
  intro h;have h':∀ j,j<ops.size→Nai ml j=false→(j<t↔j<q):=by
   intro j hj hjq;have:=List.all_eq_true.1 h j (by rw[T.len];simpa using hj);rw[hjq]at this;simp only[Bool.false_or,beq_iff_eq,decide_eq_decide]at this;exact this
  have hqt:q<t:=by
   rcases htc with e|e
   ·omega
   ·by_cases e2:t<ops.size
    ·have h3:=h' t e2 e;by_cases e3:q=t
     ·subst e3;rw[e]at hqq;simp at hqq
     ·omega
    ·omega
  refine⟨hqt,fun m a b=>?_⟩;cases hmq:Nai ml m with
  |true=>rfl
  |false=>exact absurd ((h' m Zaa hmq).1 b) Zaa
 have after:NdM ml q t=true→(sig ml tr c' key t).get (key+8 * q)=(cs (q+1)).st.get (key+8 * q):=by
  intro h;obtain⟨h1,h2⟩:=text h;rw[T.sigD ht h1];exact(T.along t (q+1) Zaa ht (fun m a b=>h2 m Zaa b)).2 _ (fun m a b=>by omega)
 have agn:Ndy cfg callE ml tr c' key q t=true→(sig ml tr c' key t).get (key+8 * q)=(cs (q+1)).st.get (key+8 * q):=by
  intro h;unfold Ndy at h;simp only[Bool.and_eq_true,Bool.or_eq_true,decide_eq_true_eq]at h;by_cases e:t≤q
  ·exact T.sigB e hq hqq
  ·rcases h.1 with h1|h1
   ·omega
   ·rw[T.sigD ht Zaa];have:=PObj.same_eq h1;rwa[T.stAt ht,T.stAt Zaa]at this
 have hcase:=T.dynQ hq hqq ht htc;have hall:(sig ml tr c' key t).get (key+8 * q)=(cs (q+1)).st.get (key+8 * q):=by
  rcases hcase with h|h|h
  ·exact after h
  ·rw[hmay]at h;simp at h
  ·exact agn h
 refine⟨fun hgd=>?_,fun hgd=>?_⟩
 ·rcases hcase with h|h|h
  ·obtain⟨h1,h2⟩:=text h;rcases T.step q mo hmo with⟨_,st,hev,hc⟩|⟨hgd',_,_⟩
   ·have hst:(cs (q+1)).st=st:=(by rw[hc,Nbb]);obtain⟨a1,a2⟩:=T.along t q Zaa ht h2;refine⟨(cs q).st,st,fun k y hy=>?_,T.fresh q q (Nat.le_refl _) hq,by rw[T.sigN ht,a1],hev,by rw[hall,hst]⟩;refine T.sigA ht ?_;rw[a2 k ?_]
    ·exact hy
    ·rintro m m1 m2 rfl;rw[T.fresh q m m1 Zaa]at hy;simp at hy
   ·rw[hgd]at hgd';simp at hgd'
  ·rw[hmay]at h;simp at h
  ·unfold Ndy at h;rw[hmo,T.trc q hq]at h;simp only[hgd,Bool.and_eq_true]at h;obtain⟨_,h⟩:=h;split at h
   ·rename_i r' st' hev;simp only[Bool.and_eq_true]at h;have e1:=PV.same_eq _ _ _ h.1;have e2:=PObj.same_eq h.2;rw[T.stAt Zaa]at e2;refine⟨(sig ml tr c' key t).put (key+8 * q) none,st',fun k y hy=>(St.drop_less _ _ k y hy).2,?_,rfl,by rw[hev,e1],by rw[hall,e2]⟩;cases hx:((sig ml tr c' key t).put (key+8 * q) none).get (key+8 * q)with
    |none=>rfl
    |some y=>exact absurd rfl (St.drop_less _ _ _ _ hx).1
   ·simp at h
 ·rw[hall];rcases T.step q mo hmo with⟨hgd',_⟩|⟨_,_,hc⟩
  ·rw[hgd]at hgd';simp at hgd'
  ·rw[hc,Nbb];exact T.fresh q q (Nat.le_refl _) hq
theorem TCtx.chainT{ops:Array Oper}(T:TCtx cfg callE ops.size ml masks tr c' key sw cs rs){t:Nat}(ht:t≤ops.size){mo:MOper}(hmo:ml[t]? = some mo)(hwb:NaB mo.op=false) :
 ∃ t',t'≤ops.size∧(t'=ops.size∨Nai ml t'=false)∧(∀ v,v<ops.size→Nai ml v=false→(v<t'↔v=t∨v<t)) ∧
 (NaA (cs t) mo.guard=some false→(∀ k y,(sig ml tr c' key t').get k=some y→(sig ml tr c' key t).get k=some y)∧(sig ml tr c' key t').cnt=(sig ml tr c' key t).cnt) ∧
 (NaA (cs t) mo.guard=some true→∃ st st1,(∀ k y,st.get k=some y→(sig ml tr c' key t).get k=some y)∧st.cnt=(sig ml tr c' key t).cnt∧Nap cfg callE (cs t).rd st (key+8 * t) mo.op=some (rs t,st1) ∧
  (∀ k y,(sig ml tr c' key t').get k=some y→st1.get k=some y∨(st.get k=none∧(sig ml tr c' key t).get k=some y))∧(sig ml tr c' key t').cnt=st1.cnt∧(∀ q,q<ops.size→Nai ml q=true→(st.get (key+8 * q)).isSome→NaK masks t q=true)):=by
 have hw:t<ops.size:=by rw[←T.len];exact(List.getElem?_eq_some_iff.1 hmo).1
 have hwq:Nai ml t=false:=by simp[Nai,hmo,hwb]
 obtain⟨t',h1,h2,h3,h4⟩:=Nhz ml ops.size (ops.size - (t+1)) (t+1) Zaa;obtain⟨a1,a2⟩:=T.along t' (t+1) h1 h2 h4
 -- what is there behind
 have sigs:∀ k y,(sig ml tr c' key t').get k=some y→(cs (t+1)).st.get k=some y∨((cs t).st.get k=none∧(sig ml tr c' key t).get k=some y):=by
  intro k y hy;have made:∀ q,q<ops.size→t≤q→Nai ml q=true→(cs (q+1)).st.get (key+8 * q)=some y→k=key+8 * q→(cs t).st.get k=none∧(sig ml tr c' key t).get k=some y:=by
   rintro q q1 q2 q3 q4 rfl;exact⟨T.fresh t q q2 q1,by rw[T.sigB q2 q1 q3];exact q4⟩
  rcases T.sigC h2 hy with h|⟨q,q1,q2,q3,q4,q5⟩
  ·by_cases hm:∃ m,t+1≤m∧m<t'∧k=key+8 * m
   ·obtain⟨m,m1,m2,rfl⟩:=hm;right;refine made m Zaa Zaa (h4 m m1 m2) ?_ rfl;rw[←(T.along t' (m+1) Zaa h2 (fun q a b=>h4 q Zaa b)).2 _ (fun q a b=>by omega)];exact h
   ·left;rw[←a2 k (fun m a b e=>hm ⟨m,a,b,e⟩)];exact h
  ·right;exact made q q1 Zaa q3 q5 q4
 refine⟨t',h2,h3,?_,fun hgd=>?_,fun hgd=>?_⟩
 ·intro v hv hvq;constructor
  ·intro h;by_cases e:v<t+1
   ·omega
   ·have:=h4 v Zaa h;rw[hvq]at this;simp at this
  ·intro h;omega
 ·rcases T.step t mo hmo with⟨hgd',_⟩|⟨_,_,hc⟩
  ·rw[hgd]at hgd';simp at hgd'
  ·have e:(cs (t+1)).st=(cs t).st:=(by rw[hc,Nbb]);refine⟨fun k y hy=>?_,?_⟩
   ·rcases sigs k y hy with h|⟨_,h⟩
    ·rw[e]at h;exact T.sigA ht h
    ·exact h
   ·rw[T.sigN h2,T.sigN ht,a1,e]
 ·rcases T.step t mo hmo with⟨_,st,hev,hc⟩|⟨hgd',_⟩
  ·have e:(cs (t+1)).st=st:=(by rw[hc,Nbb]);refine⟨(cs t).st,st,fun k y hy=>T.sigA ht hy,(T.sigN ht).symm,hev,?_,by rw[T.sigN h2,a1,e],?_⟩
   ·intro k y hy;rw[←e];exact sigs k y hy
   ·intro q hq hqq hs;by_cases hqt:q<t
    ·rcases(T.dynC hw hwq).2 q hqt hqq with h|h
     ·exact h
     ·rw[h]at hs;simp at hs
    ·rw[T.fresh t q Zaa hq]at hs;simp at hs
  ·rw[hgd]at hgd';simp at hgd'
end
theorem Nmq{st st':St}{n:Nat}{a v:PV}{k off:Nat}(h:Na1 st n a v=some st')(ha:a=.ptr k off):∃ y o,st.get k=some y∧st'=st.put k (some o)∧∀ st2:St,st2.get k=st.get k→Na1 st2 n a v=some (st2.put k (some o)):=by
 subst ha;unfold Na1 at h;simp only[]at h;split at h
 ·rename_i cs hg;split at h
  ·rename_i hc;simp only[Sj]at h;refine⟨_,_,hg,h.symm,fun st2 h2=>?_⟩;unfold Na1;simp only[h2,hg];rw[if_pos hc]
  ·simp at h
 ·rename_i T hg;split at h
  ·rename_i j;split at h
   ·rename_i hc;simp only[Sj]at h;refine⟨_,_,hg,h.symm,fun st2 h2=>?_⟩;unfold Na1;simp only[h2,hg];rw[if_pos hc]
   ·simp at h
  ·simp at h
 ·simp at h
theorem Nha{ml:List MOper}{i n:Nat}{a x:Arg}(h:storeAt ml i=some (n,a,x)):∃ d,ml[i]? = some { dst:=d,op:=.store n a x,guard:=none }:=by
 unfold storeAt at h;split at h
 ·rename_i d n' a' x' hm;simp only[Sj,Pj]at h;obtain⟨rfl,rfl,rfl⟩:=h;exact⟨d,hm⟩
 ·simp at h
section
variable {cfg:Cfg}{callE:CallE}{N:Nat}{ml:List MOper}{masks:List Nat}{tr:List (Loc×PV)}{c':Loc}{key:Nat}{sw:Option (Nat×Nat)}{cs:Nat→Loc}{rs:Nat→PV}
theorem TCtx.storeI(T:TCtx cfg callE N ml masks tr c' key sw cs rs){i ki:Nat}(hi:i<N)(h:Ncc ml tr i=some ki):∃ n a x d y o,storeAt ml i=some (n,a,x)∧ml[i]? = some { dst:=d,op:=.store n a x,guard:=none }∧(cs i).st.get ki=some y∧(cs (i+1)).st=(cs i).st.put ki (some o)∧rs i=.tup [] ∧
 ∀ st2:St,st2.get ki=(cs i).st.get ki→Na1 st2 n ((cs i).rd a) ((cs i).rd x)=some (st2.put ki (some o)):=by
 unfold Ncc at h;rw[T.trc i hi]at h;split at h
 ·rename_i n a x c r hsa htr;simp only[Sj,Pj]at htr;obtain⟨rfl,rfl⟩:=htr;split at h
  ·rename_i k off hk;simp only[Sj]at h;subst h;obtain⟨d,hm⟩:=Nha hsa;rcases T.step i _ hm with⟨_,st,hev,hc⟩|⟨hgd',_,_⟩
   ·simp only[Nap,Option.map_eq_some_iff,Pj]at hev;obtain⟨st',h1,h2,rfl⟩:=hev;obtain⟨y,o,h3,h4,h5⟩:=Nmq h1 hk;exact⟨n,a,x,d,y,o,hsa,hm,h3,by rw[hc,Nbb];exact h4,h2.symm,h5⟩
   ·simp[NaA]at hgd'
  ·simp at h
 ·simp at h
theorem TCtx.swap(T:TCtx cfg callE N ml masks tr c' key sw cs rs){i j ki kj:Nat}(hij:i<j)(hj:j<N)(hiq:Nai ml i=false)(hjq:Nai ml j=false)(hlast:∀ w,w<N→Nai ml w=false→w=j∨w≤i)(h1:Ncc ml tr i=some ki)(h2:Ncc ml tr j=some kj)(hne:ki≠kj) :
 ∃ n a x d n' a' x' d' oi oj,ml[i]? = some { dst:=d,op:=.store n a x,guard:=none }∧ml[j]? = some { dst:=d',op:=.store n' a' x',guard:=none }∧rs i=.tup []∧rs j=.tup [] ∧
   Na1 (sig ml tr c' key i) n' ((cs j).rd a') ((cs j).rd x')=some (NbE ml tr c' key i j)∧NbE ml tr c' key i j=(sig ml tr c' key i).put kj (some oj) ∧
   Na1 (NbE ml tr c' key i j) n ((cs i).rd a) ((cs i).rd x)=some ((NbE ml tr c' key i j).put ki (some oi)) ∧
   (∀ k y,(sig ml tr c' key N).get k=some y→((NbE ml tr c' key i j).put ki (some oi)).get k=some y)∧(sig ml tr c' key N).cnt=(sig ml tr c' key i).cnt:=by
 obtain⟨n,a,x,d,yi,oi,a1,a2,a3,a4,a5,a6⟩:=T.storeI Zaa h1;obtain⟨n',a',x',d',yj,oj,b1,b2,b3,b4,b5,b6⟩:=T.storeI hj h2;have q1:∀ m,i+1≤m→m<j→Nai ml m=true:=by
  intro m m1 m2;cases h:Nai ml m with
  |true=>rfl
  |false=>rcases hlast m Zaa h with e|e<;>omega
 have q2:∀ m,j+1≤m→m<N→Nai ml m=true:=by
  intro m m1 m2;cases h:Nai ml m with
  |true=>rfl
  |false=>rcases hlast m m2 h with e|e<;>omega
 obtain⟨c1,d1⟩:=T.along j (i+1) Zaa Zaa q1;obtain⟨c2,d2⟩:=T.along N (j+1) Zaa (Nat.le_refl _) q2;have hki:∀ m,i≤m→m<N→ki≠key+8 * m:=by
  rintro m m1 m2 rfl;rw[T.fresh i m m1 m2]at a3;simp at a3
 have hkj:∀ m,j≤m→m<N→kj≠key+8 * m:=by
  rintro m m1 m2 rfl;rw[T.fresh j m m1 m2]at b3;simp at b3
 -- ahead of 'j', at another place than the first
 have mid:∀ k y,k≠ki→(cs j).st.get k=some y→(sig ml tr c' key i).get k=some y:=by
  intro k y hk hy;by_cases hm:∃ m,i+1≤m∧m<j∧k=key+8 * m
  ·obtain⟨m,m1,m2,rfl⟩:=hm;rw[T.sigB Zaa Zaa (q1 m m1 m2)];rw[(T.along j (m+1) Zaa Zaa (fun q u v=>q1 q Zaa v)).2 _ (fun q u v=>by omega)]at hy;exact hy
  ·rw[d1 k (fun m u v e=>hm ⟨m,u,v,e⟩),a4,Yae (fun e=>hk e.symm)]at hy;exact T.sigA Zaa hy
 have gj:(sig ml tr c' key i).get kj=(cs j).st.get kj:=by
  rw[mid kj yj (fun e=>hne e.symm) b3,b3]
 have gi:(sig ml tr c' key i).get ki=(cs i).st.get ki:=by
  rw[T.sigA Zaa a3,a3]
 have hb:=b6 _ gj;have hsw:NbE ml tr c' key i j=(sig ml tr c' key i).put kj (some oj):=by
  unfold NbE;rw[b1,T.trc j hj];simp only[];rw[hb];rfl
 have ha:=a6 (NbE ml tr c' key i j) (by rw[hsw,Yae (fun e=>hne e.symm)];exact gi);refine⟨n,a,x,d,n',a',x',d',oi,oj,a2,b2,a5,b5,by rw[hsw];exact hb,hsw,ha,?_,?_⟩
 ·intro k y hy;have hN:(cs N).st.get k=some y:=by
   rcases T.sigC (Nat.le_refl _) hy with h|⟨q,h3,h4,_⟩
   ·exact h
   ·omega
  have rk:True:=St.get_range a3;have rj:True:=St.get_range b3;have rest:k≠kj→(cs j).st.get k=some y→((NbE ml tr c' key i j).put ki (some oi)).get k=some y:=by
   intro hk hy;by_cases e:k=ki
   ·subst e;rw[d1 k (fun m u v e=>hki m Zaa Zaa e),a4,St.get_put_same _ rk]at hy;rw[St.get_put_same _ rk];exact hy
   ·rw[Yae (fun h=>e h.symm),hsw,Yae (fun h=>hk h.symm)];exact mid k y e hy
  by_cases hm:∃ m,j+1≤m∧m<N∧k=key+8 * m
  ·obtain⟨m,m1,m2,rfl⟩:=hm;rw[(T.along N (m+1) Zaa (Nat.le_refl _) (fun q u v=>q2 q Zaa v)).2 _ (fun q u v=>by omega)]at hN;rw[Yae (hki m Zaa m2),hsw,Yae (hkj m Zaa m2),T.sigB Zaa m2 (q2 m m1 m2)];exact hN
  ·rw[d2 k (fun m u v e=>hm ⟨m,u,v,e⟩),b4]at hN;by_cases e:k=kj
   ·subst e;rw[St.get_put_same _ rj]at hN;rw[Yae hne,hsw,St.get_put_same _ rj];exact hN
   ·rw[Yae (fun h=>e h.symm)]at hN;exact rest e hN
 ·rw[T.sigN (Nat.le_refl _),T.sigN Zaa,c2,b4,St.put_cnt,c1,a4,St.put_cnt]
end
section
variable {cfg:Cfg}{callE:CallE}{ml:List MOper}{masks:List Nat}{tr:List (Loc×PV)}{c':Loc}{key:Nat}{sw:Option (Nat×Nat)}{cs:Nat→Loc}{rs:Nat→PV}
abbrev NqQ(N:Nat)(ml:List MOper)(sw:Option (Nat×Nat)):={ x:Option Nat // match x with|some t=>t≤N∧(t=N∨Nai ml t=false)|none=>sw.isSome=true }
def dnX(N:Nat)(ml:List MOper)(sw:Option (Nat×Nat))(x:NqQ N ml sw)(w:Nat):Bool:=match x.1 with
 |some t=>decide (w<t)
 |none=>match sw with
   |some (i,_)=>!decide (w=i)
   |none=>true
noncomputable def sgX(N:Nat)(ml:List MOper)(tr:List (Loc×PV))(c':Loc)(key:Nat)(sw:Option (Nat×Nat))(x:NqQ N ml sw):St:=match x.1 with
 |some t=>sig ml tr c' key t
 |none=>match sw with
   |some (i,j)=>NbE ml tr c' key i j
   |none=>sig ml tr c' key 0
theorem NpP{ops:Array Oper}(T:TCtx cfg callE ops.size ml masks tr c' key sw cs rs)(hok:NfH ml sw=true)(hdy:NcD cfg callE ml masks tr c' key sw=true) :
 PosSys cfg callE ops ml (fun i j=>NaK masks i j=true) key cs rs (NqQ ops.size ml sw) (dnX ops.size ml sw) (sgX ops.size ml tr c' key sw):=by
 refine⟨?_,?_,?_⟩
 ·rintro⟨x,hx⟩ q mo hmo hqb ⟨hm1,hm2⟩;cases x with
  |some t =>
    simp only[dnX,decide_eq_true_eq,decide_eq_false_iff_not]at hm1 hm2;exact T.quietT hx.1 hx.2 hmo hqb hm1 hm2
  |none =>
    cases sw with
    |none=>simp at hx
    |some ij =>
      obtain⟨i,j⟩:=ij;simp only[dnX,sgX,Bool.not_eq_true',decide_eq_false_iff_not,Bool.not_eq_false',decide_eq_true_eq]at hm1 hm2 ⊢;have hq:q<ops.size:=(by rw[←T.len];exact(List.getElem?_eq_some_iff.1 hmo).1);have hqq:Nai ml q=true:=(by simp[Nai,hmo,hqb]);simp only[NfH,Bool.and_eq_true,decide_eq_true_eq,Bool.not_eq_true']at hok;obtain⟨⟨⟨⟨⟨⟨o1,o2⟩,o3⟩,o4⟩,o5⟩,o6⟩,o7⟩:=hok;unfold NcD at hdy;simp only[]at hdy;split at hdy
      ·rename_i ki kj hki hkj;simp only[Bool.and_eq_true,Bool.not_eq_true',decide_eq_false_iff_not]at hdy;obtain⟨hne,hdy⟩:=hdy;have h:=List.all_eq_true.1 hdy q (by rw[T.len];simpa using hq);rw[hqq]at h;simp only[Bool.not_true,Bool.false_or,Bool.and_eq_true,Bool.or_eq_true,Bool.not_eq_true']at h;obtain⟨_,h⟩:=h;have hmay:Nrt ml masks i q=true:=by
        unfold Nrt;simp only[Bool.and_eq_true,Bool.not_eq_true'];refine⟨?_,List.all_eq_true.2 fun w hw=>?_⟩
        ·cases hA:NaK masks q i with
         |false=>rfl
         |true=>exact absurd rfl (hm1 i (by rw[T.len]at o2;omega) o3 hA)
        ·have hw':w<ops.size:=(by rw[←T.len];simpa using hw);cases hwq:Nai ml w with
         |true=>rfl
         |false =>
           simp only[Bool.false_or,Bool.or_eq_true,decide_eq_true_eq,Bool.not_eq_true'];cases hA:NaK masks w q with
           |false=>exact .inr rfl
           |true=>exact .inl (hm2 w hw' hwq hA)
       rcases h with h|h
       ·rw[hmay]at h;simp at h
       ·unfold NmB at h;rw[hmo,T.trc q hq]at h;simp only[Bool.and_eq_true]at h;obtain⟨h0,h⟩:=h;have e0:=PObj.same_eq h0;rw[T.stAt Zaa]at e0;refine⟨fun hgd=>?_,fun hgd=>?_⟩
        ·rw[hgd]at h;simp only[]at h;split at h
         ·rename_i r' st' hev;simp only[Bool.and_eq_true]at h;have e1:=PV.same_eq _ _ _ h.1;have e2:=PObj.same_eq h.2;rw[T.stAt Zaa]at e2;refine⟨(NbE ml tr c' key i j).put (key+8 * q) none,st',fun k y hy=>(St.drop_less _ _ k y hy).2,?_,rfl,by rw[hev,e1],by rw[e0,e2]⟩;cases hx:((NbE ml tr c' key i j).put (key+8 * q) none).get (key+8 * q)with
          |none=>rfl
          |some y=>exact absurd rfl (St.drop_less _ _ _ _ hx).1
         ·simp at h
        ·rw[e0];rcases T.step q mo hmo with⟨hgd',_⟩|⟨_,_,hc⟩
         ·rw[hgd]at hgd';simp at hgd'
         ·rw[hc,Nbb];exact T.fresh q q (Nat.le_refl _) hq
      ·simp at hdy
 ·rintro⟨x,hx⟩ w mo hmo hwb hdn ⟨hm1,hm2⟩;have hw:w<ops.size:=by rw[←T.len];exact(List.getElem?_eq_some_iff.1 hmo).1
  have hwq:Nai ml w=false:=by simp[Nai,hmo,hwb]
  have swd:∀ i j,sw=some (i,j)→i<j∧j<ops.size∧Nai ml i=false∧Nai ml j=false∧(∀ w,w<ops.size→Nai ml w=false→w=j∨w≤i)∧∃ ki kj,Ncc ml tr i=some ki∧Ncc ml tr j=some kj∧ki≠kj∧∀ q,q<ops.size→Nai ml q=true →
   (NaK masks j q=true∨(sig ml tr c' key i).get (key+8 * q)=none)∧(NaK masks i q=true∨(NbE ml tr c' key i j).get (key+8 * q)=none):=by
   rintro i j rfl;simp only[NfH,Bool.and_eq_true,decide_eq_true_eq,Bool.not_eq_true']at hok;obtain⟨⟨⟨⟨⟨⟨o1,o2⟩,o3⟩,o4⟩,o5⟩,o6⟩,o7⟩:=hok;unfold NcD at hdy;simp only[]at hdy;split at hdy
   ·rename_i ki kj hki hkj;simp only[Bool.and_eq_true,Bool.not_eq_true',decide_eq_false_iff_not]at hdy;obtain⟨hne,hdy⟩:=hdy;refine⟨o1,by rw[←T.len];exact o2,o3,o4,?_,ki,kj,hki,hkj,hne,?_⟩
    ·intro v hv hvq;have h:=List.all_eq_true.1 o7 v (by rw[T.len];simpa using hv);rw[hvq]at h;simpa using h
    ·intro q hq hqq;have h:=List.all_eq_true.1 hdy q (by rw[T.len];simpa using hq);rw[hqq]at h;simp only[Bool.not_true,Bool.false_or,Bool.and_eq_true,Bool.or_eq_true,Bool.not_eq_true']at h;exact⟨by simpa using h.1.1,by simpa using h.1.2⟩
   ·simp at hdy
  cases x with
  |some t =>
    simp only[dnX,decide_eq_true_eq,decide_eq_false_iff_not]at hdn hm1 hm2;by_cases htw:t=w
    ·subst htw;obtain⟨t',h1,h2,h3,h4,h5⟩:=T.chainT hx.1 hmo hwb;refine⟨⟨some t',h1,h2⟩,?_,h4,h5⟩;intro v hv hvq;simp only[dnX,decide_eq_true_eq];exact h3 v hv hvq
    ·have htq:Nai ml t=false:=by
      rcases hx.2 with e|e
      ·omega
      ·exact e
     have hsw:sw=some (t,w):=by
      rcases T.tot t w Zaa hw htq hwq with h|h
      ·have:=hm1 t Zaa htq h;omega
      ·exact h
     obtain⟨s1,s2,s3,s4,s5,ki,kj,s6,s7,s8,s9⟩:=swd t w hsw;obtain⟨n,a,x,d,n',a',x',d',oi,oj,u1,u2,u3,u4,u5,u6,u7,u8,u9⟩:=T.swap s1 s2 s3 s4 s5 s6 s7 s8;rw[hmo]at u2;simp only[Sj]at u2;subst u2;subst hsw;refine⟨⟨none,rfl⟩,?_,fun h=>by simp[NaA]at h,fun _=>⟨sig ml tr c' key t,NbE ml tr c' key t w,fun k y h=>h,rfl,?_,fun k y h=>.inl h,rfl,?_⟩⟩
     ·intro v hv hvq;simp only[dnX,Bool.not_eq_true',decide_eq_false_iff_not,decide_eq_true_eq];rcases s5 v hv hvq with e|e
      ·subst e;constructor
       ·intro _;exact .inl rfl
       ·intro _;omega
      ·constructor
       ·intro h;right;omega
       ·rintro(h|h)<;>omega
     ·simp only[Nap];rw[u5,u4];rfl
     ·intro q hq hqq hs;rcases(s9 q hq hqq).1 with h|h
      ·exact h
      ·rw[h]at hs;simp at hs
  |none =>
    cases sw with
    |none=>simp at hx
    |some ij =>
      obtain⟨i,j⟩:=ij;simp only[dnX,Bool.not_eq_false',decide_eq_true_eq]at hdn;subst hdn;obtain⟨s1,s2,s3,s4,s5,ki,kj,s6,s7,s8,s9⟩:=swd w j rfl;obtain⟨n,a,x,d,n',a',x',d',oi,oj,u1,u2,u3,u4,u5,u6,u7,u8,u9⟩:=T.swap s1 s2 s3 s4 s5 s6 s7 s8;rw[hmo]at u1;simp only[Sj]at u1;subst u1;refine⟨⟨some ops.size,Nat.le_refl _,.inl rfl⟩,?_,fun h=>by simp[NaA]at h,fun _=>⟨NbE ml tr c' key w j,(NbE ml tr c' key w j).put ki (some oi),fun k y h=>h,rfl,?_,fun k y h=>.inl (u8 k y h),?_,?_⟩⟩
      ·intro v hv hvq;simp only[dnX,Bool.not_eq_true',decide_eq_false_iff_not,decide_eq_true_eq];constructor
       ·intro _;by_cases e:v=w
        ·exact .inl e
        ·exact .inr e
       ·intro _;exact hv
      ·simp only[Nap];rw[u7,u3];rfl
      ·show(sig ml tr c' key ops.size).cnt=_;rw[u9,St.put_cnt,u6,St.put_cnt]
      ·intro q hq hqq hs;rcases(s9 q hq hqq).2 with h|h
       ·exact h
       ·rw[h]at hs;simp at hs
 ·rintro⟨x,hx⟩ hall;cases x with
  |some t =>
    have htN:t=ops.size:=by
     rcases hx.2 with e|e
     ·exact e
     ·by_cases e2:t<ops.size
      ·have:=hall t e2 e;simp[dnX]at this
      ·have:=hx.1;omega
    subst htN;exact⟨fun k y hy=>T.sigA (Nat.le_refl _) hy,(T.sigN (Nat.le_refl _)).symm⟩
  |none =>
    cases sw with
    |none=>simp at hx
    |some ij =>
      obtain⟨i,j⟩:=ij;simp only[NfH,Bool.and_eq_true,decide_eq_true_eq,Bool.not_eq_true']at hok;obtain⟨⟨⟨⟨⟨⟨o1,o2⟩,o3⟩,o4⟩,o5⟩,o6⟩,o7⟩:=hok;have:=hall i (by rw[T.len]at o2;omega) o3;simp[dnX]at this
end
section
variable {st st' s:St}{k key n j:Nat}{P:Program}{Gl:Gmap}{cfg:Cfg}{p r q:PV}{callE:CallE}{w:World}{g:List PV→Option PV}{F:Nat→Nat→Option Value}
theorem Nhm{V:List Nat}{modes:FuncId→Option Bool}(hcfg:CfgOK P Gl cfg)(hE:NaV P Gl callE){ops:Array Oper}{ml ml0:List MOper}(hml:mapO (NiP P V n modes ops) ops.toList=some ml0)(hrel:ml=ml0∨ml=ml0.map (Nna P)){masks:List Nat}{sw:Option (Nat×Nat)}(hdo:NeF ops.toList ml masks sw=true)
 {base key:Nat}{G:Ghost}{a:Act}{w:World}{c c':Loc}(hL:LocRel V G a c) (hn:n≤a.tmps.size) (hs:Sim G c.st w base) (hfu:Nhf Gl G c.st) (hk:∀ k,key≤k→G.B k=none) (hcnt:key+8 * ops.size≤c.st.cnt) {tr:List (Loc×PV)}(he:NcP cfg callE ml key c=some (tr,c')) (hdyn:Nbv cfg callE ml masks tr c' key=true) (hdyn2:NcD cfg callE ml masks tr c' key sw=true)
 {Q:Exit→Act→World→Prop}(hQ:∀ a' w' G',LocRel V G' a' c'→n≤a'.tmps.size→a'.defers=a.defers→c.st.cnt≤c'.st.cnt→Step base (fun k=>key≤k∧k<c'.st.cnt) G c.st w G' c'.st w'→Q .normal a' w') :
 wpAny P .any ops Q ops.size (Array.replicate ops.size false) a w:=by
 unfold NeF at hdo;simp only[Bool.and_eq_true]at hdo;obtain⟨⟨hdo2,hsok⟩,htot⟩:=hdo;unfold NfV at hdo2;obtain⟨cs,rs,h0,hN,htrl,htr,hst⟩:=Nh7 _ _ _ _ _ he;have hlen0:=(NaZ hml).1;have hlen:ml.length=ops.size:=by
  rcases hrel with rfl|rfl
  ·simpa using hlen0
  ·simpa using hlen0
 have hD:∀ i,i<ops.size→∀ o mo,ops[i]? = some o→ml[i]? = some mo→(∀ e∈o.after,Region.binds .any e=true→e.on<i) ∧
  (∀ j,j<ops.size→NaK masks i j=true→∃ e∈o.after,Region.binds .any e=true∧(e.on=j∨NaK masks e.on j=true)) ∧
  (∀ j,j<ops.size→∀ mj,ml[j]? = some mj→∀ t,mj.dst.slot=some t→(i=j∨mo.dst.slot≠some t)∧(t∈mo.reads→(j<i∧NaK masks i j=true)∨(i<j∧NaK masks j i=true))):=by
  intro i hi o mo ho hmo;have h:=List.all_eq_true.1 hdo2 i (by simpa using hi);have ho':ops.toList[i]? = some o:=by simpa using ho
  rw[ho',hmo]at h;simp only[Bool.and_eq_true]at h;obtain⟨⟨h2,h3⟩,h4⟩:=h;refine⟨?_,?_,?_⟩
  ·intro e he hb;have:=List.all_eq_true.1 h2 e (by simpa using he);simpa[hb]using this
  ·intro j hj hA;have:=List.all_eq_true.1 h3 j (by simpa using hj);simp only[hA,Bool.not_true,Bool.false_or,List.any_eq_true,Bool.and_eq_true,Bool.or_eq_true,beq_iff_eq]at this;obtain⟨e,he,hb,hc⟩:=this;exact⟨e,by simpa using he,hb,hc⟩
  ·intro j hj mj hmj t ht;have:=List.all_eq_true.1 h4 j (by simpa using hj);rw[hmj]at this;simp only[ht,Bool.and_eq_true,Bool.or_eq_true,decide_eq_true_eq,Bool.not_eq_true',bne_iff_ne]at this;obtain⟨h5,h6⟩:=this;refine⟨h5,fun hr=>?_⟩;rcases h6 with(h6|h6)|h6
   ·have:mo.reads.contains t=true:=(by simpa using hr);rw[this]at h6;simp at h6
   ·exact .inl h6
   ·exact .inr h6
 have hcomp:∀ (i:Nat) (o:Oper) (mo:MOper),ops[i]? = some o→ml[i]? = some mo→cDst V n o.dst=some mo.dst∧cGuard V n ops o.guard=some mo.guard∧(mo.op=.bad∨∃ m,cOp P V modes o.op=some m∧(m.plain=true∨isCallOp o.op=true)∧(mo.op=m∨∃ f l,m=.call f false l∧mo.op=.callq f l)):=by
  intro i o mo ho hmo;have base:∀ m0,ml0[i]? = some m0→cDst V n o.dst=some m0.dst∧cGuard V n ops o.guard=some m0.guard∧(m0.op=.bad∨(cOp P V modes o.op=some m0.op∧(m0.op.plain=true∨isCallOp o.op=true))):=fun m0 h0=>NdQ ((NaZ hml).2 i o m0 (by simpa using ho) h0);rcases hrel with rfl|rfl
  ·obtain⟨hd,hg,hop⟩:=base mo hmo;refine⟨hd,hg,?_⟩;rcases hop with h|⟨h1,h2⟩
   ·exact .inl h
   ·exact .inr ⟨_,h1,h2,.inl rfl⟩
  ·rw[List.getElem?_map,Option.map_eq_some_iff]at hmo;obtain⟨m0,hm0,rfl⟩:=hmo;obtain⟨hd,hg,hop⟩:=base m0 hm0;obtain⟨d0,op0,g0⟩:=m0;have same:cDst V n o.dst=some d0∧cGuard V n ops o.guard=some g0∧(op0=.bad∨∃ m,cOp P V modes o.op=some m∧(m.plain=true∨isCallOp o.op=true)∧(op0=m∨∃ f l,m=.call f false l∧op0=.callq f l)):=by
    refine⟨hd,hg,?_⟩;rcases hop with h|⟨h1,h2⟩
    ·exact .inl h
    ·exact .inr ⟨_,h1,h2,.inl rfl⟩
   unfold Nna;split
   ·rename_i f args heq;simp only[]at heq;split
    ·refine⟨hd,hg,?_⟩;rcases hop with h|⟨h1,h2⟩
     ·simp only[]at h;rw[h]at heq;simp at heq
     ·exact .inr ⟨_,h1,h2,.inr ⟨f,args,heq,rfl⟩⟩
    ·exact same
   ·exact same
 have hdst:∀ i,i<ops.size→∃ o mo,ops[i]? = some o∧ml[i]? = some mo∧mo.dst.slot=NbL ops i:=by
  intro i hi;refine⟨ops[i],ml[i]'(by rw[hlen];exact hi),Array.getElem?_eq_getElem hi,List.getElem?_eq_getElem _,?_⟩;obtain⟨hd,_,_⟩:=hcomp i _ _ (Array.getElem?_eq_getElem hi) (List.getElem?_eq_getElem (by rw[hlen];exact hi));rw[Nh2 hd];simp[NbL,hi]
 subst h0;have D:CCtx P Gl V n modes cfg callE ops ml (fun i j=>NaK masks i j=true) key G cs rs:=by
  have lt:∀ (i:Nat) (o:Oper),ops[i]? = some o→i<ops.size:=fun i o h=>(Array.getElem?_eq_some_iff.1 h).1;have lt2:∀ (i:Nat) (mo:MOper),ml[i]? = some mo→i<ops.size:=fun i o h=>by rw[←hlen];exact(List.getElem?_eq_some_iff.1 h).1
  refine⟨hlen,hcomp,hst,?_,?_,?_,?_,hfu,hk,hcnt⟩
  ·intro i o ho e he hb;have hi:=lt i o ho;obtain⟨_,mo,_,hmo,_⟩:=hdst i hi;exact(hD i hi o mo ho hmo).1 e he hb
  ·intro i o j ho hj hA;have hi:=lt i o ho;obtain⟨_,mo,_,hmo,_⟩:=hdst i hi;exact(hD i hi o mo ho hmo).2.1 j hj hA
  ·intro i j t hi hj hti htj;obtain⟨oi,mi,hoi,hmi,hsi⟩:=hdst i hi;obtain⟨oj,mj,hoj,hmj,hsj⟩:=hdst j hj;rcases((hD i hi oi mi hoi hmi).2.2 j hj mj hmj t (by rw[hsj,htj])).1 with h|h
   ·exact h
   ·exact absurd (by rw[hsi,hti]) h
  ·intro i j mo t hmo hj htj hr;have hi:=lt2 i mo hmo;obtain⟨oj,mj,hoj,hmj,hsj⟩:=hdst j hj;exact((hD i hi _ mo (Array.getElem?_eq_getElem hi) hmo).2.2 j hj mj hmj t (by rw[hsj,htj])).2 hr
 have hnew0:∀ m,(cs 0).st.get (key+8 * m)=none:=by
  intro m;cases hx:(cs 0).st.get (key+8 * m)with
  |none=>rfl
  |some x =>
    have:=hfu.2 (key+8 * m) (by rw[hx];rfl);rw[hk _ Zaa]at this;simp at this
 rw[hlen]at hN;have T:TCtx cfg callE ops.size ml masks tr c' key sw cs rs:=by
  refine⟨hlen,fun i hi=>htr i (by rw[hlen];exact hi),by rw[htrl,hlen],hN,hst,hnew0,hdyn,?_⟩;intro i j hij hj hi hjq;have h:=List.all_eq_true.1 (List.all_eq_true.1 htot i Zak) j (by simpa using hj);simpa[hij,hi,hjq,beq_iff_eq]using h
 have hls:∀ i,¬ LS (Array.replicate ops.size false) i:=by
  intro i h;unfold LS at h;simp[Array.getD_eq_getD_getElem?,Array.getElem?_replicate]at h;split at h<;>simp at h
 obtain⟨t0,_,ht0,htc0,hq0⟩:=Nhz ml ops.size ops.size 0 Zaa;obtain⟨al1,al2⟩:=T.along t0 0 Zaa ht0 hq0;have get:∀ k x,(sig ml tr c' key t0).get k=some x→(cs 0).st.get k=some x∨∃ q,q<ops.size∧Nai ml q=true∧k=key+8 * q:=by
  intro k x hx;rcases T.sigC ht0 hx with h|⟨q,q1,q2,q3,q4,_⟩
  ·by_cases hm:∃ m,m<t0∧k=key+8 * m
   ·obtain⟨m,m1,rfl⟩:=hm;exact .inr ⟨m,by omega,hq0 m Zaa m1,rfl⟩
   ·left;rw[←al2 k (fun m _ b e=>hm ⟨m,b,e⟩)];exact h
  ·exact .inr ⟨q,q1,q3,q4⟩
 have getB:∀ k x y,(sig ml tr c' key t0).get k=some x→G.B k=some y→(cs 0).st.get k=some x:=by
  intro k x y hx hy;rcases get k x hx with h|⟨q,_,_,rfl⟩
  ·exact h
  ·rw[hk _ Zaa]at hy;simp at hy
 have getB':∀ k y,((sig ml tr c' key t0).get k).isSome→G.B k=some y→((cs 0).st.get k).isSome:=by
  intro k y hx hy;obtain⟨x,hx⟩:=Option.isSome_iff_exists.1 hx;rw[getB k x y hx hy];rfl
 have hs0:Sim G (sig ml tr c' key t0) w base :=
  ⟨hs.bas,hs.frz,fun k l z b s hg hB=>hs.cells k l z b s (getB k _ _ hg hB) hB,fun k l b s hg hB=>hs.frzd k l b s (getB k _ _ hg hB) hB,fun k l b s hg ho hB=>hs.free k l b s (getB k _ _ hg hB) ho hB,
   fun k k' x x' h1 h2 hB hB' e=>hs.inj k k' x x' (getB' k x h1 hB) (getB' k' x' h2 hB') hB hB' e,fun k x h1 hB=>hs.low k x (getB' k x h1 hB) hB,fun k es b s hg hB=>hs.mps k es b s (getB k _ _ hg hB) hB⟩
 refine NiQ hcfg hE D (NpP T hsok hdyn2) (base:=base) (a0:=a) (w0:=w) ?_ _ _ ⟨some t0,ht0,htc0⟩ G a w Zaf Zaf ?_
 ·rintro⟨x,hx⟩ a' w' G' I;have hxN:x=some ops.size:=by
   cases x with
   |some t =>
     rcases hx.2 with e|e
     ·rw[e]
     ·by_cases e2:t<ops.size
      ·have:=(I.pos t e2 e).2 e2;simp[dnX]at this
      ·have:=hx.1;rw[show t=ops.size by omega]
   |none =>
     exfalso;cases sw with
     |none=>simp at hx
     |some ij =>
       obtain⟨i,j⟩:=ij;simp only[NfH,Bool.and_eq_true,decide_eq_true_eq,Bool.not_eq_true']at hsok;obtain⟨⟨⟨⟨⟨⟨o1,o2⟩,o3⟩,o4⟩,o5⟩,o6⟩,o7⟩:=hsok;have:=(I.pos i Zaa o3).2 Zaa;simp[dnX]at this
  subst hxN;have hcn:(sig ml tr c' key ops.size).cnt=c'.st.cnt:=by rw[T.sigN (Nat.le_refl _),hN]
  have hfwd:∀ k y,c'.st.get k=some y→(sig ml tr c' key ops.size).get k=some y:=fun k y h=>T.sigA (Nat.le_refl _) (by rw[hN];exact h);have hfwd':∀ k,(c'.st.get k).isSome→((sig ml tr c' key ops.size).get k).isSome:=by
   intro k h;obtain⟨y,hy⟩:=Option.isSome_iff_exists.1 h;rw[hfwd k y hy];rfl
  have hle:=I.cntle;simp only[sgX]at hle;rw[hcn]at hle;refine hQ a' w' G' ?_ I.size I.defers hle ?_
  ·have hlk:∀ t,VRel G' (a'.tmps.getD t undef) (lk V c' t):=by
    intro t;rw[←hN];rcases D.slot t ops.size (Nat.le_refl _)with⟨i,hi,hd,hv⟩|⟨h1,h2⟩
    ·rcases hv with hv|hv
     ·rw[hv];exact I.slotW i t hi hd
     ·rw[hv];exact .und _
    ·rw[h2];exact I.slotO t (fun i hi=>h1 i hi)
   refine⟨fun t ht=>?_,fun t ht=>?_⟩
   ·have:=hlk t;unfold lk at this;rwa[if_pos ht]at this
   ·have:=hlk t;unfold lk at this;rwa[ht,if_neg Zaf]at this
  ·refine⟨I.le,fun k x hx=>?_,I.sim.less hfwd,I.os,I.tape,I.output,I.hsize,I.kept,fun k x h1 h2=>I.own k x (hfwd' k h1) h2,I.fnew,fun k hk'=>?_⟩
   ·rcases I.new k x hx with h|⟨i,hi,rfl⟩|⟨h,h2⟩
    ·exact .inl h
    ·right;omega
    ·right;simp only[sgX]at h2;rw[hcn]at h2;omega
   ·rcases I.ful k (hfwd' k hk')with h|h|⟨q,h1,_,h3,_⟩
    ·exact .inl h
    ·exact .inr h
    ·exact absurd h1 h3
 ·refine⟨hn,rfl,fun i o h=>absurd h (hls i),fun i h=>absurd h (hls i),fun i t h=>absurd h (hls i),fun t _=>?_,?_,.refl G,fun k x h=>.inl h,?_,hs0,rfl,rfl,rfl,Nat.le_refl _,fun _ _ _=>rfl,?_,fun _ _ _ h=>.inl h,?_⟩
  ·unfold lk;cases hV:V.contains t with
   |true=>exact hL.1 t hV
   |false=>exact hL.2 t hV
  ·intro v hv hvq;refine⟨fun h=>?_,fun h=>absurd h (hls v)⟩;simp only[dnX,decide_eq_true_eq]at h;have:=hq0 v Zaa h;rw[hvq]at this;simp at this
  ·show _≤(sig ml tr c' key t0).cnt;rw[T.sigN ht0,al1];exact Nat.le_refl _
  ·intro k x h1 hB;exact .inr ⟨k,x,getB' k x h1 hB,hB,rfl⟩
  ·intro k h1;obtain⟨x,hx⟩:=Option.isSome_iff_exists.1 h1;rcases get k x hx with h|⟨q,q1,q2,q3⟩
   ·left;rw[h];rfl
   ·exact .inr (.inr ⟨q,q1,q2,hls q,q3⟩)
def Ngp(V:List Nat)(G:Ghost)(a:Act)(c:Now):Prop:=∀ t,V.contains t=true→VRel G (a.tmps.getD t undef) (c.env.get t)
def NmG:MExit→Exit
 |.nrm=>.normal
 |.ex id=>.exit id
 |.ret=>.ret
def Behind(V:List Nat)(n base:Nat)(G:Ghost)(a:Act)(w:World)(c c':Now)(K:Act→World→Prop):Prop :=
 ∀ a' w' G',Ngp V G' a' c'→n≤a'.tmps.size→a'.defers=a.defers→c.st.cnt≤c'.st.cnt→Step base (fun k=>c.st.cnt≤k∧k<c'.st.cnt) G c.st w G' c'.st w'→K a' w'
theorem KInv.after{base:Nat}{G G':Ghost}{w':World}(hk:∀ k,st.cnt≤k→G.B k=none)(hc:st.cnt≤st'.cnt)(h:Step base (fun k=>st.cnt≤k∧k<st'.cnt) G st w G' st' w'):∀ k,st'.cnt≤k→G'.B k=none:=by
 intro k hk';cases hx:G'.B k with
 |none=>rfl
 |some x =>
   rcases h.new k x hx with h1|h1
   ·rw[hk k Zaa]at h1;simp at h1
   ·omega
theorem Behind.trans{V:List Nat}{base:Nat}{G G1:Ghost}{a a1:Act}{w1:World}{c c1 c2:Now}{K:Act→World→Prop}(h:Behind V n base G a w c c2 K)(hd:a1.defers=a.defers)(hc:c.st.cnt≤c1.st.cnt)(hs:Step base (fun k=>c.st.cnt≤k∧k<c1.st.cnt) G c.st w G1 c1.st w1) :
 c1.st.cnt≤c2.st.cnt→Behind V n base G1 a1 w1 c1 c2 K:=by
 intro hc2 a' w' G' h1 h2 h3 h4 h5;exact h a' w' G' h1 h2 (h3.trans hd) Zaa (hs.trans h5 (fun k hk=>⟨hk.1,by omega⟩) (fun k hk=>⟨by omega,hk.2⟩))
theorem Nbf(hE:NaV P Gl callE){ρ:Arg→PV}{m:MOp}(he:Nap cfg callE ρ st key m=some (r,st')):st.cnt≤st'.cnt:=by
 by_cases hpl:m.plain=true
 ·exact Nat.le_of_eq (Nh5 hpl he).symm
 ·cases m<;>first|(simp[MOp.plain]at hpl;done)|skip
  ·simp only[Nap]at he;exact Nat.le_of_eq (Nd2 he).symm
  ·simp only[Nap]at he;split at he
   ·simp at he
   ·exact(hE _ _ _ _ _ he).2.1
  ·simp only[Nap]at he
   repeat' split at he
   all_goals first|(simp at he;done)|exact Nat.le_of_eq (Nfb he).symm
  ·simp only[Nap]at he;split at he
   ·split at he
    ·simp at he
    ·exact(hE _ _ _ _ _ he).2.1
   ·split at he
    ·simp at he
    ·exact(hE _ _ _ _ _ he).2.1
   ·simp at he
theorem Ndu{cfg:Cfg}{P:Program}{Gl:Gmap}{callE:CallE}(hE:NaV P Gl callE):∀ (ml:List MOper) (key:Nat) (c c':Loc),Na5 cfg callE ml key c=some c'→c.st.cnt≤c'.st.cnt
 |[],key,c,c',h=>by simp[Na5]at h;subst h;exact Nat.le_refl _
 |o::ml,key,c,c',h=>by
   have hst:∀ (c:Loc) d v,(c.wr d v).st=c.st:=(by intro c d v;cases d<;>rfl);simp only[Na5]at h;split at h
   ·split at h
    ·rename_i v st hev;have h1:=Nbf hE hev;have h2:=Ndu hE ml _ _ _ h;rw[hst]at h2;exact Nat.le_trans h1 h2
    ·simp at h
   ·have h2:=Ndu hE ml _ _ _ h;rw[hst]at h2;exact h2
   ·simp at h
theorem NdS{cfg:Cfg}{P:Program}{Gl:Gmap}{callE:CallE}(hE:NaV P Gl callE):∀ (ml:List MOper) (key:Nat) (c c':Loc) (tr:List (Loc×PV)),NcP cfg callE ml key c=some (tr,c')→c.st.cnt≤c'.st.cnt
 |[],key,c,c',tr,h=>by simp[NcP]at h;obtain⟨_,rfl⟩:=h;exact Nat.le_refl _
 |o::ml,key,c,c',tr,h=>by
   simp only[NcP]at h;split at h
   ·split at h
    ·rename_i v st hev;simp only[Option.map_eq_some_iff,Pj]at h;obtain⟨⟨tr',c2⟩,he,rfl,rfl⟩:=h;have h1:=Nbf hE hev;have h2:=NdS hE ml _ _ _ _ he;rw[Nbb]at h2;exact Nat.le_trans h1 h2
    ·simp at h
   ·simp only[Option.map_eq_some_iff,Pj]at h;obtain⟨⟨tr',c2⟩,he,rfl,rfl⟩:=h;have h2:=NdS hE ml _ _ _ _ he;rw[Nbb]at h2;exact h2
   ·simp at h
def Nk7(ev:Now→Option (MExit×Now)):Prop:=∀ x e x',ev x=some (e,x')→x.st.cnt≤x'.st.cnt
theorem Ne0{ev:Now→Option (MExit×Now)}(h:Nk7 ev):∀ (fuel:Nat) (x:Now) (e:MExit) (x':Now),Ncf ev fuel x=some (e,x')→x.st.cnt≤x'.st.cnt∧e≠.nrm
 |0,x,e,x',he=>by simp[Ncf]at he
 |fuel+1,x,e,x',he=>by
   simp only[Ncf]at he;split at he
   ·rename_i x1 h1;obtain⟨h2,h3⟩:=Ne0 h fuel _ _ _ he;exact⟨Nat.le_trans (h _ _ _ h1) h2,h3⟩
   ·rename_i e1 x1 hne h1;simp only[Sj,Pj]at he;obtain⟨rfl,rfl⟩:=he;exact⟨h _ _ _ h1,fun hh=>hne hh⟩
   ·simp at he
theorem NaQ{cfg:Cfg}{P:Program}{Gl:Gmap}{callE:CallE}(hE:NaV P Gl callE)(fuel:Nat):∀ m:MCode,Nk7 (Nao cfg callE fuel m)
 |.skip=>fun x e x' h=>by simp[Nao]at h;obtain⟨_,rfl⟩:=h;exact Nat.le_refl _
 |.region ops=>fun x e x' h=>by
   simp only[Nao,Nbw,Option.map_eq_some_iff,Pj]at h;obtain⟨y,⟨z,hz,rfl⟩,_,rfl⟩:=h;have:=Ndu hE _ _ _ _ hz;simp only[]at this ⊢;omega
 |.chain ops masks sw=>fun x e x' h=>by
   simp only[Nao,Ncx,Option.map_eq_some_iff,Pj]at h;obtain⟨y,hy,_,rfl⟩:=h;split at hy
   ·rename_i tr z hz;split at hy
    ·simp only[Sj]at hy;subst hy;have:=NdS hE _ _ _ _ _ hz;simp only[]at this ⊢;omega
    ·simp at hy
   ·simp at hy
 |.seq a b=>fun x e x' h=>by
   simp only[Nao]at h;split at h
   ·rename_i x1 h1;exact Nat.le_trans (NaQ hE fuel a _ _ _ h1) (NaQ hE fuel b _ _ _ h)
   ·exact NaQ hE fuel a _ _ _ h
 |.cond c a b=>fun x e x' h=>by
   simp only[Nao]at h;split at h
   ·split at h
    ·exact NaQ hE fuel a _ _ _ h
    ·exact NaQ hE fuel b _ _ _ h
   ·simp at h
 |.block id a=>fun x e x' h=>by
   simp only[Nao]at h;split at h
   ·rename_i j x1 h1;split at h<;>(simp only[Sj,Pj]at h;obtain⟨_,rfl⟩:=h;exact NaQ hE fuel a _ _ _ h1)
   ·exact NaQ hE fuel a _ _ _ h
 |.loop a=>fun x e x' h=>by
   simp only[Nao]at h;split at h
   ·simp at h
   ·exact(Ne0 (NaQ hE fuel a) _ _ _ _ h).1
 |.exit id=>fun x e x' h=>by simp[Nao]at h;obtain⟨_,rfl⟩:=h;exact Nat.le_refl _
 |.scope a=>fun x e x' h=>by simp only[Nao]at h;exact NaQ hE fuel a _ _ _ h
 |.ret=>fun x e x' h=>by simp[Nao]at h;obtain⟨_,rfl⟩:=h;exact Nat.le_refl _
theorem NbD{o:Option PObj}(h:st.get k=none)(hj:j≠k):(st.put j o).get k=none:=by rw[Yae hj];exact h
theorem Nb3{x:PObj}{o:Option PObj}(h:st.get k=none)(hj:st.get j=some x):(st.put j o).get k=none :=
 NbD h fun e=>by rw[e,h]at hj;simp at hj
theorem Nct(h:st.get k=none):(st.put j none).get k=none:=by
 by_cases e:j=k
 ·subst e;exact Yaf _ _ _
 ·exact NbD h e
theorem Nd6{ks:List Nat}(h:st.get k=none):(NaI st ks).get k=none:=by
 cases e:(NaI st ks).get k with
 |none=>rfl
 |some x =>
   rcases Nbn ks st e with h1|⟨_,_,h1,_⟩<;>rw[h]at h1<;>simp at h1
theorem NcY{v:PV}(hk:k≠key)(hn:st.get k=none)(h:NaE st key v=some (p,st')):st'.get k=none:=by
 unfold NaE at h
 repeat' split at h
 all_goals first|(simp at h;done)|skip
 all_goals (simp only[Sj,Pj]at h;obtain⟨_,rfl⟩:=h)
 all_goals first|exact hn|exact NbD hn (fun e=>hk e.symm)
theorem Ndz{own:Bool}{ps:List PV}(hk:k≠key)(hn:st.get k=none)(h:Nam g own st key ps=some (r,st')):st'.get k=none:=by
 unfold Nam at h
 repeat' split at h
 all_goals first|(simp at h;done)|skip
 all_goals (refine NcY hk ?_ h)
 all_goals first|exact hn|exact Nct hn|exact Nd6 hn|exact Nd6 (Nct hn)
def Nb5(callE:CallE):Prop:=∀ f args st r st',callE f args st=some (r,st')→∀ k,k<st.cnt→st.get k=none→st'.get k=none
theorem Nfg{a v:PV}(hn:st.get k=none)(h:Na1 st n a v=some s):s.get k=none:=by
 unfold Na1 at h;split at h
 ·split at h
  ·rename_i hg;split at h
   ·simp only[Sj]at h;subst h;exact Nb3 hn hg
   ·simp at h
  ·rename_i hg;split at h
   ·split at h
    ·simp only[Sj]at h;subst h;exact Nb3 hn hg
    ·simp at h
   ·simp at h
  ·simp at h
 ·simp at h
theorem Nc2{T:Nat}{l:List UInt8}(hk:k≠key)(hn:st.get k=none)(h:Nec st key T l p=some (q,s)):s.get k=none:=by
 unfold Nec at h
 repeat' split at h
 all_goals first|(simp at h;done)|skip
 all_goals (cases h)
 all_goals first|exact hn|exact NbD hn (fun e=>hk e.symm)|exact NbD (Nct hn) (fun e=>hk e.symm)
theorem Nb6{sz b m:Nat}{l:List PV}(hk:k≠key)(hn:st.get k=none)(h:Nbj st key sz b m l p=some (q,s)):s.get k=none:=by
 unfold Nbj at h
 repeat' split at h
 all_goals first|(simp at h;done)|skip
 all_goals (cases h)
 all_goals first|exact hn|exact NbD hn (fun e=>hk e.symm)|exact NbD (Nct hn) (fun e=>hk e.symm)
theorem Nfp{sz m:Nat}{l:List PV}(hn:st.get k=none)(h:NdA st sz m l p=some (q,s)):s.get k=none:=by
 unfold NdA at h;split at h
 ·split at h
  ·rename_i hg;split at h
   ·cases h;exact Nb3 hn hg
   ·simp at h
  ·simp at h
 ·cases h;exact hn
 ·cases h;exact hn
 ·simp at h
theorem NcO(hE:Nb5 callE){ρ:Arg→PV}{m:MOp}(he:Nap cfg callE ρ st key m=some (r,st'))(hk:k≠key)(hc:k<st.cnt)(hn:st.get k=none):st'.get k=none:=by
 cases m with
 |call=>simp only[Nap]at he;exact Ndz hk hn he
 |calle =>
   simp only[Nap]at he;split at he
   ·simp at he
   ·exact hE _ _ _ _ _ he k hc hn
 |callv =>
   simp only[Nap]at he;split at he
   ·split at he
    ·simp at he
    ·exact hE _ _ _ _ _ he k hc hn
   ·split at he
    ·simp at he
    ·exact hE _ _ _ _ _ he k hc hn
   ·simp at he
 |callq =>
   simp only[Nap]at he
   repeat' split at he
   all_goals first|(simp at he;done)|exact NcY hk hn he
 |slice arr sz x lo hi =>
   cases arr<;>simp only[Nap]at he
   ·obtain⟨_,_,h⟩:=Option.map_eq_some_iff.1 he;cases h;exact hn
   ·repeat' split at he
    all_goals first|(simp at he;done)|(cases he;exact hn)
 |indexAddr arr sz x i =>
   cases arr<;>simp only[Nap]at he
   all_goals (repeat' split at he)
   all_goals first|(simp at he;done)|(cases he;exact hn)
 |conv c x =>
   simp only[Nap]at he
   repeat' split at he
   all_goals first|(simp at he;done)|(cases he;exact hn)|(cases he;exact NbD hn (fun e=>hk e.symm))|(obtain⟨_,_,h⟩:=Option.map_eq_some_iff.1 he;cases h;exact hn)
 |store n a x =>
   simp only[Nap]at he;obtain⟨_,h1,h⟩:=Option.map_eq_some_iff.1 he;cases h;exact Nfg hn h1
 |append =>
   simp only[Nap]at he
   repeat' split at he
   all_goals first|(simp at he;done)|exact Nb6 hk hn he
 |appstr =>
   simp only[Nap]at he
   repeat' split at he
   all_goals first|(simp at he;done)|exact Nb6 hk hn he
 |appb =>
   simp only[Nap]at he
   repeat' split at he
   all_goals first|(simp at he;done)|exact Nc2 hk hn he
 |appbs =>
   simp only[Nap]at he
   repeat' split at he
   all_goals first|(simp at he;done)|exact Nc2 hk hn he
 |ustr =>
   simp only[Nap]at he
   repeat' split at he
   all_goals first|(simp at he;done)|(cases he;exact hn)|(cases he;exact Nct hn)
 |copy =>
   simp only[Nap]at he
   repeat' split at he
   all_goals first|(simp at he;done)|exact Nfp hn he
 |mapup ck m k' v =>
   simp only[Nap]at he;split at he
   ·split at he
    ·rename_i hg;obtain⟨_,_,h⟩:=Option.map_eq_some_iff.1 he;cases h;exact Nb3 hn hg
    ·simp at he
   ·simp at he
 |snext x =>
   simp only[Nap]at he;split at he
   ·split at he
    ·rename_i hg;split at he<;>cases he
     ·exact Nb3 hn hg
     ·exact hn
    ·simp at he
   ·simp at he
 |_ =>
   simp only[Nap]at he
   repeat' split at he
   all_goals first|(simp at he;done)|(cases he;exact hn)|(cases he;exact NbD hn (fun e=>hk e.symm))|(obtain⟨_,_,h⟩:=Option.map_eq_some_iff.1 he;cases h;exact hn)
theorem NdR{cfg:Cfg}{P:Program}{Gl:Gmap}{callE:CallE}(hC:NaV P Gl callE)(hE:Nb5 callE){k:Nat}:∀ (ml:List MOper) (key:Nat) (c c':Loc),Na5 cfg callE ml key c=some c'→(k<key∨key+8 * ml.length≤k)→k<c.st.cnt→c.st.get k=none→c'.st.get k=none
 |[],key,c,c',h,_,_,hn=>by simp[Na5]at h;subst h;exact hn
 |o::ml,key,c,c',h,hk,hc,hn=>by
   have hk':k<key+8∨key+8+8 * ml.length≤k:=(by simp only[List.length_cons]at hk;omega);simp only[Na5]at h;split at h
   ·split at h
    ·rename_i v st hev;have h1:=Nbf hC hev;refine NdR hC hE ml _ _ _ h hk' (by rw[Nbb];simp only[];omega) ?_;rw[Nbb];exact NcO hE hev (by simp only[List.length_cons]at hk;omega) hc hn
    ·simp at h
   ·exact NdR hC hE ml _ _ _ h hk' (by rw[Nbb];exact hc) (by rw[Nbb];exact hn)
   ·simp at h
theorem NeL{cfg:Cfg}{P:Program}{Gl:Gmap}{callE:CallE}(hC:NaV P Gl callE)(hE:Nb5 callE){k:Nat}:∀ (ml:List MOper) (key:Nat) (c c':Loc) (tr:List (Loc×PV)),NcP cfg callE ml key c=some (tr,c')→(k<key∨key+8 * ml.length≤k)→k<c.st.cnt→c.st.get k=none→c'.st.get k=none
 |[],key,c,c',tr,h,_,_,hn=>by simp[NcP]at h;obtain⟨_,rfl⟩:=h;exact hn
 |o::ml,key,c,c',tr,h,hk,hc,hn=>by
   have hk':k<key+8∨key+8+8 * ml.length≤k:=(by simp only[List.length_cons]at hk;omega);simp only[NcP]at h;split at h
   ·split at h
    ·rename_i v st hev;simp only[Option.map_eq_some_iff,Pj]at h;obtain⟨⟨tr',c2⟩,he,rfl,rfl⟩:=h;have h1:=Nbf hC hev;refine NeL hC hE ml _ _ _ _ he hk' (by rw[Nbb];simp only[];omega) ?_;rw[Nbb];exact NcO hE hev (by simp only[List.length_cons]at hk;omega) hc hn
    ·simp at h
   ·simp only[Option.map_eq_some_iff,Pj]at h;obtain⟨⟨tr',c2⟩,he,rfl,rfl⟩:=h;exact NeL hC hE ml _ _ _ _ he hk' (by rw[Nbb];exact hc) (by rw[Nbb];exact hn)
   ·simp at h
theorem Nc7{cfg:Cfg}{P:Program}{Gl:Gmap}{callE:CallE}(hC:NaV P Gl callE)(hE:Nb5 callE):∀ (ml:List MOper) (key:Nat) (c c':Loc) (tr:List (Loc×PV)),NcP cfg callE ml key c=some (tr,c')→key+8 * ml.length≤c.st.cnt→(∀ k,key≤k→k<key+8 * ml.length→c.st.get k=none) →
 ∀ i m,i≤m→m<ml.length→(stAt tr c' i).get (key+8 * m)=none
 |[],key,c,c',tr,h,_,_,i,m,_,hm=>by simp at hm
 |o::ml,key,c,c',tr,h,hb,hn,i,m,him,hm=>by
   simp only[List.length_cons]at hb hn hm;have fin:∀ (v:PV) (c1:Loc) (tr':List (Loc×PV)),NcP cfg callE ml (key+8) c1=some (tr',c')→tr=(c,v)::tr'→c.st.cnt≤c1.st.cnt→(∀ k,k≠key→k<c.st.cnt→c.st.get k=none→c1.st.get k=none)→(stAt tr c' i).get (key+8 * m)=none:=by
    intro v c1 tr' he ht hcl hkp;subst ht;cases i with
    |zero=>exact hn _ Zaa Zaa
    |succ i =>
      obtain⟨m',rfl⟩:∃ m',m=m'+1:=⟨m - 1,by omega⟩;have:=Nc7 hC hE ml (key+8) c1 c' tr' he Zaa (fun k h1 h2=>hkp k Zaa Zaa (hn k Zaa Zaa)) i m' Zaa Zaa;rw[show key+8 * (m'+1)=key+8+8 * m' by omega];exact this
   simp only[NcP]at h;split at h
   ·split at h
    ·rename_i v st hev;simp only[Option.map_eq_some_iff,Pj]at h;obtain⟨⟨tr',c2⟩,he,rfl,rfl⟩:=h;exact fin _ _ _ he rfl (by rw[Nbb];exact Nbf hC hev) (fun k h1 h2 h3=>by rw[Nbb];exact NcO hE hev h1 h2 h3)
    ·simp at h
   ·simp only[Option.map_eq_some_iff,Pj]at h;obtain⟨⟨tr',c2⟩,he,rfl,rfl⟩:=h;exact fin _ _ _ he rfl (by rw[Nbb];exact Nat.le_refl _) (fun k h1 h2 h3=>by rw[Nbb];exact h3)
   ·simp at h
theorem Nfo(hC:NaV P Gl callE)(hE:Nb5 callE){ml:List MOper}{masks:List Nat}(hS:NhW ml masks=true){c c':Loc}{tr:List (Loc×PV)}(h:NcP cfg callE ml key c=some (tr,c'))(hb:key+8 * ml.length≤c.st.cnt)(hn:∀ k,key≤k→k<key+8 * ml.length→c.st.get k=none):Nbv cfg callE ml masks tr c' key=true:=by
 unfold NhW at hS;unfold Nbv;rw[List.all_eq_true]at hS ⊢;intro j hj;have h1:=hS j hj;have hjl:j<ml.length:=by simpa using hj
 split at h1
 ·rename_i hq;rw[if_pos hq];rw[List.all_eq_true]at h1 ⊢;intro t ht;have h2:=h1 t ht;rw[h2,Bool.true_or]
 ·rename_i hq;rw[if_neg hq];rw[List.all_eq_true]at h1 ⊢;intro m hm;have h2:=h1 m hm;have hml:m<ml.length:=by simpa using hm
  by_cases hjm:j<m
  ·rw[if_pos hjm,Nc7 hC hE ml key c c' tr h hb hn (j+1) m Zaa hml];rfl
  ·rw[if_neg hjm]at h2 ⊢;split
   ·rename_i hc;rw[if_pos hc]at h2;rw[h2,Bool.true_or]
   ·rfl
theorem Nc6{cfg:Cfg}{callE:CallE}:∀ (ml:List MOper) (key:Nat) (c c':Loc),Na5 cfg callE ml key c=some c'→∃ tr,NcP cfg callE ml key c=some (tr,c')
 |[],key,c,c',h=>by simp[Na5]at h;subst h;exact⟨[],rfl⟩
 |o::ml,key,c,c',h=>by
   simp only[Na5]at h;simp only[NcP];split at h
   ·split at h
    ·obtain⟨tr,ht⟩:=Nc6 ml _ _ _ h;rw[ht];exact⟨_,rfl⟩
    ·simp at h
   ·obtain⟨tr,ht⟩:=Nc6 ml _ _ _ h;rw[ht];exact⟨_,rfl⟩
   ·simp at h
def Njq(ev:Now→Option (MExit×Now)):Prop:=∀ x e x',ev x=some (e,x')→∀ k,k<x.st.cnt→x.st.get k=none→x'.st.get k=none
theorem Nfy{ev:Now→Option (MExit×Now)}(hc:Nk7 ev)(h:Njq ev):∀ (fuel:Nat) (x:Now) (e:MExit) (x':Now),Ncf ev fuel x=some (e,x')→∀ k,k<x.st.cnt→x.st.get k=none→x'.st.get k=none
 |0,x,e,x',he=>by simp[Ncf]at he
 |fuel+1,x,e,x',he=>by
   intro k hk hn;simp only[Ncf]at he;split at he
   ·rename_i x1 h1;exact Nfy hc h fuel _ _ _ he k (by have:=hc _ _ _ h1;omega) (h _ _ _ h1 k hk hn)
   ·rename_i e1 x1 hne h1;simp only[Sj,Pj]at he;obtain⟨rfl,rfl⟩:=he;exact h _ _ _ h1 k hk hn
   ·simp at he
theorem Na3{cfg:Cfg}{P:Program}{Gl:Gmap}{callE:CallE}(hC:NaV P Gl callE)(hE:Nb5 callE)(fuel:Nat):∀ m:MCode,Njq (Nao cfg callE fuel m)
 |.skip=>fun x e x' h k hk hn=>by simp[Nao]at h;obtain⟨_,rfl⟩:=h;exact hn
 |.region ops=>fun x e x' h k hk hn=>by
   simp only[Nao,Nbw,Option.map_eq_some_iff,Pj]at h;obtain⟨y,⟨z,hz,rfl⟩,_,rfl⟩:=h;exact NdR hC hE _ _ _ _ hz (.inl hk) Zal hn
 |.chain ops masks sw=>fun x e x' h k hk hn=>by
   simp only[Nao,Ncx,Option.map_eq_some_iff,Pj]at h;obtain⟨y,hy,_,rfl⟩:=h;split at hy
   ·rename_i tr z hz;split at hy
    ·simp only[Sj]at hy;subst hy;exact NeL hC hE _ _ _ _ _ hz (.inl hk) Zal hn
    ·simp at hy
   ·simp at hy
 |.seq a b=>fun x e x' h k hk hn=>by
   simp only[Nao]at h;split at h
   ·rename_i x1 h1;exact Na3 hC hE fuel b _ _ _ h k (by have:=NaQ hC fuel a _ _ _ h1;omega) (Na3 hC hE fuel a _ _ _ h1 k hk hn)
   ·exact Na3 hC hE fuel a _ _ _ h k hk hn
 |.cond c a b=>fun x e x' h k hk hn=>by
   simp only[Nao]at h;split at h
   ·split at h
    ·exact Na3 hC hE fuel a _ _ _ h k hk hn
    ·exact Na3 hC hE fuel b _ _ _ h k hk hn
   ·simp at h
 |.block id a=>fun x e x' h k hk hn=>by
   simp only[Nao]at h;split at h
   ·rename_i j x1 h1;split at h<;>(simp only[Sj,Pj]at h;obtain⟨_,rfl⟩:=h;exact Na3 hC hE fuel a _ _ _ h1 k hk hn)
   ·exact Na3 hC hE fuel a _ _ _ h k hk hn
 |.loop a=>fun x e x' h k hk hn=>by
   simp only[Nao]at h;split at h
   ·simp at h
   ·exact Nfy (NaQ hC fuel a) (Na3 hC hE fuel a) _ _ _ _ h k hk hn
 |.exit id=>fun x e x' h k hk hn=>by simp[Nao]at h;obtain⟨_,rfl⟩:=h;exact hn
 |.scope a=>fun x e x' h k hk hn=>by simp only[Nao]at h;exact Na3 hC hE fuel a _ _ _ h k hk hn
 |.ret=>fun x e x' h k hk hn=>by simp[Nao]at h;obtain⟨_,rfl⟩:=h;exact hn
theorem NiV{fuel:Nat}(hC:NaV P Gl (Nay cfg fuel))(hF:Nb5 (Nay cfg fuel)):Nb5 (Nay cfg (fuel+1)):=by
 intro f args st r st' h k hk hn;simp only[Nay]at h;split at h
 ·rename_i m hm;unfold NdB at h;split at h
  ·simp at h
  ·rename_i e c' hne hev;have:=Na3 hC hF _ _ _ _ _ hev k hk hn;split at h<;>simp only[Sj,Pj,reduceCtorEq]at h
   ·obtain⟨_,rfl⟩:=h;exact this
   ·obtain⟨_,rfl⟩:=h;exact this
  ·simp at h
 ·simp at h
def Nmy(P:Program)(Gl:Gmap)(V:List Nat)(n base:Nat)(c:Code)(ev:Now→Option (MExit×Now)):Prop :=
 ∀ (G:Ghost) (a:Act) (w:World) (x:Now) (e:MExit) (x':Now),Ngp V G a x→n≤a.tmps.size→Sim G x.st w base→Nhf Gl G x.st→(∀ k,x.st.cnt≤k→G.B k=none)→ev x=some (e,x')→∀ Q,Behind V n base G a w x x' (Q (NmG e))→c.wp P Q a w
theorem Nfz{P:Program}{Gl:Gmap}{V:List Nat}{n base:Nat}{c:Code}{ev:Now→Option (MExit×Now)}(hcn:Nk7 ev)(h:Nmy P Gl V n base c ev):∀ (fuel:Nat) (G:Ghost) (a:Act) (w:World) (x:Now) (e:MExit) (x':Now),Ngp V G a x→n≤a.tmps.size→Sim G x.st w base→Nhf Gl G x.st→(∀ k,x.st.cnt≤k→G.B k=none) →
 Ncf ev fuel x=some (e,x')→∀ Q,Behind V n base G a w x x' (Q (NmG e))→Code.rounds P c Q fuel a w
 |0,G,a,w,x,e,x',_,_,_,_,_,he=>by simp[Ncf]at he
 |fuel+1,G,a,w,x,e,x',hL,hn,hs,hfu,hk,he=>by
   intro Q hQ;show c.wp P (Exit.then (Code.rounds P c Q fuel) Q) a w;simp only[Ncf]at he;split at he
   ·rename_i x1 h1;refine h G a w x .nrm x1 hL hn hs hfu hk h1 _ ?_;intro a1 w1 G1 q1 q2 q3 q4 q5;exact Nfz hcn h fuel G1 a1 w1 x1 e x' q1 q2 q5.sim (q5.full hfu) (KInv.after hk (hcn _ _ _ h1) q5) he Q (hQ.trans q3 q4 q5 (Ne0 hcn _ _ _ _ he).1)
   ·rename_i e1 x1 hne h1;simp only[Sj,Pj]at he;obtain⟨rfl,rfl⟩:=he;refine h G a w x _ _ hL hn hs hfu hk h1 _ ?_;cases e1 with
    |nrm=>exact absurd rfl hne
    |ex id=>exact hQ
    |ret=>exact hQ
   ·simp at he
theorem Nbe{P:Program}{Gl:Gmap}{V:List Nat}{n:Nat}{modes:FuncId→Option Bool}{cfg:Cfg}(hcfg:CfgOK P Gl cfg){callE:CallE}(hE:NaV P Gl callE)(hF:Nb5 callE)(fuel base:Nat):∀ (c:Code) (m:MCode),cCode P V n modes c=some m→Nmy P Gl V n base c (Nao cfg callE fuel m)
 |.skip,m,hm=>by
   simp only[cCode,Sj]at hm;subst hm;intro G a w x e x' hL hn hs hfu hk he Q hQ;simp only[Nao,Sj,Pj]at he;obtain⟨rfl,rfl⟩:=he;exact wp_skip (hQ a w G hL hn rfl (Nat.le_refl _) (Step.refl hs))
 |.label l,m,hm=>by
   simp only[cCode,Sj]at hm;subst hm;intro G a w x e x' hL hn hs hfu hk he Q hQ;simp only[Nao,Sj,Pj]at he;obtain⟨rfl,rfl⟩:=he;exact wp_label (hQ a w G hL hn rfl (Nat.le_refl _) (Step.refl hs))
 |.exit id,m,hm=>by
   simp only[cCode,Sj]at hm;subst hm;intro G a w x e x' hL hn hs hfu hk he Q hQ;simp only[Nao,Sj,Pj]at he;obtain⟨rfl,rfl⟩:=he;exact wp_exit (hQ a w G hL hn rfl (Nat.le_refl _) (Step.refl hs))
 |.ret,m,hm=>by
   simp only[cCode,Sj]at hm;subst hm;intro G a w x e x' hL hn hs hfu hk he Q hQ;simp only[Nao,Sj,Pj]at he;obtain⟨rfl,rfl⟩:=he;exact wp_ret (hQ a w G hL hn rfl (Nat.le_refl _) (Step.refl hs))
 |.seq p q,m,hm=>by
   simp only[cCode,Option.bind_eq_bind,Option.bind_eq_some_iff,Sj]at hm;obtain⟨m1,h1,m2,h2,rfl⟩:=hm;intro G a w x e x' hL hn hs hfu hk he Q hQ;simp only[Nao]at he;refine wp_seq ?_;split at he
   ·rename_i x1 hx1;refine Nbe hcfg hE hF fuel base p m1 h1 G a w x .nrm x1 hL hn hs hfu hk hx1 _ ?_;intro a1 w1 G1 q1 q2 q3 q4 q5;exact Nbe hcfg hE hF fuel base q m2 h2 G1 a1 w1 x1 e x' q1 q2 q5.sim (q5.full hfu) (KInv.after hk (NaQ hE fuel m1 _ _ _ hx1) q5) he Q (hQ.trans q3 q4 q5 (NaQ hE fuel m2 _ _ _ he))
   ·rename_i hne;refine Nbe hcfg hE hF fuel base p m1 h1 G a w x e x' hL hn hs hfu hk he _ ?_;cases e with
    |nrm=>exact absurd he (hne x')
    |ex id=>exact hQ
    |ret=>exact hQ
 |.cond c p q,m,hm=>by
   simp only[cCode,Option.bind_eq_bind,Option.bind_eq_some_iff,Sj]at hm;obtain⟨y,hy,m1,h1,m2,h2,rfl⟩:=hm;intro G a w x e x' hL hn hs hfu hk he Q hQ;simp only[Nao]at he;have hloc:LocRel V G a { env:=x.env,loc:=.leaf,st:=x.st }:=⟨hL,fun t _=>by
    have:Env.get (Trie.leaf:Env) t=.und:=rfl;rw[this];exact .und _⟩
   have hv:=hloc.eval hy;split at he
   ·rename_i b hb;rw[hb]at hv;obtain⟨u,hu⟩:∃ u,a.eval c=u:=⟨_,rfl⟩;rw[hu]at hv;cases hv;refine wp_cond hu ?_;cases b
    ·exact Nbe hcfg hE hF fuel base q m2 h2 G a w x e x' hL hn hs hfu hk (by simpa using he) Q hQ
    ·exact Nbe hcfg hE hF fuel base p m1 h1 G a w x e x' hL hn hs hfu hk (by simpa using he) Q hQ
   ·simp at he
 |.block id p,m,hm=>by
   simp only[cCode,Option.bind_eq_bind,Option.bind_eq_some_iff,Sj]at hm;obtain⟨m1,h1,rfl⟩:=hm;intro G a w x e x' hL hn hs hfu hk he Q hQ;simp only[Nao]at he;refine wp_block ?_;split at he
   ·rename_i j x1 hx1;refine Nbe hcfg hE hF fuel base p m1 h1 G a w x _ x1 hL hn hs hfu hk hx1 _ ?_;intro a1 w1 G1 q1 q2 q3 q4 q5;show(if j=id then Q .normal a1 w1 else Q (.exit j) a1 w1);by_cases hj:j=id
    ·rw[if_pos hj]at he ⊢;simp only[Sj,Pj]at he;obtain⟨rfl,rfl⟩:=he;exact hQ a1 w1 G1 q1 q2 q3 q4 q5
    ·rw[if_neg hj]at he ⊢;simp only[Sj,Pj]at he;obtain⟨rfl,rfl⟩:=he;exact hQ a1 w1 G1 q1 q2 q3 q4 q5
   ·rename_i hne;refine Nbe hcfg hE hF fuel base p m1 h1 G a w x e x' hL hn hs hfu hk he _ ?_;cases e with
    |nrm=>exact hQ
    |ex id'=>exact absurd he (hne id' x')
    |ret=>exact hQ
 |.loop p,m,hm=>by
   simp only[cCode,Option.bind_eq_bind,Option.bind_eq_some_iff,Sj]at hm;obtain⟨m1,h1,rfl⟩:=hm;intro G a w x e x' hL hn hs hfu hk he Q hQ;simp only[Nao]at he;split at he
   ·simp at he
   ·exact wp_loop_rounds fuel (Nfz (NaQ hE fuel m1) (Nbe hcfg hE hF fuel base p m1 h1) fuel G a w x e x' hL hn hs hfu hk he Q hQ)
 |.scope p,m,hm=>by
   simp only[cCode,Option.bind_eq_bind,Option.bind_eq_some_iff,Sj]at hm;obtain⟨m1,h1,rfl⟩:=hm;intro G a w x e x' hL hn hs hfu hk he Q hQ;simp only[Nao]at he;refine wp_scope_straight ?_;refine Nbe hcfg hE hF fuel base p m1 h1 G a w x e x' hL hn hs hfu hk he _ ?_;cases e<;>exact hQ
 |.region id ops draw,m,hm=>by
   simp only[cCode]at hm;intro G a w x e x' hL hn hs hfu hk he Q hQ;split at hm
   ·simp at hm
   rename_i ml hml;split at hm
   ·rename_i hdr;subst hdr;split at hm
    ·rename_i hdo;simp only[Bool.and_eq_true]at hdo;obtain⟨⟨hmx,_⟩,hdo⟩:=hdo;have main:∀ (mq:List MOper) (sw:Option (Nat×Nat)),(mq=ml∨mq=ml.map (Nna P))→NeF ops.toList mq (NbA ops.toList) sw=true→∀ (tr:List (Loc×PV)) (z:Loc),NcP cfg callE mq x.st.cnt { env:=x.env,loc:=.leaf,st:={ x.st with cnt:=x.st.cnt+8 * mq.length } }=some (tr,z)→Nbv cfg callE mq (NbA ops.toList) tr z x.st.cnt=true→NcD cfg callE mq (NbA ops.toList) tr z x.st.cnt sw=true→e=.nrm→x'={ env:=z.env,st:=z.st }→(Code.region id ops true).wp P Q a w:=by
      intro mq sw hrel hdo' tr z hz hdyn hdyn2 he1 he2;subst he1;subst he2;have hlen:=(NaZ hml).1;have hlen2:mq.length=ops.size:=by
       rcases hrel with rfl|rfl
       ·simpa using hlen
       ·simpa using hlen
      have hloc:LocRel V G a { env:=x.env,loc:=.leaf,st:={ x.st with cnt:=x.st.cnt+8 * mq.length } }:=⟨hL,fun t _=>by
       have:Env.get (Trie.leaf:Env) t=.und:=rfl;rw[this];exact .und _⟩
      have hs':Sim G { x.st with cnt:=x.st.cnt+8 * mq.length } w.drew base:=⟨hs.bas,hs.frz,hs.cells,hs.frzd,hs.free,hs.inj,hs.low,hs.mps⟩;refine wp_region_any hmx ?_;change wpAny P .any ops _ ops.size _ a w.drew;refine Nhm (base:=base) hcfg hE hml hrel hdo' hloc hn hs' hfu (key:=x.st.cnt) (fun k hk'=>hk k hk') (by simp only[];rw[hlen2];exact Nat.le_refl _) hz hdyn hdyn2 ?_;intro a' w' G' q1 q2 q3 q4 q5;simp only[]at q4;refine hQ a' w' G' q1.1 q2 q3 Zal ?_;refine⟨q5.le,fun k y hy=>?_,q5.sim,q5.os,q5.tape,q5.output,q5.size,q5.kept,q5.own,q5.fnew,q5.ful⟩;rcases q5.new k y hy with h|h
      ·exact .inl h
      ·exact .inr h
     split at hm
     ·rename_i hst;simp only[Bool.and_eq_true]at hst;simp only[Sj]at hm;subst hm;simp only[Nao,Nbw,Option.map_eq_some_iff,Pj]at he;obtain⟨y,⟨z,hz,rfl⟩,rfl,rfl⟩:=he;obtain⟨tr,hz'⟩:=Nc6 _ _ _ _ hz;have hnone:∀ k,x.st.cnt≤k→x.st.get k=none:=by
       intro k hk';cases hg:x.st.get k with
       |none=>rfl
       |some o =>
         have:=hfu.2 k (by rw[hg];rfl);rw[hk k hk']at this;simp at this
      refine main ml _ (.inl rfl) hdo tr z hz' (Nfo hE hF hst.2 hz' (Nat.le_refl _) (fun k h1 _=>hnone k h1)) ?_ rfl rfl;have:Nhc ml (NbA ops.toList)=none:=(by simpa using hst.1);rw[this];rfl
     split at hm
     ·rename_i hst;simp only[Bool.and_eq_true]at hst;simp only[Sj]at hm;subst hm;simp only[Nao,Nbw,Option.map_eq_some_iff,Pj]at he;obtain⟨y,⟨z,hz,rfl⟩,rfl,rfl⟩:=he;obtain⟨tr,hz'⟩:=Nc6 _ _ _ _ hz;have hnone:∀ k,x.st.cnt≤k→x.st.get k=none:=by
       intro k hk';cases hg:x.st.get k with
       |none=>rfl
       |some o =>
         have:=hfu.2 k (by rw[hg];rfl);rw[hk k hk']at this;simp at this
      exact main (ml.map (Nna P)) none (.inr rfl) hst.1.1 tr z hz' (Nfo hE hF hst.2 hz' (Nat.le_refl _) (fun k h1 _=>hnone k h1)) rfl rfl rfl
     simp only[Sj]at hm;subst hm;simp only[Nao,Ncx,Option.map_eq_some_iff,Pj]at he;obtain⟨y,hy,rfl,rfl⟩:=he;split at hy
     ·rename_i tr z hz;split at hy
      ·rename_i hdyn0;simp only[Bool.and_eq_true]at hdyn0;simp only[Sj]at hy;exact main ml _ (.inl rfl) hdo tr z hz hdyn0.1 hdyn0.2 rfl hy.symm
      ·simp at hy
     ·simp at hy
    split at hm
    ·rename_i _ hdo;simp only[Bool.and_eq_true]at hdo;obtain⟨hmx,hdo⟩:=hdo;simp only[Sj]at hm;subst hm;simp only[Nao,Nbw,Option.map_eq_some_iff,Pj]at he;obtain⟨y,⟨z,hz,rfl⟩,rfl,rfl⟩:=he;have hlen:=(NaZ hml).1;have hlen2:(ml.map Nbt).length=ops.size:=(by simpa using hlen);have hloc:LocRel V G a { env:=x.env,loc:=.leaf,st:={ x.st with cnt:=x.st.cnt+8 * (ml.map Nbt).length } }:=⟨hL,fun t _=>by
      have:Env.get (Trie.leaf:Env) t=.und:=rfl;rw[this];exact .und _⟩
     have hs':Sim G { x.st with cnt:=x.st.cnt+8 * (ml.map Nbt).length } w.drew base:=⟨hs.bas,hs.frz,hs.cells,hs.frzd,hs.free,hs.inj,hs.low,hs.mps⟩;refine wp_region_any hmx ?_;change wpAny P .any ops _ ops.size _ a w.drew;refine NiS (base:=base) hcfg hE hml hdo hloc hn hs' hfu (key:=x.st.cnt) (fun k hk'=>hk k hk') (by simp only[];rw[hlen2];exact Nat.le_refl _) hz ?_;intro a' w' G' q1 q2 q3 q4 q5;simp only[]at q4;refine hQ a' w' G' q1.1 q2 q3 Zal ?_;refine⟨q5.le,fun k y hy=>?_,q5.sim,q5.os,q5.tape,q5.output,q5.size,q5.kept,q5.own,q5.fnew,q5.ful⟩;rcases q5.new k y hy with h|h
     ·exact .inl h
     ·right;simp only[];rw[←q4,hlen2];exact h
    ·simp only[Sj]at hm;subst hm;simp[Nao,Nbw,Na5,NaA,Nap]at he
   ·rename_i hdr;have hdr:draw=false:=(by simpa using hdr);subst hdr;simp only[Sj]at hm;subst hm;simp only[Nao,Nbw,Option.map_eq_some_iff,Pj]at he;obtain⟨y,⟨z,hz,rfl⟩,rfl,rfl⟩:=he;have hlen:=(NaZ hml).1;have hloc:LocRel V G a { env:=x.env,loc:=.leaf,st:={ x.st with cnt:=x.st.cnt+8 * ml.length } }:=⟨hL,fun t _=>by
     have:Env.get (Trie.leaf:Env) t=.und:=rfl;rw[this];exact .und _⟩
    have hs':Sim G { x.st with cnt:=x.st.cnt+8 * ml.length } w base:=⟨hs.bas,hs.frz,hs.cells,hs.frzd,hs.free,hs.inj,hs.low,hs.mps⟩;refine wp_region ?_;have hrange:List.range ops.size=List.range' 0 ops.toList.length:=(by rw[List.range_eq_range'];simp);rw[hrange];refine Ne9 (base:=base) hcfg hE ops.toList ml 0 Zaf hml G a w _ z x.st.cnt (x.st.cnt+8 * ml.length) hloc hn hs' hfu ?_ (by rw[hlen];exact Nat.le_refl _) (Nat.le_refl _) hz ?_
    ·intro k hk';refine hk k ?_;rcases hk' with h|h
     ·omega
     ·simp only[]at h;omega
    ·intro a' w' G' q1 q2 q3 q4 q5;simp only[]at q4;refine hQ a' w' G' q1.1 q2 q3 Zal ?_;refine⟨q5.le,fun k y hy=>?_,q5.sim,q5.os,q5.tape,q5.output,q5.size,q5.kept,q5.own,q5.fnew,q5.ful⟩;rcases q5.new k y hy with h|h|h
     ·exact .inl h
     ·right;simp only[];omega
     ·right;simp only[]at h ⊢;omega
 |.rangeFunc ..,m,hm=>by simp[cCode]at hm
 |.goto _,m,hm=>by simp[cCode]at hm
 |.refuse _,m,hm=>by
   simp only[cCode,Sj]at hm;subst hm;intro G a w x e x' h1 h2 h3 h4 h5 h6;simp[Nao,Nbw,Na5,NaA,Nap]at h6
theorem Nfa{G:Ghost}:∀ (ps:List PV) (vs:List Value) (k:Nat) (e:Env),CRel G vs ps→∀ t,(∀ x,(t<k∨k+ps.length≤t)→VRel G x (Env.get e t)→VRel G x (Env.get (Naj ps k e) t))∧(∀ i v,t=k+i→vs[i]? = some v→VRel G v (Env.get (Naj ps k e) t))
 |[],vs,k,e,hc,t=>by
   have:vs=[]:=(by have:=hc.1;simpa using this);subst this;exact⟨fun x _ h=>h,fun i v _ h=>by simp at h⟩
 |p::ps,[],k,e,hc,t=>by have:=hc.1;simp at this
 |p::ps,v::vs,k,e,hc,t=>by
   obtain⟨h1,h2⟩:=hc.uncons;obtain⟨g1,g2⟩:=Nfa ps vs (k+1) (e.put k p) h2 t;refine⟨fun x hx h=>?_,fun i u ht hu=>?_⟩
   ·simp only[Naj];refine g1 x (by simp at hx;omega) ?_;rw[Env.get_put_ne (by simp at hx;omega)];exact h
   ·simp only[Naj];cases i with
    |zero =>
      simp only[List.getElem?_cons_zero,Sj]at hu;subst hu;refine g1 v (.inl Zaa) ?_;have:t=k:=(by omega);subst this;exact Env.get_put_rel h1
    |succ i=>exact g2 i u Zaa (by simpa using hu)
def resVar(tmps:Array Value):ResultVar→Sem Value
 |.tmp t=>pure (tmps.getD t undef)
 |.cell x t=>do loadVar t (←asAddr (tmps.getD x undef))
theorem Njg(fn:Func)(tmps:Array Value):results fn tmps=(do let vs ←fn.results.mapM (resVar tmps);pure (if h:vs.size=1 then vs[0]else .tuple vs)):=by
 unfold results
 congr 1
theorem Nd9{P:Program}{V:List Nat}{G:Ghost}{a:Act}{c:Now}{w:World}{base:Nat}(hL:Ngp V G a c)(hs:Sim G c.st w base):∀ (rs:List ResultVar) (ms:List MRes) (ps:List PV),mapO (cRes P V) rs=some ms→mapO (Nej c) ms=some ps →
 ∃ vs:List Value,(rs.mapM (resVar a.tmps)).run P w=.ok vs w∧CRel G vs ps
 |[],ms,ps,h1,h2=>by
   simp[mapO]at h1;subst h1;simp[mapO]at h2;subst h2;exact⟨[],rfl,.nil⟩
 |r::rs,ms,ps,h1,h2=>by
   simp only[mapO]at h1;split at h1
   ·rename_i m ms' hm hms;simp only[Sj]at h1;subst h1;simp only[mapO]at h2;split at h2
    ·rename_i p ps' hp hps;simp only[Sj]at h2;subst h2;obtain⟨vs,hr,hc⟩:=Nd9 hL hs rs ms' ps' hms hps;cases r with
     |tmp t =>
       simp only[cRes]at hm;split at hm
       ·rename_i hV;simp only[Sj]at hm;subst hm;simp only[Nej,Sj]at hp;subst hp;exact⟨a.tmps.getD t undef::vs,by simp only[List.mapM_cons,Sem.run_bind,resVar,Sem.run_pure,Result.andThen_ok];rw[hr];rfl,.cons (hL t hV) hc⟩
       ·simp at hm
     |cell x t =>
       simp only[cRes]at hm;split at hm
       ·rename_i hV;simp only[Option.bind_eq_bind,Option.bind_eq_some_iff,Sj]at hm;obtain⟨g,hg,n,hn,rfl⟩:=hm;simp only[Nej]at hp;split at hp
        ·rename_i cs hcs;obtain⟨b,o,us,hx,hr2,hc2,hln⟩:=hs.range (hL x hV) hcs;obtain⟨u,hu,hru⟩:=Nfx (P:=P) hg hn hr2 (by rw[hc2.1];exact hln) hc2 hp;have e1:(resVar a.tmps (.cell x t)).run P w=.ok u w:=(by simp[resVar,hx,asAddr,hu]);exact⟨u::vs,by rw[List.mapM_cons,Sem.run_bind,e1,Result.andThen_ok,Sem.run_bind,hr,Result.andThen_ok];rfl,.cons hru hc⟩
        ·simp at hp
       ·simp at hm
    ·simp at h2
   ·simp at h1
theorem NdC{P:Program}{Gl:Gmap}{cfg:Cfg}(hcfg:CfgOK P Gl cfg):∀ fuel,NaV P Gl (Nay cfg fuel)∧Nb5 (Nay cfg fuel)
 |0=>⟨fun f args st r st' h=>by simp[Nay]at h,fun f args st r st' h=>by simp[Nay]at h⟩
 |fuel+1=>by
   obtain⟨hE,hF⟩:=NdC hcfg fuel;refine⟨?_,NiV hE hF⟩;intro f args st r st' h;simp only[Nay]at h;split at h
   ·rename_i m hm;obtain⟨modes,hfns⟩:=hcfg.fns;have hcf:=hfns f m hm;simp only[Naw,Option.bind_eq_bind,Option.bind_eq_some_iff]at hcf;obtain⟨fn,hfn,c,hbody,body,hbd,res,hres,hcf⟩:=hcf;split at hcf
    ·rename_i hname;simp only[Sj]at hcf;subst hcf;unfold NdB at h;simp only[]at h;have hbodyOK:Ncz P f=true:=by
      simp only[Ncz,hfn,hbody,Option.isSome_some,Bool.true_and];exact hname
     have key:∀ (e:MExit) (x':Now),Nao cfg (Nay cfg fuel) (fuel+1) body { env:=Naj args 0 .leaf,st }=some (e,x')→(e=.nrm∨e=.ret)→(match mapO (Nej x') res with|some [v]=>some (v,x'.st)|some vs=>some (.tup vs,x'.st)|none=>none)=some (r,st') →
      Ncz P f=true∧st.cnt≤st'.cnt∧∀ G w base vs,Sim G st w base→Nhf Gl G st→CRel G vs args→(∀ k,st.cnt≤k→G.B k=none) →
       Calls P f vs.toArray w fun e w'=>∃ v G',e=.returned v∧VRel G' v r∧Step base (fun k=>st.cnt≤k∧k<st'.cnt) G st w G' st' w':=by
      intro e x' hev hex hr;have hcnt:=NaQ hE (fuel+1) body _ _ _ hev;simp only[]at hcnt;obtain⟨ps,hps,hst',hrr⟩:∃ ps,mapO (Nej x') res=some ps∧st'=x'.st∧((∃ v,ps=[v]∧r=v)∨(ps.length≠1∧r=.tup ps)):=by
       split at hr
       ·rename_i v hv;simp only[Sj,Pj]at hr;exact⟨[v],hv,hr.2.symm,.inl ⟨v,rfl,hr.1.symm⟩⟩
       ·rename_i vs hne hv;simp only[Sj,Pj]at hr;refine⟨vs,hv,hr.2.symm,.inr ⟨?_,hr.1.symm⟩⟩;intro h1
        match vs,h1 with
        |[v],_=>exact hne v rfl
       ·simp at hr
      subst hst';refine⟨hbodyOK,hcnt,?_⟩;intro G w base vs hs hfu hc hk;refine calls_of_wp hfn hbody ?_;have hnow:Ngp (Nr9 fn).eraseDups G { tmps:=vs.toArray++Array.replicate (fn.ntmps - vs.toArray.size) undef,defers:=[] } { env:=Naj args 0 .leaf,st }:=by
       intro t ht;obtain⟨g1,g2⟩:=Nfa args vs 0 .leaf hc t;have hleaf:Env.get (Trie.leaf:Env) t=.und:=rfl;by_cases hlt:t<vs.length
       ·have e1:(vs.toArray++Array.replicate (fn.ntmps - vs.toArray.size) undef).getD t undef=vs[t]:=by
         simp[Array.getD_eq_getD_getElem?,Array.getElem?_append,hlt]
        show VRel G ((vs.toArray++Array.replicate (fn.ntmps - vs.toArray.size) undef).getD t undef) _;rw[e1];exact g2 t vs[t] Zaa (by simp[hlt])
       ·exact g1 _ (.inr (by rw[←hc.1];omega)) (by rw[hleaf];exact .und _)
      refine Nbe hcfg hE hF (fuel+1) base c body hbd G _ w _ e x' hnow Zak hs hfu hk hev _ ?_;intro a' w' G' q1 q2 q3 q4 q5;obtain⟨us,hru,hcu⟩:=Nd9 (P:=P) q1 q5.sim fn.results.toList res ps hres hps;have hrun:∃ v,(results fn a'.tmps).run P w'=.ok v w'∧VRel G' v r:=by
       have hm:(fn.results.mapM (resVar a'.tmps)).run P w'=.ok us.toArray w':=by
        rw[Array.mapM_eq_mapM_toList];simp only[Sem.run_map,hru,Result.andThen_ok]
       rw[Njg];rcases hrr with⟨v,rfl,rfl⟩|⟨hne,rfl⟩
       ·match us,hcu with
        |[u],hcu =>
          refine⟨u,?_,hcu.2 0 u r rfl rfl⟩;rw[Sem.run_bind,hm];simp
        |[],hcu=>have:=hcu.1;simp at this
        |_::_::_,hcu=>have:=hcu.1;simp at this
       ·have hul:us.length≠1:=(by rw[hcu.1];exact hne);refine⟨.tuple us.toArray,?_,VRel.tup_c (by simpa using hcu)⟩;rw[Sem.run_bind,hm];simp[hul]
      obtain⟨v,hv1,hv2⟩:=hrun;have hfin:a'.defers=[]∧∃ v,(results fn a'.tmps).run P w'=.ok v w'∧∃ v' G'',(Ending.returned v:Ending)=.returned v'∧VRel G'' v' r∧Step base (fun k=>st.cnt≤k∧k<x'.st.cnt) G st w G'' x'.st w':=⟨q3,v,hv1,v,G',rfl,hv2,q5⟩;rcases hex with rfl|rfl<;>exact hfin
     split at h
     ·simp at h
     ·rename_i e c' hne hev;refine key e c' hev ?_ h;cases e with
      |nrm=>exact .inl rfl
      |ret=>exact .inr rfl
      |ex id=>exact absurd rfl (hne id)
     ·simp at h
    ·simp at hcf
   ·simp at h
theorem NbZ(hcfg:CfgOK P Gl cfg)(fuel:Nat):NaV P Gl (Nay cfg fuel):=(NdC hcfg fuel).1
theorem NjP(hcfg:CfgOK P Gl cfg)(fuel:Nat)(f:FuncId):Nbc P Gl f (evP cfg fuel f):=NfE hcfg (NbZ hcfg fuel) f
theorem FC.nil:FC F [] []:=⟨rfl,fun i v p h=>by simp at h⟩
theorem FC.cons{v:Value}{vs:List Value}{ps:List PV}(h:FRel F v p)(k:FC F vs ps):FC F (v::vs) (p::ps):=by
 refine⟨by simp[k.1],fun i u q hu hq=>?_⟩;cases i with
 |zero=>simp at hu hq;subst hu;subst hq;exact h
 |succ i=>simp at hu hq;exact k.2 i u q hu hq
def noF:Nat→Nat→Option Value:=fun _ _=>none
theorem NlU{f:FuncId}(hp:Nbc P Gl f g){vs:List Value}{args:List PV}(hF:∀ b o u,F b o=some u→w.cell? ⟨b,o,none⟩=some u)(hG:∀ b o u,Gl b o=some u→F b o=some u)(ha:FC F vs args)(h:g args=some (.b true)) :
 Calls P f vs.toArray w fun e w'=>e=.returned (.bool true)∧Below w.heap.size w w':=by
 refine(hp args _ h F w 0 vs none hF hG (Nat.zero_le _) (ARel.plain ha)).mono ?_;rintro e w' ⟨v,F',rfl,a1,a2,a3,a4,a5,a6,a7,a8,a9⟩;have hv:FRel F' v (.b true):=a9;cases hv;exact⟨rfl,a3,a4,a5,a6,fun k hk=>a7 k hk Zaf⟩
def NqP(b0 o0:Nat)(u0:Value):Gmap:=fun b o=>if b=b0∧o=o0 then some u0 else none
theorem Nob{b0 o0:Nat}{u0:Value}(h:w.cell? ⟨b0,o0,none⟩=some u0):∀ b o u,NqP b0 o0 u0 b o=some u→w.cell? ⟨b,o,none⟩=some u:=by
 intro b o u hu;unfold NqP at hu;split at hu
 ·rename_i hbo;obtain⟨rfl,rfl⟩:=hbo;rw[h];exact hu
 ·simp at hu
def Nk2(w:World):Gmap:=fun b o=>w.cell? ⟨b,o,none⟩
def NlJ:List PV→Bool
 |[]=>true
 |.s _::l=>NlJ l
 |.i _ _::l=>NlJ l
 |_=>false
def PV.flatR:PV→Bool
 |.b _|.i _ _|.s _=>true
 |_=>false
theorem NdW{f:FuncId}(h:∀ args r,g args=some r→NlJ args=true∧r.flatR=true∧∀ vs F w,(∀ b o u,Gl b o=some u→w.cell? ⟨b,o,none⟩=some u)→FC F vs args→Calls P f vs.toArray w fun e w'=>∃ v,e=.returned v∧FRel F v r∧w'=w):Nbc P Gl f g:=by
 intro args r hg F w base vs gv hF hG hbase ha;obtain⟨h1,h2,h3⟩:=h args r hg;have hfc:FC F vs args:=by
  cases args with
  |nil=>exact ha.1
  |cons p l=>cases p<;>first|exact ha.1|(simp[NlJ]at h1;done)
 refine(h3 vs F w (fun b o u hu=>hF b o u (hG b o u hu)) hfc).mono ?_;rintro e w' ⟨v,rfl,hv,rfl⟩;refine⟨v,F,rfl,fun b o u hu=>hu,hF,rfl,rfl,rfl,Nat.le_refl _,fun j _ _=>rfl,fun b o u hu=>.inl hu,?_⟩;cases r<;>first|exact hv|(simp[PV.flatR]at h2;done)
def Nep(sub:List UInt8):List UInt8→Bool
 |[]=>sub.isEmpty
 |b::l=>sub.isPrefixOf (b::l)||Nep sub l
def gContains:List PV→Option PV
 |[.s a,.s b]=>if a.length<4294967281 then some (.b (Nep b a))else none
 |_=>none
def Ned(c:UInt8):List UInt8→Nat→Nat
 |[],n=>n
 |b::l,n=>Ned c l (if b=c then n+1 else n)
def gCount:List PV→Option PV
 |[.s a,.s [c]]=>some (.i .i64 (Ned c a 0))
 |_=>none
def Ngo(c:UInt8):List UInt8→Nat→Int
 |[],n=>-1
 |b::l,n=>if b=c then n else Ngo c l (n+1)
def gIndexByte:List PV→Option PV
 |[.s a,.i .u8 c]=>some (.i .i64 (Ngo c.toNat.toUInt8 a 0))
 |_=>none
def Nrz(P:Program):Nat→TypeId→Bool
 |0,_=>false
 |n+1,t=>match P.underlying t with
   |some (.pointer _)=>true
   |some (.func ..)=>true
   |some (.map ..)=>true
   |some (.struct fs)=>fs.toList.any fun d=>Nrz P n d.type
   |some (.array _ e)=>Nrz P n e
   |_=>false
def Njv(P:Program):FuncId→Option Bool:=fun f=>match P.funcs[f]? with
 |some fn=>if(fn.params.toList++fn.resultTypes.toList).any (Nrz P 8)then none else some false
 |none=>some false
def Nme(P:Program)(l:List FuncId):FuncId→Option Bool:=fun f=>if l.contains f then some true else Njv P f
end
end Go.Pe
