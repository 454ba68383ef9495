/-
 Open-order regions in the logic: nothing hangs on when an operation runs that reads only what no other one writes. No condition; nothing of the program.
-/
import Derived.Test.YtjnofhibldppoaaZPe4
set_option linter.unusedVariables false
set_option linter.unusedSimpArgs false
namespace Go.Pe
open Go
section
variable {a b:Int}{st:St}{sz n key:Nat}{v:PV}{cs:List PV}{Q:PV→St→Prop}
theorem Nkn(n:Nat):Int.ofNat n=(n:Int):=Eq.trans rfl rfl
theorem NgQ(n:Nat):Int.negSucc n=-((n+1:Nat):Int):=Eq.trans rfl rfl
theorem ltT(h:a<b):(a<b)=True:=eq_true h
theorem ltF(h:¬ a<b):(a<b)=False:=eq_false h
theorem leT(h:a≤b):(a≤b)=True:=eq_true h
theorem leF(h:¬ a≤b):(a≤b)=False:=eq_false h
theorem gtT(h:a > b):(a > b)=True:=eq_true h
theorem gtF(h:¬ a > b):(a > b)=False:=eq_false h
theorem geT(h:a≥b):(a≥b)=True:=eq_true h
theorem geF(h:¬ a≥b):(a≥b)=False:=eq_false h
theorem beT(h:a=b):(a==b)=true:=by simp[h]
theorem beF(h:¬ a=b):(a==b)=false:=by simp[h]
theorem neT(h:¬ a=b):(a != b)=true:=by simp[h]
theorem neF(h:a=b):(a != b)=false:=by simp[h]
theorem Nr4{a b:Nat}(h:a<b):(a<b)=True:=eq_true h
theorem Nr3{a b:Nat}(h:¬ a<b):(a<b)=False:=eq_false h
theorem Nr2{a b:Nat}(h:a≤b):(a≤b)=True:=eq_true h
theorem leFn{a b:Nat}(h:¬ a≤b):(a≤b)=False:=eq_false h
theorem Nm8(n m:Nat):(n:Int).tdiv (m:Int)=((n / m:Nat):Int):=Eq.trans rfl rfl
theorem Nm9(n m:Nat):(n:Int).tmod (m:Int)=((n % m:Nat):Int):=Eq.trans rfl rfl
theorem NmN(a b:Nat):(a:Int)+(b:Int)=((a+b:Nat):Int):=Eq.trans rfl rfl
theorem NfJ(a b:Nat):((a:Int) - (b:Int)).toNat=a - b:=by omega
theorem Nhe(a b:Nat):((a:Int)+(b:Int)).toNat=a+b:=by omega
theorem Xa:type_of% @Nkn∧type_of% @NgQ∧type_of% @ltT∧type_of% @ltF∧type_of% @leT∧type_of% @leF∧type_of% @gtT∧type_of% @gtF∧type_of% @geT∧type_of% @geF∧type_of% @beT∧type_of% @beF∧type_of% @neT∧type_of% @neF∧type_of% @Nm8∧type_of% @Nm9∧type_of% @NaD∧type_of% @Nnd∧type_of% @Nnc∧type_of% @Np3∧type_of% @false_and∧type_of% @and_false∧type_of% @not_false_eq_true∧type_of% @Nhe∧type_of% @NfJ∧type_of% @NmN∧type_of% @Nat.mul_one∧type_of% @Nat.zero_add :=
 ⟨@Nkn,@NgQ,@ltT,@ltF,@leT,@leF,@gtT,@gtF,@geT,@geF,@beT,@beF,@neT,@neF,@Nm8,@Nm9,@NaD,@Nnd,@Nnc,@Np3,@false_and,@and_false,@not_false_eq_true,@Nhe,@NfJ,@NmN,@Nat.mul_one,@Nat.zero_add⟩
theorem Xn:type_of% @Nr4∧type_of% @Nr3∧type_of% @Nr2∧type_of% @leFn:=⟨@Nr4,@Nr3,@Nr2,@leFn⟩
theorem Xl:type_of% @NiH∧type_of% @NiI∧type_of% @Njl∧type_of% @NaN∧type_of% @NaG∧type_of% @Np5∧type_of% @Naz∧type_of% @Na2∧type_of% @Np6∧type_of% @Np7∧type_of% @Np8∧type_of% @Np9∧type_of% @Nqa∧type_of% @Nqb∧type_of% @Nqc∧type_of% @Nqd∧type_of% @Nqe∧type_of% @Nqf∧type_of% @Nqg∧type_of% @Nqh∧type_of% @Nqi∧type_of% @Nqq∧type_of% @Nqr∧type_of% @Nqs∧type_of% @Nqt∧type_of% @Nqu∧type_of% @Nqv∧type_of% @Nqw∧type_of% @Nqx∧type_of% @Nqy∧type_of% @Nqz∧type_of% @NqA∧type_of% @NqB∧type_of% @NqC∧type_of% @NqD∧type_of% @NqE∧type_of% @NqF∧type_of% @NqG∧type_of% @List.take_succ_cons.{0}∧type_of% @List.take_zero.{0}∧type_of% @List.drop_succ_cons.{0}∧type_of% @List.drop_zero.{0}∧type_of% @List.cons_append.{0}∧type_of% @List.nil_append.{0}∧type_of% @List.append_nil.{0}∧type_of% @List.all_cons.{0}∧type_of% @List.all_nil.{0}∧type_of% @Bool.and_self∧type_of% @Bool.and_true∧type_of% @Bool.true_and∧type_of% @Nat.zero_add∧type_of% @Nat.add_zero∧type_of% @Nat.le_refl∧type_of% @List.getElem?_cons_zero.{0}∧type_of% @List.getElem?_cons_succ.{0}∧type_of% @Nat.add_left_cancel_iff∧type_of% @Nat.left_eq_add∧type_of% @Nat.add_eq_left∧type_of% @not_false_eq_true∧type_of% @NqH∧type_of% @NqI∧type_of% @NqJ∧type_of% @Z1k_ :=
 ⟨@NiH,@NiI,@Njl,@NaN,@NaG,@Np5,@Naz,@Na2,@Np6,@Np7,@Np8,@Np9,@Nqa,@Nqb,@Nqc,@Nqd,@Nqe,@Nqf,@Nqg,@Nqh,@Nqi,@Nqq,@Nqr,@Nqs,@Nqt,@Nqu,@Nqv,@Nqw,@Nqx,@Nqy,@Nqz,@NqA,@NqB,@NqC,@NqD,@NqE,@NqF,@NqG,@List.take_succ_cons.{0},@List.take_zero.{0},@List.drop_succ_cons.{0},@List.drop_zero.{0},@List.cons_append.{0},@List.nil_append.{0},@List.append_nil.{0},@List.all_cons.{0},@List.all_nil.{0},@Bool.and_self,@Bool.and_true,@Bool.true_and,@Nat.zero_add,@Nat.add_zero,@Nat.le_refl,@List.getElem?_cons_zero.{0},@List.getElem?_cons_succ.{0},@Nat.add_left_cancel_iff,@Nat.left_eq_add,@Nat.add_eq_left,@not_false_eq_true,@NqH,@NqI,@NqJ,@Z1k_⟩
def keyOf:PV→List Nat
 |.rsl k _ _ _=>[k]
 |_=>[]
def Own(st:St)(sz:Nat)(v:PV)(n:Nat)(cs:List PV):Prop :=
 (v=.nsl∧n=0∧cs=[])∨∃ k,v=.rsl k sz 0 n∧st.get k=some (.cells cs false)∧cs.length=n * sz∧k<st.cnt
theorem Own.nil(st:St)(sz:Nat):Own st sz .nsl 0 []:=.inl ⟨rfl,rfl,rfl⟩
theorem Own.len(h:Own st sz v n cs):Nd7 v=some (.i .i64 n):=by
 rcases h with⟨rfl,rfl,_⟩|⟨k,rfl,_⟩<;>rfl
theorem Own.lt(h:Own st sz v n cs):∀ k,k∈keyOf v→k<st.cnt:=by
 rcases h with⟨rfl,_,_⟩|⟨k,rfl,_,_,hk⟩
 ·intro k hk;simp[keyOf]at hk
 ·intro j hj;simp[keyOf]at hj;omega
theorem Own.cells(h:Own st sz v n cs):cellsOf st sz v=some (n,cs):=by
 rcases h with⟨rfl,rfl,rfl⟩|⟨k,rfl,h1,h2,_⟩
 ·rfl
 ·unfold cellsOf;simp only[h1,cut?,Nat.zero_add,List.drop_zero,ne_eq,not_true_eq_false,if_false];rw[if_pos Zaa,←h2,List.take_length];rfl
theorem Own.move{st':St}(h:Own st sz v n cs)(hc:st.cnt≤st'.cnt)(hg:∀ j,j∈keyOf v→j<st.cnt→st'.get j=st.get j):Own st' sz v n cs:=by
 rcases h with h|⟨k,rfl,h1,h2,h3⟩
 ·exact .inl h
 ·exact .inr ⟨k,rfl,by rw[hg k (by simp[keyOf]) h3];exact h1,h2,by omega⟩
theorem Own.cnt{sto:Trie PObj}{c c':Nat}(h:Own ⟨sto,c⟩ sz v n cs)(hc:c≤c'):Own ⟨sto,c'⟩ sz v n cs:=h.move hc fun _ _ _=>rfl
theorem Own.put{k:Nat}{o:Option PObj}(h:Own st sz v n cs)(hk:k∉keyOf v):Own (st.put k o) sz v n cs:=h.move (Nat.le_refl _) fun j hj _=>Yae fun e=>hk (e▸hj)
theorem Own.deep(h:Own st sz v n cs)(hf:cs.all PV.flat=true):(v=.nsl∧n=0∧cs=[]∧Go.Pe.deep st 12 v=some .nsl)∨Go.Pe.deep st 12 v=some (.fsl n cs):=by
 rcases h with⟨rfl,rfl,rfl⟩|⟨k,rfl,h1,h2,_⟩
 ·exact .inl ⟨rfl,rfl,rfl,rfl⟩
 ·refine .inr ?_;show Go.Pe.deep st (11+1) _=_;unfold Go.Pe.deep;simp only[h1,cut?,Nat.zero_add,List.drop_zero];rw[if_pos Zaa,←h2,List.take_length];have:mapO (Go.Pe.deep st 11) cs=some cs:=by
   clear h1 h2
   induction cs with
   |nil=>rfl
   |cons c r ih =>
     simp only[List.all_cons,Bool.and_eq_true]at hf;have e:Go.Pe.deep st 11 c=some c:=by
      cases c<;>first|rfl|(simp[PV.flat]at hf)
     simp only[mapO,e,ih hf.2]
  simp only[this];rfl
theorem Own.obj(h:Own st sz v n cs)(hn:n≠0):∃ k,v=.rsl k sz 0 n∧st.get k=some (.cells cs false)∧cs.length=n * sz∧k<st.cnt:=by
 rcases h with⟨_,h,_⟩|h
 ·exact absurd h hn
 ·exact h
theorem NfK{S:St}{byt m:Nat}{news:List PV}(h:Own S sz v n cs)(hk:key<S.cnt)(hf:key∉keyOf v)(hm:news.length=m * sz)(hs:0<sz)(hl:(n+m) * byt≤maxBytes)
 (q:∀ v' st',Own st' sz v' (n+m) (cs++news)→st'.cnt=S.cnt→(∀ j,j∈keyOf v'→j=key)→(∀ j,j≠key→j∉keyOf v→st'.get j=S.get j)→Q v' st'):WV (Nbj S key sz byt m news v) Q:=by
 rcases h with⟨rfl,rfl,rfl⟩|⟨k,rfl,h1,h2,h3⟩
 ·by_cases h0:m=0
  ·subst h0;have hn:news=[]:=List.length_eq_zero_iff.1 Zaa;subst hn;exact⟨.nsl,S,rfl,q _ _ (.inl ⟨rfl,rfl,rfl⟩) rfl (by intro j hj;simp[keyOf]at hj) (fun _ _ _=>rfl)⟩
  ·refine⟨.rsl key sz 0 m,S.put key (some (.cells news false)),?_,q _ _ (.inr ⟨key,by rw[Nat.zero_add],Yaf _ _ _,?_,hk⟩) rfl (by intro j hj;simpa[keyOf]using hj) (fun j hj _=>Yae fun e=>hj e.symm)⟩
   ·unfold Nbj;rw[if_neg h0,if_pos (by simpa using hl)]
   ·simpa using hm
 ·have hkk:key≠k:=by simpa[keyOf]using hf
  refine⟨.rsl key sz 0 (n+m),(S.put k none).put key (some (.cells (cs++news) false)),?_,q _ _ (.inr ⟨key,rfl,Yaf _ _ _,?_,hk⟩) rfl (by intro j hj;simpa[keyOf]using hj) ?_⟩
  ·unfold Nbj;simp only[h1];rw[if_pos ⟨trivial,trivial,h2,hl⟩]
  ·rw[List.length_append,h2,hm,Nat.add_mul]
  ·intro j hj hjk;rw[Yae (fun e=>hj e.symm),Yae (fun e=>hjk (by simp[keyOf,e]))]
theorem Nk9{g:List PV→Option PV}{ps ps':List PV}{r:PV}(hd:Nbk st ps=some ps')(hg:g ps'=some r)(hc:r.closedB=true)(hr:NaE st key r=some (r,st))(q:Q r st):WV (Nam g false st key ps) Q:=by
 refine⟨r,st,?_,q⟩;unfold Nam;simp only[hd,hg,hc,if_true,hr]
theorem Nc5(S:St)(k sz n:Nat)(cs:List PV)(fz:Bool):cellsOf (S.put k (some (.cells cs fz))) sz (.rsl k sz 0 n)=if n * sz≤cs.length then some (n,cs.take (n * sz))else none:=by
 unfold cellsOf;simp only[Yaf,cut?,Nat.zero_add,List.drop_zero,ne_eq,not_true_eq_false,if_false];split<;>rfl
theorem NbJ{g:List PV→Option PV}{ps ps':List PV}{r:PV}(hd:Nbk st ps=some ps')(hg:g ps'=some r)(hc:r.closedB=true)(hr:NaE st key r=some (r,st))(q:Q r st) :
 WV (match Nbk st ps with
  |some l=>match g l with
    |some r=>if r.closedB then NaE st key r else none
    |none=>none
  |none=>none) Q:=by
 refine⟨r,st,?_,q⟩;simp only[hd,hg,hc,if_true,hr]
end
end Go.Pe
set_option maxHeartbeats 4000000
namespace Go.Pe
open Go
section
variable {cfg:Cfg}{callE:CallE}{key:Nat}{st st':St}{v:PV}{ml:List MOper}
def NcW:MOp→Bool
 |.mv _|.pick ..|.bin ..|.eqb ..|.eqn ..|.eqs ..|.un ..|.field ..|.index ..|.extract ..|.len _|.slen _|.alen _|.min ..|.max ..|.substr ..|.sindex ..|.fieldAddr ..|.build ..|.nilck _|.indexAddr ..|.slice none ..=>true
 |.conv (.int _) _|.conv .same _=>true
 |_=>false
def Ni5:MOp→Bool
 |.load ..=>true
 |_=>false
theorem Nde{ρ:Arg→PV}{m:MOp}(hp:NcW m=true)(h:Nap cfg callE ρ st key m=some (v,st')):st'=st∧∀ st2 key2,Nap cfg callE ρ st2 key2 m=some (v,st2):=by
 cases m
 case conv c x =>
  cases c with
  |int k =>
    simp only[Nap]at h ⊢;split at h<;>simp_all
  |same =>
    simp only[Nap]at h ⊢;split at h<;>simp_all
  |_=>simp[NcW]at hp
 case slice len sz x lo hi =>
  cases len with
  |none =>
    simp only[Nap]at h ⊢;obtain⟨a,ha,he⟩:=Option.map_eq_some_iff.1 h;cases he;exact⟨rfl,fun _ _=>by rw[ha];rfl⟩
  |some N=>simp[NcW]at hp
 case indexAddr arr sz x i =>
  cases arr<;>simp only[Nap]at h ⊢<;>(repeat' split at h)<;>simp_all
 all_goals first
  |(simp[NcW]at hp;done)
  |(simp only[Nap]at h ⊢;simp only[Option.some.injEq,Prod.mk.injEq]at h;obtain⟨rfl,rfl⟩:=h;exact⟨rfl,fun _ _=>rfl⟩)
  |(simp only[Nap]at h ⊢;obtain⟨a,ha,he⟩:=Option.map_eq_some_iff.1 h;cases he;exact⟨rfl,fun _ _=>by rw[ha];rfl⟩)
  |(simp only[Nap]at h ⊢;(repeat' split at h)<;>first|(simp at h;done)|(cases h;exact⟨rfl,fun _ _=>by simp_all⟩)|(obtain⟨a,ha,he⟩:=Option.map_eq_some_iff.1 h;cases he;exact⟨rfl,fun _ _=>by simp_all⟩))
theorem Ndc{ρ:Arg→PV}{agg:Bool}{n:Nat}{a:Arg}(h:Nap cfg callE ρ st key (.load agg n a)=some (v,st')):st'=st∧∀ st2 key2,(∀ k o,ρ a=.ptr k o→st2.get k=st.get k)→Nap cfg callE ρ st2 key2 (.load agg n a)=some (v,st2):=by
 simp only[Nap]at h ⊢;have hl:∀ st2:St,(∀ k o,ρ a=.ptr k o→st2.get k=st.get k)→NaX st2 n (ρ a)=NaX st n (ρ a):=by
  intro st2 hk;unfold NaX;split
  ·rename_i k o e;rw[hk _ _ e]
  ·rfl
  ·rfl
 split at h
 ·rename_i cs hcs;simp only[Option.map_eq_some_iff,Prod.mk.injEq]at h;obtain⟨x,hx,rfl,rfl⟩:=h;refine⟨rfl,fun st2 key2 hk=>?_⟩;rw[hl st2 hk,hcs];simp[hx]
 ·simp at h
theorem Nmg{r:PV}(h:NaE st key r=some (v,st'))(st2:St):∃ st2',NaE st2 key r=some (v,st2')∧((st2'=st2∧st'=st)∨st2'.get key=st'.get key):=by
 unfold NaE at h ⊢;split at h
 ·simp only[Option.some.injEq,Prod.mk.injEq]at h;obtain⟨rfl,rfl⟩:=h;exact⟨_,rfl,.inr (by rw[Yaf,Yaf])⟩
 ·split at h
  ·split at h
   ·rename_i hc;simp only[Option.some.injEq,Prod.mk.injEq]at h;obtain⟨rfl,rfl⟩:=h;simp only[hc,if_true];exact⟨_,rfl,.inr (by rw[Yaf,Yaf])⟩
   ·simp at h
  ·simp only[Option.some.injEq,Prod.mk.injEq]at h;obtain⟨rfl,rfl⟩:=h;exact⟨_,rfl,.inl ⟨rfl,rfl⟩⟩
 ·simp only[Option.some.injEq,Prod.mk.injEq]at h;obtain⟨rfl,rfl⟩:=h;exact⟨_,rfl,.inl ⟨rfl,rfl⟩⟩
theorem NeD{ρ:Arg→PV}{f:FuncId}{args:List Arg}{l:List PV}(hp:∀ st,Nbk st (args.map ρ)=some l)(h:Nap cfg callE ρ st key (.callq f args)=some (v,st'))(st2:St):∃ st2',Nap cfg callE ρ st2 key (.callq f args)=some (v,st2')∧((st2'=st2∧st'=st)∨st2'.get key=st'.get key):=by
 simp only[Nap,hp]at h ⊢;split at h
 ·split at h
  ·rename_i hc;simp only[hc,if_true];exact Nmg h st2
  ·simp at h
 ·simp at h
def Nf2(T:List Nat)(k0:Nat)(ρ:Arg→PV):MOp→Prop
 |.load _ _ a=>∀ k o,ρ a=.ptr k o→k<k0∧k∉T
 |.callq _ args=>∃ l,∀ st,Nbk st (args.map ρ)=some l
 |m=>NcW m=true
def Nko(nd:Bool)(T:List Nat)(k0 key:Nat)(ρ:Arg→PV)(st:St)(m:MOp):Prop :=
 NaB m=true→((nd||NcW m||Ni5 m)=true→key∉T)∧(nd=true→Nf2 T k0 ρ m)
def Neb(nd:Bool)(key:Nat)(v:PV)(st':St):Prop:=nd=true→PV.same NbK v v=true∧PObj.same (st'.get key) (st'.get key)=true
def NcG(nd:Bool)(T:List Nat)(key:Nat)(m:MOp)(st:St)(v:PV)(st':St):Prop:=if NaB m then Neb nd key v st' else ∀ k,k≠key→k∉T→st'.get k=st.get k
def WOC(cfg:Cfg)(callE:CallE)(T:List Nat)(k0:Nat):List Bool→List MOper→Nat→Loc→(Loc→Prop)→Prop
 |_,[],_,c,Q=>Q c
 |[],_::_,_,_,_=>False
 |nd::ns,o::r,key,c,Q=>match NaA c o.guard with
   |some true=>Nko nd T k0 key c.rd c.st o.op∧WV (Nap cfg callE c.rd c.st key o.op) fun v st'=>NcG nd T key o.op c.st v st'∧WOC cfg callE T k0 ns r (key+8) (({ c with st:=st' }:Loc).wr o.dst v) Q
   |some false=>WOC cfg callE T k0 ns r (key+8) (c.wr o.dst (.tup [])) Q
   |none=>False
def NoL(cfg:Cfg)(callE:CallE)(T:List Nat)(k0 key:Nat)(nd:Bool)(o:MOper)(c:Loc)(v:PV)(s1 s2:St):Prop :=
 c.st=s1∧((NaA c o.guard=some true∧Nko nd T k0 key c.rd s1 o.op∧Nap cfg callE c.rd s1 key o.op=some (v,s2)∧NcG nd T key o.op s1 v s2)∨(NaA c o.guard=some false∧s2=s1))
theorem Njs{cfg:Cfg}{callE:CallE}{T:List Nat}{k0:Nat}{Q:Loc→Prop}:∀ (ml:List MOper) (ns:List Bool) (key:Nat) (c:Loc),WOC cfg callE T k0 ns ml key c Q →
 ∃ tr c',NcP cfg callE ml key c=some (tr,c')∧Q c'∧tr.length=ml.length∧stAt tr c' 0=c.st∧∀ i o,ml[i]? = some o→∃ ci vi nd,tr[i]? = some (ci,vi)∧ns[i]? = some nd∧NoL cfg callE T k0 (key+8 * i) nd o ci vi (stAt tr c' i) (stAt tr c' (i+1))
 |[],ns,key,c,h=>⟨[],c,rfl,by cases ns<;>exact h,rfl,rfl,fun i o h=>by simp at h⟩
 |o::r,[],key,c,h=>h.elim
 |o::r,nd::ns,key,c,h=>by
   unfold WOC at h;split at h
   ·rename_i hg;obtain⟨hok,v,st',hev,hself,hr⟩:=h;obtain⟨tr,c',h1,h2,h3,h4,h5⟩:=Njs r ns _ _ hr;have e:stAt ((c,v)::tr) c' 0=c.st:=rfl;have e':∀ i,stAt ((c,v)::tr) c' (i+1)=stAt tr c' i:=fun _=>rfl;refine⟨(c,v)::tr,c',?_,h2,by rw[List.length_cons,List.length_cons,h3],rfl,?_⟩
    ·simp only[NcP,hg,hev,h1,Option.map_some]
    ·intro i o' hi;cases i with
     |zero =>
       simp only[List.getElem?_cons_zero,Option.some.injEq]at hi;subst hi;refine⟨c,v,nd,rfl,rfl,rfl,.inl ⟨hg,hok,?_,?_⟩⟩
       ·rw[e',h4,Nbb];exact hev
       ·rw[e',h4,Nbb];exact hself
     |succ i =>
       obtain⟨ci,vi,nd',q1,q2,q3⟩:=h5 i o' (by simpa using hi);refine⟨ci,vi,nd',by simpa using q1,by simpa using q2,?_⟩;rw[e',e',show key+8 * (i+1)=key+8+8 * i by omega];exact q3
   ·rename_i hg;obtain⟨tr,c',h1,h2,h3,h4,h5⟩:=Njs r ns _ _ h;have e':∀ i,stAt ((c,PV.tup [])::tr) c' (i+1)=stAt tr c' i:=fun _=>rfl;refine⟨(c,.tup [])::tr,c',?_,h2,by rw[List.length_cons,List.length_cons,h3],rfl,?_⟩
    ·simp only[NcP,hg,h1,Option.map_some]
    ·intro i o' hi;cases i with
     |zero =>
       simp only[List.getElem?_cons_zero,Option.some.injEq]at hi;subst hi;refine⟨c,.tup [],nd,rfl,rfl,rfl,.inr ⟨hg,?_⟩⟩;rw[e',h4,Nbb];rfl
     |succ i =>
       obtain⟨ci,vi,nd',q1,q2,q3⟩:=h5 i o' (by simpa using hi);refine⟨ci,vi,nd',by simpa using q1,by simpa using q2,?_⟩;rw[e',e',show key+8 * (i+1)=key+8+8 * i by omega];exact q3
   ·exact h.elim
def Ni6(ml:List MOper)(masks:List Nat)(q:Nat):Bool:=Nai ml q&&(List.range (ml.length+1)).any fun t=>!((decide (t<ml.length)&&Nai ml t)||NdM ml q t||!Nf5 ml masks q t)
def NfC(ml:List MOper)(masks:List Nat):List Bool:=(List.range ml.length).map (Ni6 ml masks)
def NdV(ml:List MOper)(masks:List Nat):Bool:=(List.range ml.length).all fun j=>Nai ml j||(List.range ml.length).all fun m=>!(decide (m<j)&&Nai ml m)||NaK masks j m||(match ml[m]? with
 |some o=>NcW o.op||Ni5 o.op
 |none=>false)
theorem Ndf{i:Nat}{o:MOper}(h:ml[i]? = some o):Nai ml i=NaB o.op:=by unfold Nai;rw[h]
theorem Nj6{P:Program}{Gl:Gmap}(hC:NaV P Gl callE)(hE:Nb5 callE){masks:List Nat}{T:List Nat}{c c':Loc}{tr:List (Loc×PV)}(hO:NdV ml masks=true)
 (h:NcP cfg callE ml key c=some (tr,c')) (hb:key+8 * ml.length≤c.st.cnt) (hn:∀ k,key≤k→k<key+8 * ml.length→c.st.get k=none) (h0:stAt tr c' 0=c.st)
 (hst:∀ i o,ml[i]? = some o→∃ ci vi nd,tr[i]? = some (ci,vi)∧(NfC ml masks)[i]? = some nd∧NoL cfg callE T key (key+8 * i) nd o ci vi (stAt tr c' i) (stAt tr c' (i+1))):Nbv cfg callE ml masks tr c' key=true:=by
 have ha:=Nc7 hC hE ml key c c' tr h hb hn
 -- frames
 have g1:∀ i k,i<ml.length→k∉T→k≠key+8 * i→(stAt tr c' (i+1)).get k=(stAt tr c' i).get k:=by
  intro i k hi hk hne;obtain⟨ci,vi,nd,_,_,_,hs⟩:=hst i _ (List.getElem?_eq_getElem hi);rcases hs with⟨_,hok,hev,hpo⟩|⟨_,e⟩
  ·unfold NcG at hpo;split at hpo
   ·rename_i hq;rcases NbG hq hev with e|⟨o,e⟩
    ·rw[e]
    ·rw[e];exact Yae (fun e=>hne e.symm)
   ·exact hpo k hne hk
  ·rw[e]
 have g2:∀ k,k∉T→k<key→∀ i,i≤ml.length→(stAt tr c' i).get k=(stAt tr c' 0).get k:=by
  intro k hk hlt i
  induction i with
  |zero=>intro _;rfl
  |succ i ih=>intro hi;rw[g1 i k Zaa hk Zaa];exact ih Zaa
 have g3:∀ q,key+8 * q∉T→∀ t,q+1≤t→t≤ml.length→(stAt tr c' t).get (key+8 * q)=(stAt tr c' (q+1)).get (key+8 * q):=by
  intro q hq t
  induction t with
  |zero=>intro h;omega
  |succ t ih =>
    intro h1 h2;by_cases e:t=q
    ·rw[e]
    ·rw[g1 t _ Zaa hq Zaa];exact ih Zaa Zaa
 have hcn:∀ i,i≤ml.length→key+8 * ml.length≤(stAt tr c' i).cnt:=by
  intro i
  induction i with
  |zero=>intro _;rw[h0];exact hb
  |succ i ih =>
    intro hi;have ih':=ih Zaa;obtain⟨ci,vi,nd,_,_,_,hs⟩:=hst i _ (List.getElem?_eq_getElem (show i<ml.length by omega));rcases hs with⟨_,_,hev,_⟩|⟨_,e⟩
    ·have:=Nbf hC hev;omega
    ·rw[e];exact ih'
 have g4:∀ q,q<ml.length→(stAt tr c' (q+1)).get (key+8 * q)=none→∀ t,q+1≤t→t≤ml.length→(stAt tr c' t).get (key+8 * q)=none:=by
  intro q hq hnq t
  induction t with
  |zero=>intro h;omega
  |succ t ih =>
    intro h1 h2;by_cases et:t=q
    ·rw[et];exact hnq
    ·have ih':=ih Zaa Zaa;have hct:=hcn t Zaa;obtain⟨ci,vi,nd,_,_,_,hs⟩:=hst t _ (List.getElem?_eq_getElem (show t<ml.length by omega));rcases hs with⟨_,_,hev,_⟩|⟨_,e⟩
     ·exact NcO hE hev Zaa Zaa ih'
     ·rw[e];exact ih'
 unfold Nbv;rw[List.all_eq_true];intro j hj;have hjl:j<ml.length:=by simpa using hj
 obtain⟨o,ho⟩:∃ o,ml[j]? = some o:=⟨_,List.getElem?_eq_getElem hjl⟩;have hqa:=Ndf ho;split
 ·rename_i hq;rw[List.all_eq_true];intro t ht;have htl:t≤ml.length:=by have:=List.mem_range.1 ht;omega
  obtain⟨ci,vi,nd,htr,hnd,hcs,hs⟩:=hst j o ho;have hnd':Ni6 ml masks j=nd:=by
   unfold NfC at hnd;rw[List.getElem?_map]at hnd;simpa[hjl]using hnd
  cases nd with
  |false =>
    unfold Ni6 at hnd';rw[hq,Bool.true_and,List.any_eq_false]at hnd';have:=hnd' t ht;simp only[Bool.not_eq_true',Bool.not_eq_false]at this;rw[this,Bool.true_or]
  |true =>
    have hag:Ndy cfg callE ml tr c' key j t=true:=by
     unfold Ndy;rw[ho,htr];simp only[Bool.and_eq_true,Bool.or_eq_true,decide_eq_true_eq];rcases hs with⟨hg,hok,hev,hself⟩|⟨hg,e⟩
     ·obtain⟨hkT,hli⟩:=hok (by rw[←hqa];exact hq);unfold NcG at hself;rw[if_pos (by rw[←hqa];exact hq)]at hself;have hkT':=hkT Zaf;have hli':=hli rfl;obtain⟨hs1,hs2⟩:=hself rfl;have hfr:(stAt tr c' j).get (key+8 * j)=none:=ha j j (Nat.le_refl _) hjl;refine⟨?_,?_⟩
      ·by_cases htj:t≤j
       ·exact .inl htj
       ·right;rw[g3 j hkT' t Zaa htl];exact hs2
      ·rw[hg];simp only;have hsp:((sig ml tr c' key t).put (key+8 * j) none).get (key+8 * j)=none:=Yaf _ _ _;have hlow:∀ k,k<key→k∉T→((sig ml tr c' key t).put (key+8 * j) none).get k=(stAt tr c' j).get k:=by
        intro k hk hkT;rw[Yae Zaa];unfold sig;rw[Ncu _ _ _ (fun q _ _ _=>by omega),g2 k hkT hk t htl,g2 k hkT hk j Zaa]
       by_cases hp:NcW o.op=true
       ·obtain⟨e1,e2⟩:=Nde hp hev;rw[e2 _ _];simp only[hs1,Bool.true_and];rw[hsp,e1,hfr];rfl
       ·cases hop:o.op with
        |load agg n a =>
          rw[hop]at hev hli';obtain⟨e1,e2⟩:=Ndc hev;rw[e2 _ _ (fun k o e=>hlow k (hli' k o e).1 (hli' k o e).2)];simp only[hs1,Bool.true_and];rw[hsp,e1,hfr];rfl
        |callq f args =>
          rw[hop]at hev hli';obtain⟨la,hla⟩:=hli';obtain⟨st2,e1,e2⟩:=NeD hla hev ((sig ml tr c' key t).put (key+8 * j) none);rw[e1];simp only[hs1,Bool.true_and];rcases e2 with⟨e3,e4⟩|e3
          ·rw[e3,hsp,e4,hfr];rfl
          ·rw[e3];exact hs2
        |_=>rw[hop]at hli' hp;exact absurd hli' hp
     ·refine⟨?_,by rw[hg]⟩;by_cases htj:t≤j
      ·exact .inl htj
      ·right;have hns:=g4 j hjl (by rw[e];exact ha j j (Nat.le_refl _) hjl);rw[hns t Zaa htl,hns (j+1) (Nat.le_refl _) Zaa];rfl
    rw[hag,Bool.or_true]
 ·rename_i hq;rw[List.all_eq_true];intro m hm;have hml:m<ml.length:=by simpa using hm
  by_cases hjm:j<m
  ·rw[if_pos hjm,ha (j+1) m Zaa hml];rfl
  ·rw[if_neg hjm];split
   ·rename_i hc;simp only[Bool.and_eq_true,decide_eq_true_eq]at hc;unfold NdV at hO;rw[List.all_eq_true]at hO;have h1:=hO j hj;rw[Bool.or_eq_true]at h1;rcases h1 with h1|h1
    ·exact absurd h1 hq
    rw[List.all_eq_true]at h1;have h2:=h1 m hm;simp only[hc,decide_true,Bool.and_self,Bool.not_true,Bool.false_or,Bool.or_eq_true]at h2;rcases h2 with h2|h2
    ·rw[h2,Bool.true_or]
    ·obtain⟨om,hom⟩:∃ o,ml[m]? = some o:=⟨_,List.getElem?_eq_getElem hml⟩;rw[hom]at h2;simp only[Bool.or_eq_true]at h2;obtain⟨ci,vi,nd,_,_,_,hs⟩:=hst m om hom;have hqm:NaB om.op=true:=(by rw[←Ndf hom];exact hc.2);have hfr:(stAt tr c' m).get (key+8 * m)=none:=ha m m (Nat.le_refl _) hml;have hend:(stAt tr c' j).get (key+8 * m)=none:=by
      rcases hs with⟨_,hok,hev,_⟩|⟨_,e⟩
      ·have hkT:=(hok hqm).1 (by rcases h2 with h2|h2<;>simp[h2]);rw[g3 m hkT j Zaa Zaa];rcases h2 with h2|h2
       ·rw[(Nde h2 hev).1];exact hfr
       ·cases hop:om.op<;>rw[hop]at h2 hev<;>first|(simp[Ni5]at h2;done)|skip
        rw[(Ndc hev).1];exact hfr
      ·exact g4 m hml (by rw[e];exact hfr) j Zaa Zaa
     rw[hend];simp
   ·rfl
theorem Njr{P:Program}{Gl:Gmap}(hC:NaV P Gl callE)(hE:Nb5 callE){n:Nat}{masks:List Nat}{Q:MExit→Now→Prop}(T:List Nat){ns:List Bool}(hO:NdV ml masks=true)(hN:NfC ml masks=ns){env:Env}(fr:∀ k,st.cnt≤k→st.get k=none)
 (h:WOC cfg callE T st.cnt ns ml st.cnt ⟨env,.leaf,⟨st.sto,st.cnt+8 * ml.length⟩⟩ fun c=>Q .nrm ⟨c.env,c.st⟩):WC cfg callE n (.chain ml masks none) ⟨env,st⟩ Q:=by
 subst hN;obtain⟨tr,c',h1,h2,h3,h4,h5⟩:=Njs ml _ _ _ h;have hd:=Nj6 hC hE hO h1 (Nat.le_refl _) (fun k hk _=>fr k hk) h4 h5;refine⟨.nrm,⟨c'.env,c'.st⟩,?_,h2⟩;simp only[Nao,Ncx,h1,hd,NcD,Bool.and_self,if_true,Option.map_some]
theorem Nne(cfg:Cfg)(callE:CallE)(T:List Nat)(k0:Nat)(ns:List Bool)(key:Nat)(c:Loc)(Q:Loc→Prop):WOC cfg callE T k0 ns [] key c Q↔Q c:=by cases ns<;>exact Iff.rfl
theorem Nbh(cfg:Cfg)(callE:CallE)(T:List Nat)(k0:Nat)(nd:Bool)(ns:List Bool)(d:MDst)(op:MOp)(r:List MOper)(key:Nat)(env loc:Env)(st:St)(Q:Loc→Prop) :
 WOC cfg callE T k0 (nd::ns) (⟨d,op,none⟩::r) key ⟨env,loc,st⟩ Q↔Nko nd T k0 key (Loc.rd ⟨env,loc,st⟩) st op∧WV (Nap cfg callE (Loc.rd ⟨env,loc,st⟩) st key op) fun v st'=>NcG nd T key op st v st'∧WOC cfg callE T k0 ns r (key+8) (Loc.wr ⟨env,loc,st'⟩ d v) Q:=Iff.trans Iff.rfl Iff.rfl
theorem NaY(cfg:Cfg)(callE:CallE)(T:List Nat)(k0:Nat)(nd:Bool)(ns:List Bool)(d:MDst)(op:MOp)(x:Arg)(w:Bool)(r:List MOper)(key:Nat)(env loc:Env)(st:St)(Q:Loc→Prop) :
 WOC cfg callE T k0 (nd::ns) (⟨d,op,some (x,w)⟩::r) key ⟨env,loc,st⟩ Q↔WG (Loc.rd ⟨env,loc,st⟩ x) w (Nko nd T k0 key (Loc.rd ⟨env,loc,st⟩) st op∧WV (Nap cfg callE (Loc.rd ⟨env,loc,st⟩) st key op) fun v st'=>NcG nd T key op st v st'∧WOC cfg callE T k0 ns r (key+8) (Loc.wr ⟨env,loc,st'⟩ d v) Q) (WOC cfg callE T k0 ns r (key+8) (Loc.wr ⟨env,loc,st⟩ d (.tup [])) Q):=by
 show(match NaA _ _ with|some true=>_|some false=>_|none=>False)↔_;unfold NaA WG;simp only[];cases Loc.rd ⟨env,loc,st⟩ x with
 |b y=>cases y<;>cases w<;>simp
 |tup vs=>cases vs<;>simp
 |_=>simp
@[congr] theorem NoO{T:List Nat}{k0:Nat}{ns:List Bool}{key':Nat}{c c':Loc}(h:key=key')(h2:c=c')(Q:Loc→Prop):WOC cfg callE T k0 ns ml key c Q=WOC cfg callE T k0 ns ml key' c' Q:=by rw[h,h2]
theorem Na8(key:Nat)(v:PV)(st:St):Neb false key v st=True:=by simp[Neb]
theorem Na9(key:Nat)(v:PV)(st:St):Neb true key v st=(PV.same NbK v v=true∧PObj.same (st.get key) (st.get key)=true):=by simp[Neb]
end
mutual
theorem PV.sm_rfl:∀ a:PV,PV.sm a a=true:=fun a=>by
 cases a<;>simp only[PV.sm,PV.smL_rfl]<;>simp
theorem PV.smL_rfl:∀ x:List PV,PV.smL x x=true
 |[]=>rfl
 |a::x=>by simp only[PV.smL,PV.sm_rfl a,PV.smL_rfl x,Bool.and_self]
end
theorem PV.same_fslR(n:Nat)(cs:List PV):PV.same NbK (.fsl n cs) (.fsl n cs)=true:=by
 show(n==n&&PV.smL cs cs)=true;simp[PV.smL_rfl]
def Nkb:MOp→Bool
 |.calle ..|.callv ..=>true
 |_=>false
theorem NiW{cfg:Cfg}{callE:CallE}{ρ:Arg→PV}{st:St}{key k:Nat}{m:MOp}(hl:Nkb m=false){r:PV}{st':St}(he:Nap cfg callE ρ st key m=some (r,st'))(hk:k≠key)(hn:st.get k=none):st'.get k=none:=by
 cases m with
 |call=>simp only[Nap]at he;exact Ndz hk hn he
 |calle=>simp[Nkb]at hl
 |callv=>simp[Nkb]at hl
 |callq =>
   simp only[Nap]at he
   repeat' split at he
   all_goals first|(simp at he;done)|exact NcY hk hn he
 |slice arr sz x lo hi =>
   cases arr<;>simp only[Nap]at he
   ·obtain⟨_,_,h⟩:=Option.map_eq_some_iff.1 he;cases h;exact hn
   ·repeat' split at he
    all_goals first|(simp at he;done)|(cases he;exact hn)
 |indexAddr arr sz x i =>
   cases arr<;>simp only[Nap]at he
   all_goals (repeat' split at he)
   all_goals first|(simp at he;done)|(cases he;exact hn)
 |conv c x =>
   simp only[Nap]at he
   repeat' split at he
   all_goals first|(simp at he;done)|(cases he;exact hn)|(cases he;exact NbD hn (fun e=>hk e.symm))|(obtain⟨_,_,h⟩:=Option.map_eq_some_iff.1 he;cases h;exact hn)
 |store n a x =>
   simp only[Nap]at he;obtain⟨_,h1,h⟩:=Option.map_eq_some_iff.1 he;cases h;exact Nfg hn h1
 |append =>
   simp only[Nap]at he
   repeat' split at he
   all_goals first|(simp at he;done)|exact Nb6 hk hn he
 |appstr =>
   simp only[Nap]at he
   repeat' split at he
   all_goals first|(simp at he;done)|exact Nb6 hk hn he
 |appb =>
   simp only[Nap]at he
   repeat' split at he
   all_goals first|(simp at he;done)|exact Nc2 hk hn he
 |appbs =>
   simp only[Nap]at he
   repeat' split at he
   all_goals first|(simp at he;done)|exact Nc2 hk hn he
 |ustr =>
   simp only[Nap]at he
   repeat' split at he
   all_goals first|(simp at he;done)|(cases he;exact hn)|(cases he;exact Nct hn)
 |copy =>
   simp only[Nap]at he
   repeat' split at he
   all_goals first|(simp at he;done)|exact Nfp hn he
 |mapup ck m k' v =>
   simp only[Nap]at he;split at he
   ·split at he
    ·rename_i hg;obtain⟨_,_,h⟩:=Option.map_eq_some_iff.1 he;cases h;exact Nb3 hn hg
    ·simp at he
   ·simp at he
 |snext x =>
   simp only[Nap]at he;split at he
   ·split at he
    ·rename_i hg;split at he<;>cases he
     ·exact Nb3 hn hg
     ·exact hn
    ·simp at he
   ·simp at he
 |_ =>
   simp only[Nap]at he
   repeat' split at he
   all_goals first|(simp at he;done)|(cases he;exact hn)|(cases he;exact NbD hn (fun e=>hk e.symm))|(obtain⟨_,_,h⟩:=Option.map_eq_some_iff.1 he;cases h;exact hn)
def Top(st:St):Prop:=∀ k,st.cnt≤k→st.get k=none
def NoM(callE:CallE):Prop:=∀ f args st r st',callE f args st=some (r,st')→Top st→Top st'
theorem Top.le{sto:Trie PObj}{c c':Nat}(h:Top ⟨sto,c⟩)(hc:c≤c'):Top ⟨sto,c'⟩:=fun k hk=>h k (by simp only at hk ⊢;omega)
theorem Nh6{cfg:Cfg}{P:Program}{Gl:Gmap}{callE:CallE}(hC:NaV P Gl callE)(hT:NoM callE){ρ:Arg→PV}{st:St}{key:Nat}{m:MOp}{r:PV}{st':St}(he:Nap cfg callE ρ st key m=some (r,st'))(hk:key<st.cnt)(ht:Top st):Top st':=by
 by_cases hl:Nkb m=true
 ·cases m with
  |calle =>
    simp only[Nap]at he;split at he
    ·simp at he
    ·exact hT _ _ _ _ _ he ht
  |callv =>
    simp only[Nap]at he;split at he
    ·split at he
     ·simp at he
     ·exact hT _ _ _ _ _ he ht
    ·split at he
     ·simp at he
     ·exact hT _ _ _ _ _ he ht
    ·simp at he
  |_=>simp[Nkb]at hl
 ·have hc:=Nbf hC he;intro k hk2;exact NiW (by simpa using hl) he Zaa (ht k Zaa)
theorem NeK{cfg:Cfg}{P:Program}{Gl:Gmap}{callE:CallE}(hC:NaV P Gl callE)(hT:NoM callE):∀ (ml:List MOper) (key:Nat) (c c':Loc),Na5 cfg callE ml key c=some c'→key+8 * ml.length≤c.st.cnt→Top c.st→Top c'.st
 |[],key,c,c',h,_,ht=>by simp[Na5]at h;subst h;exact ht
 |o::ml,key,c,c',h,hk,ht=>by
   simp only[List.length_cons]at hk;simp only[Na5]at h;split at h
   ·split at h
    ·rename_i v st hev;have h1:=Nbf hC hev;refine NeK hC hT ml _ _ _ h (by rw[Nbb];simp only[];omega) ?_;rw[Nbb];exact Nh6 hC hT hev Zaa ht
    ·simp at h
   ·exact NeK hC hT ml _ _ _ h (by rw[Nbb];omega) (by rw[Nbb];exact ht)
   ·simp at h
theorem NfX{cfg:Cfg}{P:Program}{Gl:Gmap}{callE:CallE}(hC:NaV P Gl callE)(hT:NoM callE):∀ (ml:List MOper) (key:Nat) (c c':Loc) (tr:List (Loc×PV)),NcP cfg callE ml key c=some (tr,c')→key+8 * ml.length≤c.st.cnt→Top c.st→Top c'.st
 |[],key,c,c',tr,h,_,ht=>by simp[NcP]at h;obtain⟨_,rfl⟩:=h;exact ht
 |o::ml,key,c,c',tr,h,hk,ht=>by
   simp only[List.length_cons]at hk;simp only[NcP]at h;split at h
   ·split at h
    ·rename_i v st hev;simp only[Option.map_eq_some_iff,Prod.mk.injEq]at h;obtain⟨⟨tr',c2⟩,he,rfl,rfl⟩:=h;have h1:=Nbf hC hev;refine NfX hC hT ml _ _ _ _ he (by rw[Nbb];simp only[];omega) ?_;rw[Nbb];exact Nh6 hC hT hev Zaa ht
    ·simp at h
   ·simp only[Option.map_eq_some_iff,Prod.mk.injEq]at h;obtain⟨⟨tr',c2⟩,he,rfl,rfl⟩:=h;exact NfX hC hT ml _ _ _ _ he (by rw[Nbb];omega) (by rw[Nbb];exact ht)
   ·simp at h
def NoN(ev:Now→Option (MExit×Now)):Prop:=∀ x e x',ev x=some (e,x')→Top x.st→Top x'.st
theorem NgL{ev:Now→Option (MExit×Now)}(h:NoN ev):∀ (fuel:Nat) (x:Now) (e:MExit) (x':Now),Ncf ev fuel x=some (e,x')→Top x.st→Top x'.st
 |0,x,e,x',he,_=>by simp[Ncf]at he
 |fuel+1,x,e,x',he,ht=>by
   simp only[Ncf]at he;split at he
   ·rename_i x1 h1;exact NgL h fuel _ _ _ he (h _ _ _ h1 ht)
   ·rename_i e1 x1 hne h1;simp only[Option.some.injEq,Prod.mk.injEq]at he;obtain⟨rfl,rfl⟩:=he;exact h _ _ _ h1 ht
   ·simp at he
theorem Nba{cfg:Cfg}{P:Program}{Gl:Gmap}{callE:CallE}(hC:NaV P Gl callE)(hT:NoM callE)(fuel:Nat):∀ m:MCode,NoN (Nao cfg callE fuel m)
 |.skip=>fun x e x' h ht=>by simp[Nao]at h;obtain⟨_,rfl⟩:=h;exact ht
 |.region ops=>fun x e x' h ht=>by
   simp only[Nao,Nbw,Option.map_eq_some_iff,Prod.mk.injEq]at h;obtain⟨y,⟨z,hz,rfl⟩,_,rfl⟩:=h;exact NeK hC hT _ _ _ _ hz (Nat.le_refl _) (fun k hk=>ht k (by simp only at hk;omega))
 |.chain ops masks sw=>fun x e x' h ht=>by
   simp only[Nao,Ncx,Option.map_eq_some_iff,Prod.mk.injEq]at h;obtain⟨y,hy,_,rfl⟩:=h;split at hy
   ·rename_i tr z hz;split at hy
    ·simp only[Option.some.injEq]at hy;subst hy;exact NfX hC hT _ _ _ _ _ hz (Nat.le_refl _) (fun k hk=>ht k (by simp only at hk;omega))
    ·simp at hy
   ·simp at hy
 |.seq a b=>fun x e x' h ht=>by
   simp only[Nao]at h;split at h
   ·rename_i x1 h1;exact Nba hC hT fuel b _ _ _ h (Nba hC hT fuel a _ _ _ h1 ht)
   ·exact Nba hC hT fuel a _ _ _ h ht
 |.cond c a b=>fun x e x' h ht=>by
   simp only[Nao]at h;split at h
   ·split at h
    ·exact Nba hC hT fuel a _ _ _ h ht
    ·exact Nba hC hT fuel b _ _ _ h ht
   ·simp at h
 |.block id a=>fun x e x' h ht=>by
   simp only[Nao]at h;split at h
   ·rename_i j x1 h1;split at h<;>(simp only[Option.some.injEq,Prod.mk.injEq]at h;obtain⟨_,rfl⟩:=h;exact Nba hC hT fuel a _ _ _ h1 ht)
   ·exact Nba hC hT fuel a _ _ _ h ht
 |.loop a=>fun x e x' h ht=>by
   simp only[Nao]at h;split at h
   ·simp at h
   ·exact NgL (Nba hC hT fuel a) _ _ _ _ h ht
 |.exit id=>fun x e x' h ht=>by simp[Nao]at h;obtain⟨_,rfl⟩:=h;exact ht
 |.scope a=>fun x e x' h ht=>by simp only[Nao]at h;exact Nba hC hT fuel a _ _ _ h ht
 |.ret=>fun x e x' h ht=>by simp[Nao]at h;obtain⟨_,rfl⟩:=h;exact ht
theorem Nh4{P:Program}{Gl:Gmap}{cfg:Cfg}(hcfg:CfgOK P Gl cfg):∀ fuel,NoM (Nay cfg fuel)
 |0=>fun f args st r st' h _=>by simp[Nay]at h
 |fuel+1=>by
   have hT:=Nh4 hcfg fuel;have hC:=NbZ hcfg fuel;intro f args st r st' h ht;simp only[Nay]at h;split at h
   ·rename_i m hm;unfold NdB at h;split at h
    ·simp at h
    ·rename_i e c' hne hev;have:=Nba hC hT _ _ _ _ _ hev ht;split at h<;>simp only[Option.some.injEq,Prod.mk.injEq,reduceCtorEq]at h
     ·obtain⟨_,rfl⟩:=h;exact this
     ·obtain⟨_,rfl⟩:=h;exact this
    ·simp at h
   ·simp at h
theorem Ngr{P:Program}{Gl:Gmap}{cfg:Cfg}(hcfg:CfgOK P Gl cfg){fuel n:Nat}{a:MCode}{x:Now}(ht:Top x.st){Q:MExit→Now→Prop}(h:WC cfg (Nay cfg fuel) n a x fun e x'=>Top x'.st→Q e x'):WC cfg (Nay cfg fuel) n a x Q:=by
 obtain⟨e,x',hev,hr⟩:=h;exact⟨e,x',hev,hr (Nba (NbZ hcfg fuel) (Nh4 hcfg fuel) n a _ _ _ hev ht)⟩
theorem Na6(nd:Bool)(T:List Nat)(key:Nat)(m:MOp)(st:St)(v:PV)(st':St)(h:NaB m=true):NcG nd T key m st v st'=Neb nd key v st':=by unfold NcG;rw[if_pos h]
theorem Na7(nd:Bool)(T:List Nat)(key:Nat)(m:MOp)(st:St)(v:PV)(st':St)(h:NaB m=false):NcG nd T key m st v st'=∀ k,k≠key→k∉T→st'.get k=st.get k:=by unfold NcG;rw[if_neg (by rw[h];simp)]
theorem NbR(nd:Bool)(T:List Nat)(k0 key:Nat)(ρ:Arg→PV)(st:St)(m:MOp)(h:NaB m=false):Nko nd T k0 key ρ st m=True:=by unfold Nko;simp[h]
theorem NbQ(nd:Bool)(T:List Nat)(k0 key:Nat)(ρ:Arg→PV)(st:St)(m:MOp)(h:NcW m=true)(hq:NaB m=true):Nko nd T k0 key ρ st m=(key∉T):=by
 unfold Nko;apply propext;constructor
 ·intro h1;exact(h1 hq).1 (by simp[h])
 ·intro h1 _;refine⟨fun _=>h1,fun _=>?_⟩;unfold Nf2;split<;>first|exact h|(simp[NcW]at h)
theorem Nca(nd:Bool)(T:List Nat)(k0 key:Nat)(ρ:Arg→PV)(st:St)(agg:Bool)(n:Nat)(a:Arg):Nko nd T k0 key ρ st (.load agg n a)=(key∉T∧(nd=true→∀ k o,ρ a=.ptr k o→k<k0∧k∉T)):=by
 unfold Nko;apply propext;constructor
 ·intro h1;have:=h1 rfl;exact⟨this.1 (by simp[Ni5]),this.2⟩
 ·intro h1 _;exact⟨fun _=>h1.1,h1.2⟩
end Go.Pe
