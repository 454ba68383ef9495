/-
 Code: may an operation be (that there is an answer), walked. No condition.
-/
import Derived.Test.YtafdphmhbnjfaaaGreatDoorZCoeC
set_option linter.unusedVariables false
set_option linter.unusedSimpArgs false
set_option maxHeartbeats 8000000
open Nat renaming reduceAdd → rA,reduceMul → rB,reduceLT → rC,reduceEqDiff → rD,reduceLeDiff → rE
namespace Go.Pe
open Go Go.Am Go.RowKit
def exI:Ex:=.mk 1 [] 0 true []
theorem No3(n:Nat):Exs.cs (List.replicate (n+1) exI)=Exs.cs (List.replicate n exI)++[.i .u8 ((1:Nat):Int),.s [],.i .i64 ((0:Nat):Int),.nsl]:=by
 rw[Exs.flat,Exs.flat,List.replicate_succ',List.flatMap_append];rfl
theorem NgT{st:St}{f:Nat}:∀ {cs:List PV},cs.all PV.flat=true→mapO (Go.Pe.deep st (f+1)) cs=some cs
 |[],_=>rfl
 |c::r,h=>by
   simp only[List.all_cons,Bool.and_eq_true]at h;have e:Go.Pe.deep st (f+1) c=some c:=(by cases c<;>first|rfl|(simp[PV.flat]at h;done));simp only[mapO,e,NgT h.2]
theorem NgE{st:St}{f k sz n:Nat}{cs:List PV}(hk:st.get k=some (.cells cs false))(hl:cs.length=n * sz)(hf:cs.all PV.flat=true):Go.Pe.deep st (f+2) (.rsl k sz 0 n)=some (.fsl n cs):=by
 unfold Go.Pe.deep;simp only[hk,cut?,Nat.zero_add,List.drop_zero];rw[if_pos Zaa,←hl,List.take_length];simp only[NgT hf];rfl
theorem Nlq(D:List Dc):(D.flatMap Dc.cs).all PV.flat=true:=by
 simp only[List.all_flatMap,List.all_eq_true];intro d _ v hv;simp only[Dc.cs,List.mem_cons,List.not_mem_nil,or_false]at hv;rcases hv with rfl|rfl|rfl|rfl|rfl<;>rfl
theorem Nly(n:Nat):(Exs.cs (List.replicate n exI)).all PV.flat=true:=by
 rw[Exs.flat];simp only[List.all_flatMap,List.all_eq_true];intro d hd v hv;rw[(List.mem_replicate.1 hd).2]at hv;have:exI.cs=[.i .u8 ((1:Nat):Int),.s [],.i .i64 ((0:Nat):Int),.nsl]:=rfl;rw[this]at hv;simp only[List.mem_cons,List.not_mem_nil,or_false]at hv;rcases hv with rfl|rfl|rfl|rfl<;>rfl
def pgD(D:List Dc)(o:UInt8)(s2:List UInt8)(za:Bool)(n:Nat):Pg:=⟨false,D,false,[⟨[97],false,[.mk 1 o [97] s2 0 za (List.replicate n exI) true [] true [] 0],0⟩]⟩
theorem NjH{st:St}{Q2 Kt Ks n:Nat}{D:List Dc}{o:UInt8}{s2:List UInt8}{av:PV}(hQ:st.get Q2=some (.cells (D.flatMap Dc.cs) false))(hT:st.get Kt=some (.cells [.s [97],.rsl Ks 9 0 1,.i .i64 ((0:Nat):Int)] false))(hS:st.get Ks=some (.cells [.i .u8 ((1:Nat):Int),.i .u8 (o.toNat:Int),.s [97],.s s2,.i .i64 ((0:Nat):Int),av,.nsl,.nsl,.i .i64 ((0:Nat):Int)] false))(hav:Own st 4 av n (Exs.cs (List.replicate n exI))) :
 ∃ za,Go.Pe.deep st 12 (.agg [.rsl Q2 5 0 D.length,.rsl Kt 3 0 1])=some (.agg (Pg.cs (pgD D o s2 za n))):=by
 have h1:Go.Pe.deep st 11 (.rsl Q2 5 0 D.length)=some (.fsl D.length (D.flatMap Dc.cs)):=NgE hQ (NaM Dc.cs_len D) (Nlq D);have h2:∃ za,Go.Pe.deep st 9 av=some (slV za n (Exs.cs (List.replicate n exI))):=by
  rcases hav with⟨rfl,rfl,-⟩|⟨k,rfl,hk,hl,-⟩
  ·exact⟨true,rfl⟩
  ·exact⟨false,(NgE hk hl (Nly n)).trans rfl⟩
 obtain⟨za,h2⟩:=h2;refine⟨za,?_⟩;have h3:Go.Pe.deep st 10 (.rsl Ks 9 0 1)=some (.fsl 1 [.i .u8 ((1:Nat):Int),.i .u8 (o.toNat:Int),.s [97],.s s2,.i .i64 ((0:Nat):Int),slV za n (Exs.cs (List.replicate n exI)),.nsl,.nsl,.i .i64 ((0:Nat):Int)]):=by
  show Go.Pe.deep st (9+1) _=_;unfold Go.Pe.deep;simp only[hS,cut?,Nat.zero_add,List.drop_zero];have q1:∀ k n,Go.Pe.deep st 9 (.i k n)=some (.i k n):=fun _ _=>rfl;have q2:∀ s,Go.Pe.deep st 9 (.s s)=some (.s s):=fun _=>rfl;have q3:Go.Pe.deep st 9 .nsl=some .nsl:=rfl;simp[mapO,h2,q1,q2,q3]
 have h4:Go.Pe.deep st 11 (.rsl Kt 3 0 1)=some (.fsl 1 [.s [97],.fsl 1 [.i .u8 ((1:Nat):Int),.i .u8 (o.toNat:Int),.s [97],.s s2,.i .i64 ((0:Nat):Int),slV za n (Exs.cs (List.replicate n exI)),.nsl,.nsl,.i .i64 ((0:Nat):Int)],.i .i64 ((0:Nat):Int)]):=by
  show Go.Pe.deep st (10+1) _=_;unfold Go.Pe.deep;simp only[hT,cut?,Nat.zero_add,List.drop_zero];have q1:∀ k n,Go.Pe.deep st 10 (.i k n)=some (.i k n):=fun _ _=>rfl;have q2:∀ s,Go.Pe.deep st 10 (.s s)=some (.s s):=fun _=>rfl;have q3:Go.Pe.deep st 10 .nsl=some .nsl:=rfl;simp[mapO,h3,q1,q2,q3]
 show(mapO (Go.Pe.deep st 11) [PV.rsl Q2 5 0 D.length,PV.rsl Kt 3 0 1]).map PV.agg=_;simp only[mapO,h1,h4];unfold pgD Pg.cs;simp[Td.cs,Sms.cs,Sm.cs,slV]
theorem Njy{cfg:Cfg}(hc:CfgZ cfg){q n:Nat}{D:List Dc}{o:UInt8}{s2:List UInt8}{za:Bool}(hD:D.length≤2)(hn:n * 56≤140737488351232)(hfu:n+60≤q):∃ a b,Nai cfg (NaK cfg (q+3)) 44 [.agg (Pg.cs (pgD D o s2 za n))]=some (.agg [.i .i64 a,.i .i64 b]):=by
 have hsz:Tds.size (pgD D o s2 za n).T+(pgD D o s2 za n).D.length≤n+10:=by
  have he:∀ m,Exs.size (List.replicate m exI)=m:=by
   intro m
   induction m with
   |zero=>rfl
   |succ m ih=>rw[List.replicate_succ,Exs.size,ih];show Ex.size (.mk 1 [] 0 true [])+m=_;rw[Ex.size,Exs.size];omega
  simp only[pgD,Tds.size,Sms.size,Sm.size,he];omega
 exact⟨_,_,NaE hc.k9 (Ne6 _ _) (fun _=>rfl) (Nlg hc.toCfgM Zaa Zaa)⟩
theorem Nnv{cfg:Cfg}(hc:CfgZ cfg){fuel kd:Nat}{K:UInt8}(hK:K.toNat=kd){ins:In}{lo:Bool}{st:St}(hA:ins.A.length * 56≤140737488351232)(hfu:ins.A.length+100≤fuel) :
 ∃ r st',NaK cfg (fuel+4) 114 [.i .u8 (kd:Int),.agg (In.cs ins),.b lo] st=some (r,st')∧∃ b,r=.b b:=by
 refine NaB (hc.fn _ _ (by kernel_rfl):cfg.fn 114=some m114) ?_;delta m114 Qa Qr Qf Qg Ql Qt Qn Qs Qk Qm Qh Qi Qu Qv Qo Qw In.cs;have hlv:=NaC ins.z ins.A.length (Exs.cs ins.A);obtain⟨X,hX⟩:∃ X:PV→Prop,X=fun r=>∃ b,r=.b b:=⟨_,rfl⟩
 simp only[show ∀ r,(∃ b,r=PV.b b)=X r from fun _=>by rw[hX]];have fin:∀ b,X (.b b):=fun b=>by subst hX;exact⟨b,rfl⟩
 obtain⟨sto0,c0⟩:=st;simp only[Nao]
 iterate 2
  (try rw[Z0]);(try simp(disch:=first|omega|rfl|assumption)only[↓Yaa,Yab,Nae,Naa,rA,rB,rC,rD,reduceIte,unP,rE,Nag,Naf])
 refine NaJ (fun x=>∃ (A:Nat) (S:Nat),A<x.st.cnt∧(A<S)∧S<x.st.cnt∧x.env.get 0=.i .u8 (kd:Int)∧x.env.get 2=.b lo∧x.env.get 4=.ptr A 0∧x.env.get 7=.ptr S 0∧x.st.get A=some (.cells [.i .u8 (ins.D.toNat:Int),.i .u8 (ins.O.toNat:Int),.i .i64 ins.J,.i .i64 ins.I,.i .i64 ins.T,.i .i64 ins.N,slV ins.z ins.A.length (Exs.cs ins.A)] false)∧x.st.get S=some (.cells [.i .u8 ((1:Nat):Int),.i .u8 (ins.O.toNat:Int),.s [97],.s [],.i .i64 ((0:Nat):Int),.nsl,.nsl,.nsl,.i .i64 ((0:Nat):Int)] false)) ?_ ?_
 ·refine⟨c0,c0+40,?_,?_,?_,Zab,Zab,Zab,Zab,?_,?_⟩<;>first|with_reducible rfl|with_reducible assumption|exact kA _|exact kS _|omega|(simp only[Z0L_,Nax];omega)|(simp only;omega)|assumption|rfl|(simp;omega)|(simp;done)|(simp(disch:=omega)only[Nar,Nas,Yaf];first|done|with_reducible rfl|with_reducible assumption)
 rintro⟨env,⟨sto,c⟩⟩ ⟨A,S,bA,oS,bS,g0,g2,g4,g7,kA,kS⟩;try simp only at bA bS g0 g2 g4 g7
 replace kA:∀ n',St.get ⟨sto,n'⟩ A=some (.cells [.i .u8 (ins.D.toNat:Int),.i .u8 (ins.O.toNat:Int),.i .i64 ins.J,.i .i64 ins.I,.i .i64 ins.T,.i .i64 ins.N,slV ins.z ins.A.length (Exs.cs ins.A)] false):=fun _=>kA;replace kS:∀ n',St.get ⟨sto,n'⟩ S=some (.cells [.i .u8 ((1:Nat):Int),.i .u8 (ins.O.toNat:Int),.s [97],.s [],.i .i64 ((0:Nat):Int),.nsl,.nsl,.nsl,.i .i64 ((0:Nat):Int)] false):=fun _=>kS;refine NaX (fun x=>A<x.st.cnt∧x.env.get 0=.i .u8 (kd:Int)∧x.env.get 2=.b lo∧x.env.get 4=.ptr A 0∧x.env.get 7=.ptr S 0∧x.st.get A=some (.cells [.i .u8 (ins.D.toNat:Int),.i .u8 (ins.O.toNat:Int),.i .i64 ins.J,.i .i64 ins.I,.i .i64 ins.T,.i .i64 ins.N,slV ins.z ins.A.length (Exs.cs ins.A)] false)∧S<x.st.cnt∧(A<S)∧(∃ av,x.st.get S=some (.cells [.i .u8 ((1:Nat):Int),.i .u8 (ins.O.toNat:Int),.s [97],.s [],.i .i64 ((0:Nat):Int),av,.nsl,.nsl,.i .i64 ((0:Nat):Int)] false)∧Own x.st 4 av ins.A.length (Exs.cs (List.replicate ins.A.length exI)))) ?_ ?_
 ·intro K1 hK1
  iterate 2
   (try rw[Z0]);(try simp(disch:=first|omega|rfl|assumption)only[↓Yaa,Yab,Nae,Naa,rA,rB,rC,rD,reduceIte,unP,rE,g0,g2,g4,g7,kA,kS,hlv])
  refine Z9 (k:=ins.A.length - 0) (fun m x=>∃ (i:Nat),m=ins.A.length - i∧A<x.st.cnt∧x.env.get 0=.i .u8 (kd:Int)∧x.env.get 2=.b lo∧x.env.get 4=.ptr A 0∧x.env.get 7=.ptr S 0∧x.st.get A=some (.cells [.i .u8 (ins.D.toNat:Int),.i .u8 (ins.O.toNat:Int),.i .i64 ins.J,.i .i64 ins.I,.i .i64 ins.T,.i .i64 ins.N,slV ins.z ins.A.length (Exs.cs ins.A)] false)∧S<x.st.cnt∧x.env.get 16=.i .i64 (ins.A.length:Int)∧x.env.get 17=.i .i64 (i:Int)∧(i≤ins.A.length)∧(∃ av,x.st.get S=some (.cells [.i .u8 ((1:Nat):Int),.i .u8 (ins.O.toNat:Int),.s [97],.s [],.i .i64 ((0:Nat):Int),av,.nsl,.nsl,.i .i64 ((0:Nat):Int)] false)∧Own x.st 4 av i (Exs.cs (List.replicate i exI)))) ?_ ?_ Zaa
  ·clear bA bS g0 g2 g4 g7 kA kS;rintro m ⟨env,⟨sto,c⟩⟩ ⟨i,rfl,bA,g0,g2,g4,g7,kA,bS,g16,g17,hi,sv⟩;try simp only at bA g0 g2 g4 g7 bS g16 g17 sv
   replace kA:∀ n',St.get ⟨sto,n'⟩ A=some (.cells [.i .u8 (ins.D.toNat:Int),.i .u8 (ins.O.toNat:Int),.i .i64 ins.J,.i .i64 ins.I,.i .i64 ins.T,.i .i64 ins.N,slV ins.z ins.A.length (Exs.cs ins.A)] false):=fun _=>kA;obtain⟨av,kS,ho⟩:=sv;have kS':∀ n',St.get ⟨sto,n'⟩ S=_:=fun _=>kS;by_cases hil:i<ins.A.length
   ·skip
    iterate 4
     (try rw[Z0]);(try simp(disch:=first|omega|rfl|assumption)only[↓Yaa,Yab,Nae,Naa,rA,rB,rC,rD,reduceIte,unP,rE,g0,g2,g4,g7,kA,g16,g17,kS',Nay])
    have hlt:=ho.lt;have hpn:∀ (o:Option PObj) (n1 n2 j:Nat),j≠c+32→St.get (St.put ⟨sto,n1⟩ (c+32) o) j=St.get ⟨sto,n2⟩ j:=fun o n1 n2 j hj=>by rw[Yae (Ne.symm hj)];rfl
    refine Ncw (ho.move (by simp only[Z0L_];omega) fun j hj hl=>hpn _ _ _ j (by have:=hlt j hj;simp only at this;omega)) (by simp only[Z0L_];omega) (fun h=>by have:=hlt _ h;simp only at this;omega) rfl Zaa (by unfold Na0;omega) ?_;intro v' st' hown hcnt hkey hj;simp only[Z0L_]at hcnt;have hSav:S∉keyOf av:=fun h=>by
     rcases ho with⟨rfl,_⟩|⟨kq,rfl,hq,hql,_⟩
     ·simp[keyOf]at h
     ·simp only[keyOf,List.mem_singleton]at h;subst h;rw[kS]at hq;simp only[Sj,PObj.cells.injEq,and_true]at hq;rw[←hq]at hql;simp at hql;omega
    have hAav:A∉keyOf av:=fun h=>by
     rcases ho with⟨rfl,_⟩|⟨kq,rfl,hq,hql,_⟩
     ·simp[keyOf]at h
     ·simp only[keyOf,List.mem_singleton]at h;subst h;rw[kA c]at hq;simp only[Sj,PObj.cells.injEq,and_true]at hq;rw[←hq]at hql;simp at hql;omega
    have hS2:st'.get S=_:=(hj S Zaa hSav).trans ((hpn _ _ c S Zaa).trans kS);have hA2:st'.get A=_:=(hj A Zaa hAav).trans ((hpn _ _ c A Zaa).trans (kA c));have hv1:v'.one=true∧v'.cells=[v']:=by rcases hown with⟨rfl,_⟩|⟨_,rfl,_⟩<;>exact⟨rfl,rfl⟩
    iterate 4
     (try rw[Z0]);(try simp(disch:=first|omega|rfl|assumption)only[↓Yaa,Yab,Nae,Naa,rA,rB,rC,rD,reduceIte,unP,rE,g0,g2,g4,g7,kA,g16,g17,hS2,hv1.1,hv1.2])
    have hSv:S∉keyOf v':=fun h=>by have:=hkey S h;omega
    exact⟨ins.A.length - (i+1),by omega,i+1,rfl,hA2,rfl,by omega,v',rfl,by
     rw[No3];exact(hown.put (o:=some (.cells [.i .u8 ((1:Nat):Int),.i .u8 (ins.O.toNat:Int),.s [97],.s [],.i .i64 ((0:Nat):Int),v',.nsl,.nsl,.i .i64 ((0:Nat):Int)] false)) hSv).move (by show st'.cnt≤_;first|omega|(simp only;omega)) fun _ _ _=>rfl⟩
   ·skip
    iterate 4
     (try rw[Z0]);(try simp(disch:=first|omega|rfl|assumption)only[↓Yaa,Yab,Nae,Naa,rA,rB,rC,rD,reduceIte,unP,rE,g0,g2,g4,g7,kA,g16,g17,kS'])
    have hie:i=ins.A.length:=(by omega);refine hK1 _ ⟨?_,(by simp[Yad,g0]),(by simp[Yad,g2]),(by simp[Yad,g4]),(by simp[Yad,g7]),?_,?_,?_,⟨av,kS,hie▸ho.move (by show c≤c+8;omega) fun _ _ _=>rfl⟩⟩<;>first|with_reducible rfl|with_reducible assumption|exact kA _|omega|(simp only[Z0L_,Nax];omega)|(simp only;omega)|(simp(disch:=omega)only[Nar,Nas,Yaf,kA];first|done|with_reducible rfl|with_reducible assumption)|assumption|rfl|(simp;omega)|(simp;done)
  ·skip
   refine⟨0,rfl,?_,?_,?_,?_,?_,?_,?_,Zaf,Zaf,?_,⟨.nsl,kS _,Own.nil _ _⟩⟩<;>first|with_reducible rfl|with_reducible assumption|exact kA _|omega|(simp only[Z0L_,Nax];omega)|(simp only;omega)|(simp[Yad,g0,g2,g4,g7]<;>omega)|(simp(disch:=omega)only[Nar,Nas,Yaf,kA,kS];first|done|with_reducible rfl|with_reducible assumption)|assumption|rfl|(simp;omega)|(simp;done)
 clear bA bS g0 g2 g4 g7 kA kS;rintro⟨env,⟨sto,c⟩⟩ ⟨bA,g0,g2,g4,g7,kA,bS,oS,sv⟩;try simp only at bA g0 g2 g4 g7 bS sv
 replace kA:∀ n',St.get ⟨sto,n'⟩ A=some (.cells [.i .u8 (ins.D.toNat:Int),.i .u8 (ins.O.toNat:Int),.i .i64 ins.J,.i .i64 ins.I,.i .i64 ins.T,.i .i64 ins.N,slV ins.z ins.A.length (Exs.cs ins.A)] false):=fun _=>kA;obtain⟨av,kS,ho⟩:=sv;have kS':∀ n',St.get ⟨sto,n'⟩ S=_:=fun _=>kS;refine NaX (fun x=>A<x.st.cnt∧x.env.get 0=.i .u8 (kd:Int)∧x.env.get 2=.b lo∧x.env.get 4=.ptr A 0∧x.env.get 7=.ptr S 0∧x.st.get A=some (.cells [.i .u8 (ins.D.toNat:Int),.i .u8 (ins.O.toNat:Int),.i .i64 ins.J,.i .i64 ins.I,.i .i64 ins.T,.i .i64 ins.N,slV ins.z ins.A.length (Exs.cs ins.A)] false)∧S<x.st.cnt∧(∃ s2,x.st.get S=some (.cells [.i .u8 ((1:Nat):Int),.i .u8 (ins.O.toNat:Int),.s [97],.s s2,.i .i64 ((0:Nat):Int),av,.nsl,.nsl,.i .i64 ((0:Nat):Int)] false))∧(Own x.st 4 av ins.A.length (Exs.cs (List.replicate ins.A.length exI)))) ?_ ?_
 ·intro K2 hK2;by_cases hI:ins.I=-1
  ·have bI:(ins.I != -((1:Nat):Int))=false:=by rw[hI];rfl
   iterate 4
    (try rw[Z0]);(try simp(disch:=first|omega|rfl|assumption)only[↓Yaa,Yab,Nae,Naa,rA,rB,rC,rD,reduceIte,unP,rE,g0,g2,g4,g7,kA,kS',bI])
   refine hK2 _ ⟨?_,(by simp[Yad,g0]),(by simp[Yad,g2]),(by simp[Yad,g4]),(by simp[Yad,g7]),?_,?_,⟨[],kS⟩,(ho.move (by show c≤c+24;omega) fun _ _ _=>rfl)⟩<;>first|with_reducible rfl|with_reducible assumption|exact kA _|omega|(simp only[Z0L_,Nax];omega)|(simp only;omega)|(simp(disch:=omega)only[Nar,Nas,Yaf,kA];first|done|with_reducible rfl|with_reducible assumption)
  ·have bI:(ins.I != -((1:Nat):Int))=true:=by simpa using hI
   iterate 4
    (try rw[Z0]);(try simp(disch:=first|omega|rfl|assumption)only[↓Yaa,Yab,Nae,Naa,rA,rB,rC,rD,reduceIte,unP,rE,g0,g2,g4,g7,kA,kS',bI])
   have hSav:S∉keyOf av:=fun h=>by
    rcases ho with⟨rfl,_⟩|⟨kq,rfl,hq,hql,_⟩
    ·simp[keyOf]at h
    ·simp only[keyOf,List.mem_singleton]at h;subst h;rw[kS]at hq;simp only[Sj,PObj.cells.injEq,and_true]at hq;rw[←hq]at hql;simp at hql;omega
   refine hK2 _ ⟨?_,(by simp[Yad,g0]),(by simp[Yad,g2]),(by simp[Yad,g4]),(by simp[Yad,g7]),(by rw[Yae (by omega)];exact kA _),?_,⟨[97],by rw[Yaf]⟩,((ho.cnt (show c≤c+40 by omega)).put hSav)⟩<;>first|omega|(simp only[Z0L_,Nax];omega)|(simp only;omega)
 clear bA g0 g2 g4 g7 kA bS;rintro⟨env,⟨sto,c⟩⟩ ⟨bA,g0,g2,g4,g7,kA,bS,sw,so⟩;try simp only at bA g0 g2 g4 g7 bS sw so
 replace kA:∀ n',St.get ⟨sto,n'⟩ A=some (.cells [.i .u8 (ins.D.toNat:Int),.i .u8 (ins.O.toNat:Int),.i .i64 ins.J,.i .i64 ins.I,.i .i64 ins.T,.i .i64 ins.N,slV ins.z ins.A.length (Exs.cs ins.A)] false):=fun _=>kA;obtain⟨s2,kS⟩:=sw;have kS':∀ n',St.get ⟨sto,n'⟩ S=_:=fun _=>kS;have hlt:=so.lt;have ho2:∀ (o1 o2 o3:Option PObj) (n1 n2:Nat),c+56≤n2→Own (St.put ⟨(St.put (St.put ⟨sto,n1⟩ (c+16) o1) (c+16) o2).sto,n2⟩ (c+40) o3) 4 av ins.A.length (Exs.cs (List.replicate ins.A.length exI)):=fun o1 o2 o3 n1 n2 hn=>so.move (by show c≤n2;omega) fun j hj hl=>by
  have:=hlt j hj;simp only at this;rw[Yae Zaa];exact NkC Zaa
 iterate 2
  (try rw[Z0]);(try simp(disch:=first|omega|rfl|assumption)only[↓Yaa,Yab,Nae,Naa,rA,rB,rC,rD,reduceIte,unP,rE,g0,g2,g4,g7,kA])
 refine NaJ (fun x=>∃ (Q:Nat),A<x.st.cnt∧x.env.get 0=.i .u8 (kd:Int)∧x.env.get 2=.b lo∧x.env.get 4=.ptr A 0∧x.env.get 7=.ptr S 0∧x.st.get A=some (.cells [.i .u8 (ins.D.toNat:Int),.i .u8 (ins.O.toNat:Int),.i .i64 ins.J,.i .i64 ins.I,.i .i64 ins.T,.i .i64 ins.N,slV ins.z ins.A.length (Exs.cs ins.A)] false)∧S<x.st.cnt∧(S<Q)∧Q<x.st.cnt∧x.st.get S=some (.cells [.i .u8 ((1:Nat):Int),.i .u8 (ins.O.toNat:Int),.s [97],.s s2,.i .i64 ((0:Nat):Int),av,.nsl,.nsl,.i .i64 ((0:Nat):Int)] false)∧x.env.get 9=.rsl Q 5 0 1∧x.st.get Q=some (.cells [.i .u8 (kd:Int),.s [97],.i .i64 ((0:Nat):Int),.s [],.i .i64 ((0:Nat):Int)] false)∧(∀ j,j∈keyOf av→j<Q)∧(Own x.st 4 av ins.A.length (Exs.cs (List.replicate ins.A.length exI)))) ?_ ?_
 ·refine⟨c+40,?_,?_,?_,?_,?_,?_,?_,?_,?_,(by simp(disch:=omega)only[Nar,Nas];exact kS' _),?_,?_,(fun j hj=>by have:=hlt j hj;simp only at this;omega),(ho2 _ _ _ _ _ Zaa)⟩<;>first|with_reducible rfl|with_reducible assumption|exact kA _|exact kQ _|omega|(simp only[Z0L_,Nax];omega)|(simp only;omega)|(simp[Yad,g0,g2,g4,g7]<;>omega)|(simp(disch:=omega)only[Nar,Nas,Yaf,kA];first|done|with_reducible rfl|with_reducible assumption)|assumption|rfl|(simp;omega)|(simp;done)
 clear bA g0 g2 g4 g7 kA bS;rintro⟨env,⟨sto,c⟩⟩ ⟨Q,bA,g0,g2,g4,g7,kA,bS,oQ,bQ,kS,g9,kQ,qv,so⟩;try simp only at bA g0 g2 g4 g7 bS bQ g9 so
 replace kA:∀ n',St.get ⟨sto,n'⟩ A=some (.cells [.i .u8 (ins.D.toNat:Int),.i .u8 (ins.O.toNat:Int),.i .i64 ins.J,.i .i64 ins.I,.i .i64 ins.T,.i .i64 ins.N,slV ins.z ins.A.length (Exs.cs ins.A)] false):=fun _=>kA;replace kS:∀ n',St.get ⟨sto,n'⟩ S=some (.cells [.i .u8 ((1:Nat):Int),.i .u8 (ins.O.toNat:Int),.s [97],.s s2,.i .i64 ((0:Nat):Int),av,.nsl,.nsl,.i .i64 ((0:Nat):Int)] false):=fun _=>kS;replace kQ:∀ n',St.get ⟨sto,n'⟩ Q=some (.cells [.i .u8 (kd:Int),.s [97],.i .i64 ((0:Nat):Int),.s [],.i .i64 ((0:Nat):Int)] false):=fun _=>kQ;refine NaX (fun x=>A<x.st.cnt∧x.env.get 0=.i .u8 (kd:Int)∧x.env.get 2=.b lo∧x.env.get 4=.ptr A 0∧x.env.get 7=.ptr S 0∧x.st.get A=some (.cells [.i .u8 (ins.D.toNat:Int),.i .u8 (ins.O.toNat:Int),.i .i64 ins.J,.i .i64 ins.I,.i .i64 ins.T,.i .i64 ins.N,slV ins.z ins.A.length (Exs.cs ins.A)] false)∧S<x.st.cnt∧x.st.get S=some (.cells [.i .u8 ((1:Nat):Int),.i .u8 (ins.O.toNat:Int),.s [97],.s s2,.i .i64 ((0:Nat):Int),av,.nsl,.nsl,.i .i64 ((0:Nat):Int)] false)∧(Own x.st 4 av ins.A.length (Exs.cs (List.replicate ins.A.length exI)))∧(∃ (Q2:Nat) (D:List Dc),x.env.get 9=.rsl Q2 5 0 D.length∧x.st.get Q2=some (.cells (D.flatMap Dc.cs) false)∧D.length≤2∧Q2<x.st.cnt)) ?_ ?_
 ·intro K3 hK3;by_cases k3:kd=3
  ·have f3:((kd:Int)==Int.ofNat 3)=true:=by simp;omega
   iterate 9
    (try rw[Z0]);(try simp(disch:=first|omega|rfl|assumption)only[↓Yaa,Yab,Nae,Naa,rA,rB,rC,rD,reduceIte,unP,rE,g0,g2,g4,g7,kA,kS,g9,kQ,f3])
   refine hK3 _ ⟨?_,(by simp[Yad,g0]),(by simp[Yad,g2]),(by simp[Yad,g4]),(by simp[Yad,g7]),(by rw[Yae (by omega)];exact kA _),?_,(by rw[Yae (by omega)];exact kS _),((so.cnt (Nat.le_add_right c _)).put (fun h=>by have:=qv _ h;omega)),⟨Q,[⟨K,[97],1,[],0⟩],by simp[Yad,g9],by rw[Yaf,←hK];rfl,by simp,by first|omega|(simp only[Z0L_];omega)|(simp only;omega)⟩⟩<;>first|omega|(simp only[Z0L_,Nax];omega)|(simp only;omega)
  have f3:((kd:Int)==Int.ofNat 3)=false:=by simp;omega
  by_cases k8:kd=8
  ·have f8:((kd:Int)==Int.ofNat 8)=true:=by simp;omega
   iterate 9
    (try rw[Z0]);(try simp(disch:=first|omega|rfl|assumption)only[↓Yaa,Yab,Nae,Naa,rA,rB,rC,rD,reduceIte,unP,rE,g0,g2,g4,g7,kA,kS,g9,kQ,f3,f8])
   refine hK3 _ ⟨?_,(by simp[Yad,g0]),(by simp[Yad,g2]),(by simp[Yad,g4]),(by simp[Yad,g7]),(by rw[Yae (by omega)];exact kA _),?_,(by rw[Yae (by omega)];exact kS _),((so.cnt (Nat.le_add_right c _)).put (fun h=>by have:=qv _ h;omega)),⟨Q,[⟨K,[97],1,[],0⟩],by simp[Yad,g9],by rw[Yaf,←hK];rfl,by simp,by first|omega|(simp only[Z0L_];omega)|(simp only;omega)⟩⟩<;>first|omega|(simp only[Z0L_,Nax];omega)|(simp only;omega)
  have f8:((kd:Int)==Int.ofNat 8)=false:=by simp;omega
  by_cases k5:kd=5
  ·have f5:((kd:Int)==Int.ofNat 5)=true:=by simp;omega
   iterate 9
    (try rw[Z0]);(try simp(disch:=first|omega|rfl|assumption)only[↓Yaa,Yab,Nae,Naa,rA,rB,rC,rD,reduceIte,unP,rE,g0,g2,g4,g7,kA,kS,g9,kQ,f3,f8,f5])
   refine hK3 _ ⟨?_,(by simp[Yad,g0]),(by simp[Yad,g2]),(by simp[Yad,g4]),(by simp[Yad,g7]),(by rw[Yae (by omega)];exact kA _),?_,(by rw[Yae (by omega)];exact kS _),((so.cnt (Nat.le_add_right c _)).put (fun h=>by have:=qv _ h;omega)),⟨Q,[⟨K,[97],1,[],0⟩],by simp[Yad,g9],by rw[Yaf,←hK];rfl,by simp,by first|omega|(simp only[Z0L_];omega)|(simp only;omega)⟩⟩<;>first|omega|(simp only[Z0L_,Nax];omega)|(simp only;omega)
  have f5:((kd:Int)==Int.ofNat 5)=false:=by simp;omega
  by_cases k4:kd=4
  ·have f4:((kd:Int)==Int.ofNat 4)=true:=by simp;omega
   iterate 9
    (try rw[Z0]);(try simp(disch:=first|omega|rfl|assumption)only[↓Yaa,Yab,Nae,Naa,rA,rB,rC,rD,reduceIte,unP,rE,g0,g2,g4,g7,kA,kS,g9,kQ,f3,f8,f5,f4])
   refine hK3 _ ⟨?_,(by simp[Yad,g0]),(by simp[Yad,g2]),(by simp[Yad,g4]),(by simp[Yad,g7]),(by rw[Yae (by omega)];exact kA _),?_,(by rw[Yae (by omega)];exact kS _),((so.cnt (Nat.le_add_right c _)).put (fun h=>by have:=qv _ h;omega)),⟨c+96,[⟨1,[98],0,[],0⟩,⟨K,[97],0,[98],0⟩],by simp[Yad],by rw[Yaf,←hK];rfl,by simp,by first|omega|(simp only[Z0L_];omega)|(simp only;omega)⟩⟩<;>first|omega|(simp only[Z0L_,Nax];omega)|(simp only;omega)
  have f4:((kd:Int)==Int.ofNat 4)=false:=by simp;omega
  iterate 9
   (try rw[Z0]);(try simp(disch:=first|omega|rfl|assumption)only[↓Yaa,Yab,Nae,Naa,rA,rB,rC,rD,reduceIte,unP,rE,g0,g2,g4,g7,kA,kS,g9,kQ,f3,f8,f5,f4])
  refine hK3 _ ⟨?_,(by simp[Yad,g0]),(by simp[Yad,g2]),(by simp[Yad,g4]),(by simp[Yad,g7]),?_,?_,?_,(so.cnt (Nat.le_add_right c _)),⟨Q,[⟨K,[97],0,[],0⟩],by simp[Yad,g9],by rw[kQ,←hK];rfl,by simp,by first|omega|(simp only[Z0L_];omega)|(simp only;omega)⟩⟩<;>first|with_reducible rfl|with_reducible assumption|exact kA _|exact kS _|omega|(simp only[Z0L_,Nax];omega)|(simp only;omega)|(simp(disch:=omega)only[Nar,Nas,Yaf,kA,kS,kQ];first|done|with_reducible rfl|with_reducible assumption)
 clear bA g0 g2 g4 g7 kA bS bQ kS g9 kQ so;rintro⟨env,⟨sto,c⟩⟩ ⟨bA,g0,g2,g4,g7,kA,bS,kS,so,dl⟩;try simp only at bA g0 g2 g4 g7 bS so dl
 replace kA:∀ n',St.get ⟨sto,n'⟩ A=some (.cells [.i .u8 (ins.D.toNat:Int),.i .u8 (ins.O.toNat:Int),.i .i64 ins.J,.i .i64 ins.I,.i .i64 ins.T,.i .i64 ins.N,slV ins.z ins.A.length (Exs.cs ins.A)] false):=fun _=>kA;replace kS:∀ n',St.get ⟨sto,n'⟩ S=some (.cells [.i .u8 ((1:Nat):Int),.i .u8 (ins.O.toNat:Int),.s [97],.s s2,.i .i64 ((0:Nat):Int),av,.nsl,.nsl,.i .i64 ((0:Nat):Int)] false):=fun _=>kS;obtain⟨Q2,D,g9,hQ2,hD2,lQ2⟩:=dl;try simp only at lQ2
 have hav:av.one=true:=by rcases so with⟨rfl,_⟩|⟨_,rfl,_⟩<;>rfl
 have hav2:av.cells=[av]:=by rcases so with⟨rfl,_⟩|⟨_,rfl,_⟩<;>rfl
 iterate 2
  (try rw[Z0]);(try simp(disch:=first|omega|rfl|assumption)only[↓Yaa,Yab,Nae,Naa,rA,rB,rC,rD,reduceIte,unP,rE,g0,g2,g4,g7,kA,kS,g9,hav])
 obtain⟨s4,hs4⟩:∃ s4:St,s4=⟨((((St.put ⟨sto,c+64⟩ (c+16) (some (.cells [.i .u8 ((1:Nat):Int),.i .u8 (ins.O.toNat:Int),.s [97],.s s2,.i .i64 ((0:Nat):Int),av,.nsl,.nsl,.i .i64 ((0:Nat):Int)] false))).put (c+32) (some (.cells [.s [97],.rsl (c+16) 9 0 1,.i .i64 ((0:Nat):Int)] false))).put (c+48) (some (.cells [.nsl,.nsl] false))).put (c+48) (some (.cells [.rsl Q2 5 0 D.length,.rsl (c+32) 3 0 1] false))).sto,c+168⟩:=⟨_,rfl⟩;have z0:∀ j,s4.get j=St.get ((((St.put ⟨sto,c+64⟩ (c+16) (some (.cells [.i .u8 ((1:Nat):Int),.i .u8 (ins.O.toNat:Int),.s [97],.s s2,.i .i64 ((0:Nat):Int),av,.nsl,.nsl,.i .i64 ((0:Nat):Int)] false))).put (c+32) (some (.cells [.s [97],.rsl (c+16) 9 0 1,.i .i64 ((0:Nat):Int)] false))).put (c+48) (some (.cells [.nsl,.nsl] false))).put (c+48) (some (.cells [.rsl Q2 5 0 D.length,.rsl (c+32) 3 0 1] false))) j:=fun j=>by rw[hs4];rfl
 have z1:∀ j,j<c→s4.get j=St.get ⟨sto,c⟩ j:=fun j hj=>by
  rw[z0,Yae Zaa,Yae Zaa,Yae Zaa,Yae Zaa];rfl
 have z2:s4.get (c+16)=some (.cells [.i .u8 ((1:Nat):Int),.i .u8 (ins.O.toNat:Int),.s [97],.s s2,.i .i64 ((0:Nat):Int),av,.nsl,.nsl,.i .i64 ((0:Nat):Int)] false):=by
  rw[z0,Yae Zaa,Yae Zaa,Yae Zaa,Yaf]
 have z3:s4.get (c+32)=some (.cells [.s [97],.rsl (c+16) 9 0 1,.i .i64 ((0:Nat):Int)] false):=by
  rw[z0,Yae Zaa,Yae Zaa,Yaf]
 have nc:s4.cnt=c+168:=by rw[hs4]
 rw[←hs4];obtain⟨za,hd⟩:=NjH ((z1 Q2 lQ2).trans hQ2) z3 z2 (so.move (by rw[nc];show c≤_;omega) fun j _ hj=>z1 j hj);obtain⟨a,b,hk⟩:=Njy (q:=fuel) (o:=ins.O) (s2:=s2) (za:=za) hc hD2 hA Zaa;refine NhW (Nbf hd) hk rfl rfl ?_;have z4:s4.get A=_:=(z1 A Zaa).trans (kA c);by_cases ha:a=0
 ·have ba:(a==Int.ofNat 0)=true:=by rw[ha];rfl
  by_cases hI:ins.I=-1
  ·have bI:(ins.I==-((1:Nat):Int))=true:=by rw[hI];rfl
   iterate 4
    (try rw[Z0]);(try simp(disch:=first|omega|rfl|assumption)only[↓Yaa,Yab,Nae,Naa,rA,rB,rC,rD,reduceIte,unP,rE,g0,g2,g4,g7,kA,kS,z4,ba,bI])
   exact⟨nofun,_,rfl,by simp only[NaF,Yad,if_true];exact fin _⟩
  ·have bI:(ins.I==-((1:Nat):Int))=false:=by simpa using hI
   iterate 4
    (try rw[Z0]);(try simp(disch:=first|omega|rfl|assumption)only[↓Yaa,Yab,Nae,Naa,rA,rB,rC,rD,reduceIte,unP,rE,g0,g2,g4,g7,kA,kS,z4,ba,bI])
   exact⟨nofun,_,rfl,by simp only[NaF,Yad,if_true];exact fin _⟩
 ·have ba:(a==Int.ofNat 0)=false:=by simpa using ha
  iterate 4
   (try rw[Z0]);(try simp(disch:=first|omega|rfl|assumption)only[↓Yaa,Yab,Nae,Naa,rA,rB,rC,rD,reduceIte,unP,rE,g0,g2,g4,g7,kA,kS,z4,ba])
  exact⟨nofun,_,rfl,by simp only[NaF,Yad,if_true];exact fin _⟩
end Go.Pe
