/-
 Code: may an expression be (that there is an answer), walked. No condition.
-/
import Derived.Test.YtafdphmhbnjfaaaGreatDoorZCoeA
set_option linter.unusedVariables false
set_option linter.unusedSimpArgs false
set_option maxHeartbeats 8000000
open Nat renaming reduceAdd → rA,reduceMul → rB,reduceLT → rC,reduceEqDiff → rD,reduceLeDiff → rE
namespace Go.Pe
open Go Go.Am Go.RowKit
theorem Ex.wf_eqZ(e:Ex):e.wf=((Lit.int .i64 e.N).wf=true∧e.S.length≤reachBytes∧e.L.length≤reachBytes∧Exs.wf e.L):=by cases e;rw[Ex.wf];rfl
theorem Exs.wf_memZ:∀ {l:List Ex}{e:Ex},Exs.wf l→e∈l→e.wf
 |[],e,_,h=>by simp at h
 |a::r,e,h,hm=>by
   rw[Exs.wf]at h;rcases List.mem_cons.1 hm with rfl|hm
   ·exact h.1
   ·exact Exs.wf_memZ h.2 hm
theorem NkC{sto:Trie PObj}{n1 n2 n3 K j:Nat}{o1 o2:Option PObj}(h:j≠K):St.get ⟨(St.put (St.put ⟨sto,n1⟩ K o1) K o2).sto,n2⟩ j=St.get ⟨sto,n3⟩ j:=by
 show St.get (St.put (St.put ⟨sto,n1⟩ K o1) K o2) j=_;rw[Yae (Ne.symm h),Yae (Ne.symm h)];rfl
structure WkP(st st':St)(k:Nat)(n:Int)(r:PV):Prop where
 res:∃ b,r=.b b
 box:∃ x,st'.get k=some (.cells [.i .i64 x,.i .i64 n] false)
 fr:∀ j,j<st.cnt→j≠k→st'.get j=st.get j
 cnt:st.cnt≤st'.cnt
def NfL(s:List UInt8):Pg:=⟨true,[],false,[⟨s,true,[],0⟩]⟩
def NiD:List (List UInt8):=[[43],[45],[42],[61,61],[60]]
theorem Nhu(st:St)(K:Nat)(s:List UInt8):Go.Pe.deep (st.put K (some (.cells [.s s,.nsl,.i .i64 ((0:Nat):Int)] false))) 12 (.agg [.nsl,.rsl K 3 0 1])=some (.agg (Pg.cs (NfL s))):=by
 show(mapO (Go.Pe.deep _ 11) [PV.nsl,PV.rsl K 3 0 1]).map PV.agg=_;simp[mapO,Go.Pe.deep,Yaf,cut?];rfl
theorem Ni4{cfg:Cfg}(hc:CfgZ cfg)(q:Nat)(s:List UInt8):Nai cfg (NaK cfg (q+40)) 71 [.agg (Pg.cs (NfL s))]=some (.b (NfM (NfL s))):=by
 refine NaE hc.z8 (Ne6 _ _) (fun _=>rfl) ?_;obtain⟨r,st',h1,h2,-⟩:=Nix hc.toCfgV (fuel:=q+38) (p:=NfL s) (st:={ sto:=.leaf,cnt:=1 }) (by simp[NfL,Tds.size,Sms.size]) (by simp[NfL,Tds.size,Sms.size]);exact⟨r,st',h1,h2⟩
theorem NkO{cfg:Cfg}(hc:CfgZ cfg)(q:Nat)(s:List UInt8):Nai cfg (NaK cfg (q+40)) 61 [.fsl 5 (txC NiD),.s s]=some (.b (Npj s NiD)) :=
 NaE hc.x5 rfl (fun _=>rfl) (NmP (l:=NiD) (fuel:=q+39) (hc.fn _ _ (by kernel_rfl)) (hc.fn _ _ (by kernel_rfl)) hc.x6 Zah (by show 5+3≤_;omega))
theorem Nrs{cfg:Cfg}(hc:CfgZ cfg):∀ (fuel:Nat) (e:Ex) (lf n dp:Int) (st:St) (k:Nat),e.size+1≤fuel→e.wf→0≤dp→dp≤1000→k<st.cnt→st.get k=some (.cells [.i .i64 lf,.i .i64 n] false) →
 ∃ r st',NaK cfg (fuel+40) 116 [.ptr k 0,.agg e.cs,.i .i64 dp] st=some (r,st')∧WkP st st' k n r:=by
 intro fuel
 induction fuel with
 |zero=>intro e _ _ _ _ _ h;omega
 |succ q ih =>
   intro e lf n dp st k hfu hwf hd0 hd1 lk hk;refine NaB (hc.fn _ _ (by kernel_rfl):cfg.fn 116=some m116) ?_;delta m116 Qa Qr Qf Qg Qc Ql Qt Qn Qs Qk Qm Qh Qi Qu Qv Qo Qw;have hes:=Ex.size_eq e;have hwf2:=hwf;rw[Ex.wf_eqZ]at hwf2;obtain⟨-,-,hwl,hwL⟩:=hwf2;have hll:=Exs.len_le e.L;have hrb:reachBytes<4611686018427387904:=(by decide);have hlv:=NaC e.z e.L.length (Exs.cs e.L);have hsz:=Exs.len e.L;rw[Ex.cs_eq];obtain⟨kd,hkd⟩:∃ kd,e.K.toNat=kd:=⟨_,rfl⟩;rw[hkd];obtain⟨X,hX⟩:∃ X:PV→St→Prop,X=fun r st'=>WkP st st' k n r:=⟨_,rfl⟩
   simp only[show ∀ r st',(WkP st st' k n r)=X r st' from fun _ _=>by rw[hX]];obtain⟨sto0,c0⟩:=st;have hk':∀ n',St.get ⟨sto0,n'⟩ k=_:=fun _=>hk;simp only at lk;simp only[Nao];obtain⟨lf1,hlf⟩:∃ x,IntKind.i64.wrap (lf - ((1:Nat):Int))=x:=⟨_,rfl⟩
   iterate 2
    (try rw[Z0]);(try simp(disch:=first|omega|rfl|assumption)only[↓Yaa,Yab,Nae,Naa,rA,rB,rC,rD,reduceIte,unP,rE,Nag,Naf,hk',hlf])
   refine NaJ (fun x=>∃ (E:Nat),E<x.st.cnt∧x.env.get 0=.ptr k 0∧x.env.get 2=.i .i64 dp∧x.env.get 4=.ptr E 0∧x.st.get E=some (.cells [.i .u8 (kd:Int),.s e.S,.i .i64 e.N,slV e.z e.L.length (Exs.cs e.L)] false)∧(c0≤E)∧(∃ y,x.st.get k=some (.cells [.i .i64 y,.i .i64 n] false))∧(∀ j,j<c0→j≠k→x.st.get j=St.get ⟨sto0,c0⟩ j)) ?_ ?_
   ·refine⟨c0,?_,Zab,Zab,Zab,(by rw[Yae (by omega)];show St.get (St.put ⟨sto0,c0+16⟩ c0 _) c0=_;rw[Yaf]),?_,⟨lf1,by rw[Yaf]⟩,(fun j hj hn=>by rw[Yae (Ne.symm hn)];show St.get (St.put ⟨sto0,c0+16⟩ c0 _) j=_;rw[Yae Zaa];rfl)⟩<;>first|omega|(simp only[Z0L_,Nax];omega)|(simp only;omega)|assumption|rfl|(simp;omega)|(simp;done)
   rintro⟨env,⟨sto,c⟩⟩ ⟨E,bE,g0,g2,g4,kE,lE,bx,kof⟩;try simp only at bE g0 g2 g4 bx
   replace kE:∀ n',St.get ⟨sto,n'⟩ E=some (.cells [.i .u8 (kd:Int),.s e.S,.i .i64 e.N,slV e.z e.L.length (Exs.cs e.L)] false):=fun _=>kE;have fin:∀ (n':Nat) (b:Bool),c≤n'→X (.b b) ⟨sto,n'⟩:=fun n' b hn=>by
    subst hX;obtain⟨y,hy⟩:=bx;exact⟨⟨_,rfl⟩,⟨y,hy⟩,fun j hj hne=>kof j hj hne,by show c0≤n';omega⟩
   obtain⟨y0,hy0⟩:=bx;have hy:∀ n',St.get ⟨sto,n'⟩ k=_:=fun _=>hy0;by_cases c1:y0<0
   ·skip
    iterate 6
     (try rw[Z0]);(try simp(disch:=first|omega|rfl|assumption)only[↓Yaa,Yab,Nae,Naa,rA,rB,rC,rD,reduceIte,unP,rE,g0,g2,g4,kE,hy])
    exact⟨nofun,_,rfl,by simp only[NaF,Yad,if_true];exact fin _ false Zaa⟩
   by_cases c2:20<dp
   ·skip
    iterate 6
     (try rw[Z0]);(try simp(disch:=first|omega|rfl|assumption)only[↓Yaa,Yab,Nae,Naa,rA,rB,rC,rD,reduceIte,unP,rE,g0,g2,g4,kE,hy])
    exact⟨nofun,_,rfl,by simp only[NaF,Yad,if_true];exact fin _ false Zaa⟩
   have hdw:IntKind.i64.wrap (dp+((1:Nat):Int))=dp+1:=NbI _ ⟨by omega,by omega⟩;rw[Z0];(try rw[Z0]);(try simp(disch:=first|omega|rfl|assumption)only[↓Yaa,Yab,Nae,Naa,rA,rB,rC,rD,reduceIte,unP,rE,g0,g2,g4,kE,hy]);refine NaX (fun x=>E<x.st.cnt∧x.env.get 0=.ptr k 0∧x.env.get 2=.i .i64 dp∧x.env.get 4=.ptr E 0∧x.st.get E=some (.cells [.i .u8 (kd:Int),.s e.S,.i .i64 e.N,slV e.z e.L.length (Exs.cs e.L)] false)∧(∀ j,j<c0→j≠k→x.st.get j=St.get ⟨sto0,c0⟩ j)∧(∃ y,x.st.get k=some (.cells [.i .i64 y,.i .i64 n] false))) ?_ ?_
   ·intro K1 hK1
    iterate 2
     (try rw[Z0]);(try simp(disch:=first|omega|rfl|assumption)only[↓Yaa,Yab,Nae,Naa,rA,rB,rC,rD,reduceIte,unP,rE,g0,g2,g4,kE,hy,hlv])
    refine Z9 (k:=e.L.length - 0) (fun m x=>∃ (i:Nat),m=e.L.length - i∧E<x.st.cnt∧x.env.get 0=.ptr k 0∧x.env.get 2=.i .i64 dp∧x.env.get 4=.ptr E 0∧x.st.get E=some (.cells [.i .u8 (kd:Int),.s e.S,.i .i64 e.N,slV e.z e.L.length (Exs.cs e.L)] false)∧(∀ j,j<c0→j≠k→x.st.get j=St.get ⟨sto0,c0⟩ j)∧x.env.get 27=slV e.z e.L.length (Exs.cs e.L)∧x.env.get 28=.i .i64 (e.L.length:Int)∧x.env.get 29=.i .i64 (i:Int)∧(i≤e.L.length)∧(∃ y,x.st.get k=some (.cells [.i .i64 y,.i .i64 n] false))) ?_ ?_ Zaa
    ·clear bE g0 g2 g4 kE kof;rintro m ⟨env,⟨sto,c⟩⟩ ⟨i,rfl,bE,g0,g2,g4,kE,kof,g27,g28,g29,hi,bx⟩;try simp only at bE g0 g2 g4 g27 g28 g29 bx
     replace kE:∀ n',St.get ⟨sto,n'⟩ E=some (.cells [.i .u8 (kd:Int),.s e.S,.i .i64 e.N,slV e.z e.L.length (Exs.cs e.L)] false):=fun _=>kE;obtain⟨y1,hy1⟩:=bx;have hy2:∀ n',St.get ⟨sto,n'⟩ k=_:=fun _=>hy1;by_cases hil:i<e.L.length
     ·rw[NaD hil]at g27;obtain⟨u,hu⟩:∃ u,e.L[i]=u:=⟨_,rfl⟩;have hld:=fun st=>NdM (st:=st) hil;simp only[hu]at hld;have hum:u∈e.L:=hu▸List.getElem_mem hil;have hsm:=Exs.size_mem hum
      iterate 5
       (try rw[Z0]);(try simp(disch:=first|omega|rfl|assumption)only[↓Yaa,Yab,Nae,Naa,rA,rB,rC,rD,reduceIte,unP,rE,g0,g2,g4,kE,g27,g28,g29,hld,hsz,hlv,hdw,hc.k7,Nag,Naf])
      have hpp:∀ (o1 o2:Option PObj) (n1 n2 j:Nat),j<c+24→St.get ⟨(St.put (St.put ⟨sto,n1⟩ (c+24) o1) (c+24) o2).sto,n2⟩ j=St.get ⟨sto,c⟩ j:=fun o1 o2 n1 n2 j hj=>NkC Zaa;have hih:=fun st a b=>ih u y1 n (dp+1) st k Zaa (Exs.wf_memZ hwL hum) Zaa Zaa a b;simp only[Ex.cs_eq u]at hih;refine Nbk (hih _ Zad ((hpp _ _ _ _ k Zaa).trans (hy2 c))) ?_;rintro r ⟨sto2,c2⟩ ⟨⟨b,rfl⟩,⟨y3,hy3⟩,fr2,cn2⟩;simp only at cn2;have hy4:∀ n',St.get ⟨sto2,n'⟩ k=_:=fun _=>hy3;have fr3:∀ j,j<c→j≠k→St.get ⟨sto2,c2⟩ j=St.get ⟨sto,c⟩ j:=fun j a b=>(fr2 j Zad b).trans (hpp _ _ _ _ j Zaa);cases b with
      |false =>
        iterate 6
         (try rw[Z0]);(try simp(disch:=first|omega|rfl|assumption)only[↓Yaa,Yab,Nae,Naa,rA,rB,rC,rD,reduceIte,unP,rE,g0,g2,g4,kE,g27,g28,g29,hy4])
        subst hX;exact⟨nofun,_,rfl,by simp only[NaF,Yad,if_true];exact⟨⟨_,rfl⟩,⟨y3,hy3⟩,fun j (hj:j<c0) hn=>(fr3 j Zaa hn).trans (kof j hj hn),by show c0≤St.cnt _;first|omega|(simp only;omega)⟩⟩
      |true =>
        iterate 6
         (try rw[Z0]);(try simp(disch:=first|omega|rfl|assumption)only[↓Yaa,Yab,Nae,Naa,rA,rB,rC,rD,reduceIte,unP,rE,g0,g2,g4,kE,g27,g28,g29,hy4])
        exact⟨e.L.length - (i+1),by omega,i+1,rfl,(fr3 E Zaa Zaa).trans (kE c),fun j a b=>(fr3 j Zaa b).trans (kof j a b),(NaD hil).symm,rfl,by omega,y3,rfl⟩
     ·skip
      iterate 6
       (try rw[Z0]);(try simp(disch:=first|omega|rfl|assumption)only[↓Yaa,Yab,Nae,Naa,rA,rB,rC,rD,reduceIte,unP,rE,g0,g2,g4,kE,g27,g28,g29,hy2])
      refine hK1 _ ⟨?_,(by simp[Yad,g0]),(by simp[Yad,g2]),(by simp[Yad,g4]),?_,(fun j a b=>kof j a b),⟨y1,hy1⟩⟩<;>first|with_reducible rfl|with_reducible assumption|exact kE _|omega|(simp only[Z0L_,Nax];omega)|(simp only;omega)|(simp(disch:=omega)only[Nar,Nas,Yaf,kE];first|done|with_reducible rfl|with_reducible assumption)
    ·skip
     refine⟨0,rfl,?_,?_,?_,?_,?_,(fun j hj hn=>kof j hj hn),Zaf,Zaf,Zaf,?_,⟨y0,hy0⟩⟩<;>first|with_reducible rfl|with_reducible assumption|exact kE _|omega|(simp only[Z0L_,Nax];omega)|(simp only;omega)|(simp[Yad,g0,g2,g4]<;>omega)|(simp(disch:=omega)only[Nar,Nas,Yaf,kE];first|done|with_reducible rfl|with_reducible assumption)|assumption|rfl|(simp;omega)|(simp;done)
   clear bE g0 g2 g4 kE kof;rintro⟨env,⟨sto,c⟩⟩ ⟨bE,g0,g2,g4,kE,kof,bx⟩;try simp only at bE g0 g2 g4 bx
   replace kE:∀ n',St.get ⟨sto,n'⟩ E=some (.cells [.i .u8 (kd:Int),.s e.S,.i .i64 e.N,slV e.z e.L.length (Exs.cs e.L)] false):=fun _=>kE;obtain⟨y5,hy5⟩:=bx;have hy6:∀ n',St.get ⟨sto,n'⟩ k=_:=fun _=>hy5;clear fin hy;have fin:∀ (sto':Trie PObj) (n':Nat) (b:Bool),c≤n'→(∀ j,j<c→St.get ⟨sto',n'⟩ j=St.get ⟨sto,c⟩ j)→X (.b b) ⟨sto',n'⟩:=fun sto' n' b hn hg=>by
    subst hX;exact⟨⟨_,rfl⟩,⟨y5,(hg k Zaa).trans hy5⟩,fun j (hj:j<c0) hne=>(hg j Zaa).trans (kof j hj hne),by show c0≤n';omega⟩
   obtain⟨L,hL⟩:∃ L,e.L.length=L:=⟨_,rfl⟩;rw[hL]at hlv kE
   iterate 3
    (try rw[Z0]);(try simp(disch:=first|omega|rfl|assumption)only[↓Yaa,Yab,Nae,Naa,rA,rB,rC,rD,reduceIte,unP,rE,g0,g2,g4,kE,hlv])
   by_cases k1:kd=1
   ·have f1:((kd:Int)==Int.ofNat 1)=true:=(by simp;omega);by_cases c3:L=0
    ·have b3:((L:Int)==Int.ofNat 0)=true:=(by simp;omega);by_cases c4:e.S=[]
     ·have b4:(e.S==[])=true:=by rw[c4];rfl
      iterate 9
       (try rw[Z0]);(try simp(disch:=first|omega|rfl|assumption)only[↓Yaa,Yab,Nae,Naa,rA,rB,rC,rD,reduceIte,unP,rE,g0,g2,g4,kE,f1,b3,b4])
      exact⟨nofun,_,rfl,by simp only[NaF,Yad,if_true];exact fin _ _ _ Zaa (fun j hj=>rfl)⟩
     ·have b4:(e.S==[])=false:=by simpa using c4
      iterate 9
       (try rw[Z0]);(try simp(disch:=first|omega|rfl|assumption)only[↓Yaa,Yab,Nae,Naa,rA,rB,rC,rD,reduceIte,unP,rE,g0,g2,g4,kE,f1,b3,b4])
      exact⟨nofun,_,rfl,by simp only[NaF,Yad,if_true];exact fin _ _ _ Zaa (fun j hj=>rfl)⟩
    ·have b3:((L:Int)==Int.ofNat 0)=false:=by simp;omega
     iterate 9
      (try rw[Z0]);(try simp(disch:=first|omega|rfl|assumption)only[↓Yaa,Yab,Nae,Naa,rA,rB,rC,rD,reduceIte,unP,rE,g0,g2,g4,kE,f1,b3])
     exact⟨nofun,_,rfl,by simp only[NaF,Yad,if_true];exact fin _ _ _ Zaa (fun j hj=>rfl)⟩
   have f1:((kd:Int)==Int.ofNat 1)=false:=(by simp;omega);by_cases k2:kd=2
   ·have f2:((kd:Int)==Int.ofNat 2)=true:=(by simp;omega);by_cases c3:L=0
    ·have b3:((L:Int)==Int.ofNat 0)=true:=(by simp;omega);by_cases c4:0≤e.N
     ·by_cases c5:e.N<n
      ·skip
       iterate 9
        (try rw[Z0]);(try simp(disch:=first|omega|rfl|assumption)only[↓Yaa,Yab,Nae,Naa,rA,rB,rC,rD,reduceIte,unP,rE,g0,g2,g4,kE,f1,f2,b3,hy6])
       refine NbO (Nbf (Nhu _ _ _)) (Ni4 hc q e.S) rfl rfl ?_
       iterate 3
        (try rw[Z0]);(try simp(disch:=first|omega|rfl|assumption)only[↓Yaa,Yab,Nae,Naa,rA,rB,rC,rD,reduceIte,unP,rE,g0,g2,g4,kE])
       exact⟨nofun,_,rfl,by simp only[NaF,Yad,if_true];exact fin _ _ _ (by first|omega|(simp only[Z0L_];omega)) (fun j hj=>by show St.get (St.put ⟨sto,c+280⟩ (c+240) _) j=_;rw[Yae Zaa];rfl)⟩
      ·skip
       iterate 9
        (try rw[Z0]);(try simp(disch:=first|omega|rfl|assumption)only[↓Yaa,Yab,Nae,Naa,rA,rB,rC,rD,reduceIte,unP,rE,g0,g2,g4,kE,f1,f2,b3,hy6])
       exact⟨nofun,_,rfl,by simp only[NaF,Yad,if_true];exact fin _ _ _ Zaa (fun j hj=>rfl)⟩
     ·skip
      iterate 9
       (try rw[Z0]);(try simp(disch:=first|omega|rfl|assumption)only[↓Yaa,Yab,Nae,Naa,rA,rB,rC,rD,reduceIte,unP,rE,g0,g2,g4,kE,f1,f2,b3,hy6])
      exact⟨nofun,_,rfl,by simp only[NaF,Yad,if_true];exact fin _ _ _ Zaa (fun j hj=>rfl)⟩
    ·have b3:((L:Int)==Int.ofNat 0)=false:=by simp;omega
     iterate 9
      (try rw[Z0]);(try simp(disch:=first|omega|rfl|assumption)only[↓Yaa,Yab,Nae,Naa,rA,rB,rC,rD,reduceIte,unP,rE,g0,g2,g4,kE,f1,f2,b3,hy6])
     exact⟨nofun,_,rfl,by simp only[NaF,Yad,if_true];exact fin _ _ _ Zaa (fun j hj=>rfl)⟩
   have f2:((kd:Int)==Int.ofNat 2)=false:=(by simp;omega);by_cases k3:kd=3
   ·have f3:((kd:Int)==Int.ofNat 3)=true:=(by simp;omega);by_cases c3:e.N=0
    ·have b3:(e.N==Int.ofNat 0)=true:=(by rw[c3];rfl);by_cases c4:L=1
     ·have b4:((L:Int)==Int.ofNat 1)=true:=(by simp;omega);have b6:((L:Int)==Int.ofNat 2)=false:=(by simp;omega);by_cases c5:e.S=[45]
      ·have b5:(e.S==[45])=true:=by rw[c5];rfl
       iterate 9
        (try rw[Z0]);(try simp(disch:=first|omega|rfl|assumption)only[↓Yaa,Yab,Nae,Naa,rA,rB,rC,rD,reduceIte,unP,rE,g0,g2,g4,kE,f1,f2,f3,b3,b4,b5,b6])
       exact⟨nofun,_,rfl,by simp only[NaF,Yad,if_true];exact fin _ _ _ Zaa (fun j hj=>rfl)⟩
      ·have b5:(e.S==[45])=false:=by simpa using c5
       iterate 9
        (try rw[Z0]);(try simp(disch:=first|omega|rfl|assumption)only[↓Yaa,Yab,Nae,Naa,rA,rB,rC,rD,reduceIte,unP,rE,g0,g2,g4,kE,f1,f2,f3,b3,b4,b5,b6])
       exact⟨nofun,_,rfl,by simp only[NaF,Yad,if_true];exact fin _ _ _ Zaa (fun j hj=>rfl)⟩
     ·have b4:((L:Int)==Int.ofNat 1)=false:=(by simp;omega);by_cases c5:L=2
      ·have b6:((L:Int)==Int.ofNat 2)=true:=by simp;omega
       iterate 9
        (try rw[Z0]);(try simp(disch:=first|omega|rfl|assumption)only[↓Yaa,Yab,Nae,Naa,rA,rB,rC,rD,reduceIte,unP,rE,g0,g2,g4,kE,f1,f2,f3,b3,b4,b6])
       refine NhW (Na4 (Nf2 (cs:=txC NiD) (by rw[Yaf];rfl) rfl rfl (by simp only[Z0L_];omega)) rfl) (NkO hc q e.S) rfl rfl ?_
       iterate 3
        (try rw[Z0]);(try simp(disch:=first|omega|rfl|assumption)only[↓Yaa,Yab,Nae,Naa,rA,rB,rC,rD,reduceIte,unP,rE,g0,g2,g4,kE])
       exact⟨nofun,_,rfl,by simp only[NaF,Yad,if_true];exact fin _ _ _ (by first|omega|(simp only[Z0L_];omega)) (fun j hj=>by show St.get (St.put ⟨sto,c+280⟩ (c+216) _) j=_;rw[Yae Zaa];rfl)⟩
      ·have b6:((L:Int)==Int.ofNat 2)=false:=by simp;omega
       iterate 9
        (try rw[Z0]);(try simp(disch:=first|omega|rfl|assumption)only[↓Yaa,Yab,Nae,Naa,rA,rB,rC,rD,reduceIte,unP,rE,g0,g2,g4,kE,f1,f2,f3,b3,b4,b6])
       exact⟨nofun,_,rfl,by simp only[NaF,Yad,if_true];exact fin _ _ _ Zaa (fun j hj=>rfl)⟩
    ·have b3:(e.N==Int.ofNat 0)=false:=by simpa using c3
     iterate 9
      (try rw[Z0]);(try simp(disch:=first|omega|rfl|assumption)only[↓Yaa,Yab,Nae,Naa,rA,rB,rC,rD,reduceIte,unP,rE,g0,g2,g4,kE,f1,f2,f3,b3])
     exact⟨nofun,_,rfl,by simp only[NaF,Yad,if_true];exact fin _ _ _ Zaa (fun j hj=>rfl)⟩
   have f3:((kd:Int)==Int.ofNat 3)=false:=by simp;omega
   iterate 12
    (try rw[Z0]);(try simp(disch:=first|omega|rfl|assumption)only[↓Yaa,Yab,Nae,Naa,rA,rB,rC,rD,reduceIte,unP,rE,g0,g2,g4,kE,f1,f2,f3])
   exact⟨nofun,_,rfl,by simp only[NaF,Yad,if_true];exact fin _ _ _ Zaa (fun j hj=>rfl)⟩
end Go.Pe
