/-
 Races: what an event takes and gives, walked. No condition.
-/
import Derived.Test.YtafdphmhbnjfaaaGreatDoorZPrgA
import Derived.Test.YtafdphmhbnjfaaaGreatDoorZView
import Derived.Test.YtafdphmhbnjfaaaGreatDoorZClockM
import Derived.Test.YtafdphmhbnjfaaaGreatDoorZClkP
import Derived.Test.YtafdphmhbnjfaaaGreatDoorZPeB
import Derived.Test.YtafdphmhbnjfaaaGreatDoorZChkMf
set_option linter.unusedVariables false
set_option linter.unusedSimpArgs false
open Nat renaming reduceAdd → rA,reduceMul → rB,reduceLT → rC,reduceEqDiff → rD,reduceLeDiff → rE
namespace Go.Pe
open Go Go.RowKit
def Nfr:Nat→Sh
 |0=>.bot 4
 |n+1=>.st (.cons (.i .u8) (.cons .s (.cons (.i .i64) (.cons (.sl (Nfr n)) .nil))))
theorem Nib:∀ n,(Nfr n).width=4
 |0=>rfl
 |_+1=>rfl
theorem Nh9:∀ n f,f≤n→(Nfr n).dep f
 |0,f,h=>by simp only[Nfr,Sh.dep];omega
 |n+1,0,_=>by simp[Nfr,Sh.dep]
 |n+1,1,h=>by simp[Nfr,Sh.dep]
 |n+1,f+2,h=>by
   simp only[Nfr,Sh.dep,true_and,and_true];exact Nh9 n f Zaa
theorem Nia:∀ n,(Nfr n).low≤56
 |0=>by simp[Nfr,Sh.low]
 |_+1=>by simp[Nfr,Sh.low]
mutual
def Ex.wf:Ex→Prop
 |.mk k s n z l=>(Lit.int .i64 n).wf=true∧s.length≤reachBytes∧l.length≤reachBytes∧Exs.wf l
def Exs.wf:List Ex→Prop
 |[]=>True
 |e::r=>e.wf∧Exs.wf r
end
theorem Exs.wf_of:∀ {l:List Ex},(∀ e∈l,e.wf)→Exs.wf l
 |[],_=>by rw[Exs.wf];trivial
 |e::r,h=>by rw[Exs.wf];exact⟨h e Zag,Exs.wf_of fun x hx=>h x (by simp[hx])⟩
mutual
def Sm.wf:Sm→Prop
 |.mk k o j i n za a zb b ze e r=>(Lit.int .i64 n).wf=true∧(Lit.int .i64 r).wf=true∧j.length≤reachBytes∧i.length≤reachBytes∧a.length≤reachBytes∧b.length≤reachBytes∧e.length≤reachBytes∧Exs.wf a∧Sms.wf b∧Sms.wf e
def Sms.wf:List Sm→Prop
 |[]=>True
 |e::r=>e.wf∧Sms.wf r
end
section
variable {cs:List PV}
theorem Sms.wf_of:∀ {l:List Sm},(∀ e∈l,e.wf)→Sms.wf l
 |[],_=>by rw[Sms.wf];trivial
 |e::r,h=>by rw[Sms.wf];exact⟨h e Zag,Sms.wf_of fun x hx=>h x (by simp[hx])⟩
theorem Ngd{α:Type}{f:α→List PV}{Q:α→Prop}{w:Nat}:∀ (n:Nat) (ps:List PV),ps.length=n * w→(∀ j,j<n→∃ a,(ps.drop (j * w)).take w=f a∧Q a)→∃ l:List α,l.length=n∧ps=l.flatMap f∧∀ a∈l,Q a
 |0,ps,h,_=>⟨[],rfl,by rw[Nat.zero_mul]at h;exact List.eq_nil_of_length_eq_zero h,by simp⟩
 |n+1,ps,h,hj=>by
   obtain⟨a,ha,hq⟩:=hj 0 Zaa;rw[Nat.zero_mul,List.drop_zero]at ha;obtain⟨l,h1,h2,h3⟩:=Ngd (f:=f) (Q:=Q) (w:=w) n (ps.drop w) (by rw[List.length_drop,h,Nat.add_mul];omega) (fun j hjn=>by
    obtain⟨b,hb,hqb⟩:=hj (j+1) Zaa;refine⟨b,?_,hqb⟩;rw[List.drop_drop,show w+j * w=(j+1) * w by rw[Nat.add_mul];omega];exact hb)
   refine⟨a::l,by simp[h1],?_,fun b hb=>?_⟩
   ·rw[List.flatMap_cons,←h2,←ha,List.take_append_drop]
   ·rcases List.mem_cons.1 hb with rfl|hb
    ·exact hq
    ·exact h3 b hb
theorem Nii{a:PV}(h:cs.take 1=[a]):cs=a::cs.drop 1:=by
 have:=List.take_append_drop 1 cs;rw[h]at this;exact this.symm
theorem Nrr{n:Int}(h:(Lit.int .u8 n).wf=true):∃ k:UInt8,n=(k.toNat:Int):=by
 simp[Lit.wf,IntKind.min,IntKind.max,IntKind.signed,IntKind.bits]at h;refine⟨UInt8.ofNat n.toNat,?_⟩;rw[UInt8.toNat_ofNat'];omega
theorem Nj0(h:(Sh.i .u8).Is (cs.take 1)):∃ k:UInt8,cs=.i .u8 (k.toNat:Int)::cs.drop 1:=by
 obtain⟨n,h1,h2⟩:=h;obtain⟨k,rfl⟩:=Nrr h2;exact⟨k,Nii h1⟩
theorem NcR(h:(Sh.i .i64).Is (cs.take 1)):∃ n:Int,cs=.i .i64 n::cs.drop 1∧(Lit.int .i64 n).wf=true:=by
 obtain⟨n,h1,h2⟩:=h;exact⟨n,Nii h1,h2⟩
theorem NqC(h:Sh.s.Is (cs.take 1)):∃ l:List UInt8,cs=.s l::cs.drop 1∧l.length≤reachBytes:=by
 obtain⟨n,h1,h2⟩:=h;exact⟨n,Nii h1,h2⟩
theorem Nih{α:Type}{f:α→List PV}{Q:α→Prop}{e:Sh}{w:Nat}(hw:e.width=w)(he:∀ qs,e.Is qs→∃ a,qs=f a∧Q a)(h:(Sh.sl e).Is (cs.take 1)):∃ l:List α,cs=.fsl l.length (l.flatMap f)::cs.drop 1∧l.length * e.low≤reachBytes∧∀ a∈l,Q a:=by
 obtain⟨n,ps,h1,h2,h3,h4⟩:=h;rw[hw]at h2 h4;obtain⟨l,rfl,rfl,hq⟩:=Ngd (f:=f) (Q:=Q) n ps h2 (fun j hj=>he _ (h4 j hj));exact⟨l,Nii h1,h3,hq⟩
theorem NeX{α:Type}{f:α→List PV}{Q:α→Prop}{e:Sh}{w:Nat}(hw:e.width=w)(he:∀ qs,e.Is qs→∃ a,qs=f a∧Q a)(h:(Sh.sl e).Is (cs.take 1)):∃ l:List α,cs=.fsl l.length (l.flatMap f)::cs.drop 1∧l.length≤reachBytes∧∀ a∈l,Q a:=by
 obtain⟨l,h1,h2,h3⟩:=Nih hw he h;exact⟨l,h1,Nat.le_trans (Nat.le_mul_of_pos_right _ (Sh.low_pos e)) h2,h3⟩
theorem Npm:∀ (n:Nat) (cs:List PV),(Nfr n).Is cs→∃ e:Ex,cs=e.cs∧e.wf
 |0,cs,h=>by simp[Nfr,Sh.Is]at h
 |n+1,cs,h=>by
   simp only[Nfr]at h;obtain⟨h1,h2,h3,h4,h5⟩:=h;simp only[Sh.width]at h1 h2 h3 h4 h5;obtain⟨k,e1⟩:=Nj0 h1;obtain⟨s,e2,w2⟩:=NqC h2;obtain⟨m,e3,w3⟩:=NcR h3;obtain⟨l,e4,w4,w5⟩:=NeX (Nib n) (Npm n) h4;refine⟨.mk k s m false l,?_,?_⟩
   ·rw[Ex.cs_eq,e1,e2,e3,e4];simp only[Sh.Is]at h5;rw[h5,←Exs.flat];rfl
   ·rw[Ex.wf];exact⟨w3,w2,w4,Exs.wf_of w5⟩
end
section
variable {P:Program}
theorem NjM{tE tK tS tN tL:TypeId}{fs:Array Field}(hE:P.underlying tE=some (.struct fs))(hfs:(fs.toList.map fun f=>(f.type,f.offset))=[(tK,0),(tS,1),(tN,2),(tL,3)])
 (hK:P.underlying tK=some (.int .u8)) (hS:P.underlying tS=some .string) (hN:P.underlying tN=some (.int .i64)) (hL:P.underlying tL=some (.slice tE))
 (cE:P.cellsOf tE=4) (cK:P.cellsOf tK=1) (cS:P.cellsOf tS=1) (cN:P.cellsOf tN=1) (cL:P.cellsOf tL=1) (hb:56≤P.bytesOf tE):∀ n,(Nfr n).fits P (.inl tE)=true
 |0=>by simp[Nfr,Sh.fits]
 |n+1=>by
   have ih:=NjM hE hfs hK hS hN hL cE cK cS cN cL hb n;have hb0:0<P.bytesOf tE:=(by omega);have hl:(Nfr n).low≤P.bytesOf tE:=Nat.le_trans (Nia n) hb;simp[Nfr,Sh.fits,hE,hfs,hK,hS,hN,hL,cE,cK,cS,cN,cL,hb0,hl,Sh.width,Nib,ih]
end
def dcSh:Sh:=.st (.cons (.i .u8) (.cons .s (.cons (.i .i64) (.cons .s (.cons (.i .i64) .nil)))))
def Dc.wf(d:Dc):Prop:=(Lit.int .i64 d.N).wf=true∧(Lit.int .i64 d.R).wf=true∧d.S.length≤reachBytes∧d.O.length≤reachBytes
def Td.wf(t:Td):Prop:=(Lit.int .i64 t.R).wf=true∧t.S.length≤reachBytes∧t.B.length≤reachBytes∧Sms.wf t.B
def Pg.wf(p:Pg):Prop:=p.D.length≤reachBytes∧p.T.length≤reachBytes∧(∀ d∈p.D,d.wf)∧∀ t∈p.T,t.wf
theorem Nrd:∀ (cs:List PV),dcSh.Is cs→∃ e:Dc,cs=e.cs∧e.wf:=by
 intro cs h;simp only[dcSh]at h;obtain⟨h1,h2,h3,h4,h5,h6⟩:=h;simp only[Sh.width]at h1 h2 h3 h4 h5 h6;obtain⟨k,e1⟩:=Nj0 h1;obtain⟨s,e2,w2⟩:=NqC h2;obtain⟨n,e3,w3⟩:=NcR h3;obtain⟨o,e4,w4⟩:=NqC h4;obtain⟨r,e5,w5⟩:=NcR h5;refine⟨⟨k,s,n,o,r⟩,?_,w3,w5,w2,w4⟩;simp only[Sh.Is]at h6;unfold Dc.cs;rw[e1,e2,e3,e4,e5,h6]
section
variable {P:Program}
theorem Nnr{tD tK tS tN tI:TypeId}{fs:Array Field}(hD:P.underlying tD=some (.struct fs))(hfs:(fs.toList.map fun f=>(f.type,f.offset))=[(tK,0),(tS,1),(tN,2),(tS,3),(tI,4)])
 (hK:P.underlying tK=some (.int .u8)) (hS:P.underlying tS=some .string) (hN:P.underlying tN=some (.int .i64)) (hI:P.underlying tI=some (.int .i64)) (cD:P.cellsOf tD=5) (cK:P.cellsOf tK=1) (cS:P.cellsOf tS=1) (cN:P.cellsOf tN=1) (cI:P.cellsOf tI=1):dcSh.fits P (.inl tD)=true:=by
 simp[dcSh,Sh.fits,hD,hfs,hK,hS,hN,hI,cD,cK,cS,cN,cI,Sh.width]
end
structure In where
 D:UInt8
 O:UInt8
 J:Int
 I:Int
 T:Int
 N:Int
 z:Bool
 A:List Ex
def In.cs(x:In):List PV:=[.i .u8 (x.D.toNat:Int),.i .u8 (x.O.toNat:Int),.i .i64 x.J,.i .i64 x.I,.i .i64 x.T,.i .i64 x.N,slV x.z x.A.length (Exs.cs x.A)]
structure Tx where
 S:List UInt8
 zl:Bool
 L:List (List UInt8)
 zc:Bool
 C:List In
def Tx.cs(t:Tx):List PV:=[.s t.S,slV t.zl t.L.length (t.L.flatMap fun s=>[.s s]),slV t.zc t.C.length (t.C.flatMap In.cs)]
structure Cd where
 zo:Bool
 O:List Dc
 zt:Bool
 T:List Tx
def Cd.cs(c:Cd):List PV:=[slV c.zo c.O.length (c.O.flatMap Dc.cs),slV c.zt c.T.length (c.T.flatMap Tx.cs)]
structure Et where
 T:Int
 O:UInt8
 J:Int
 A:Int
 B:Int
def Et.cs(e:Et):List PV:=[.i .i64 e.T,.i .u8 (e.O.toNat:Int),.i .i64 e.J,.i .i64 e.A,.i .i64 e.B]
theorem In.cs_len(e:In):e.cs.length=7:=rfl
theorem Tx.cs_len(e:Tx):e.cs.length=3:=rfl
theorem Et.cs_len(e:Et):e.cs.length=5:=rfl
theorem Nn3{st:St}{l:List In}{i:Nat}(h:i<l.length):Nbh st 7 (.fptr ((l.flatMap In.cs).drop (i * 7)))=some [.i .u8 (l[i].D.toNat:Int),.i .u8 (l[i].O.toNat:Int),.i .i64 l[i].J,.i .i64 l[i].I,.i .i64 l[i].T,.i .i64 l[i].N,slV l[i].z l[i].A.length (Exs.cs l[i].A)]:=Nb0 In.cs_len h
theorem Nkc{st:St}{l:List Tx}{i:Nat}(h:i<l.length):Nbh st 3 (.fptr ((l.flatMap Tx.cs).drop (i * 3)))=some [.s l[i].S,slV l[i].zl l[i].L.length (l[i].L.flatMap fun s=>[.s s]),slV l[i].zc l[i].C.length (l[i].C.flatMap In.cs)]:=Nb0 Tx.cs_len h
theorem NdL{st:St}{l:List Et}{i:Nat}(h:i<l.length):Nbh st 5 (.fptr ((l.flatMap Et.cs).drop (i * 5)))=some [.i .i64 l[i].T,.i .u8 (l[i].O.toNat:Int),.i .i64 l[i].J,.i .i64 l[i].A,.i .i64 l[i].B]:=Nb0 Et.cs_len h
def Nji(n:Nat):Sh:=.st (.cons (.i .u8) (.cons (.i .u8) (.cons (.i .i64) (.cons (.i .i64) (.cons (.i .i64) (.cons (.i .i64) (.cons (.sl (Nfr n)) .nil)))))))
def Njk(n:Nat):Sh:=.st (.cons .s (.cons (.sl .s) (.cons (.sl (Nji n)) .nil)))
def Njw(n:Nat):Sh:=.st (.cons (.sl dcSh) (.cons (.sl (Njk n)) .nil))
def etSh:Sh:=.st (.cons (.i .i64) (.cons (.i .u8) (.cons (.i .i64) (.cons (.i .i64) (.cons (.i .i64) .nil)))))
theorem NmQ(n:Nat):(Nji n).width=7:=rfl
theorem Nm6(n:Nat):(Njk n).width=3:=rfl
theorem NoX(n:Nat):(Njw n).width=2:=rfl
theorem NlU(n:Nat):∀ f,f≤n→(Nji n).dep f
 |0,_=>by simp[Nji,Sh.dep]
 |1,_=>by simp[Nji,Sh.dep]
 |f+2,h=>by
   simp only[Nji,Sh.dep,true_and,and_true];exact Nh9 n f Zaa
theorem Nmz(n:Nat):∀ f,f≤n→(Njk n).dep f
 |0,_=>by simp[Njk,Sh.dep]
 |1,_=>by simp[Njk,Sh.dep]
 |f+2,h=>by
   simp only[Njk,Sh.dep,true_and,and_true];exact NlU n f Zaa
theorem Nle(n:Nat):∀ f,f≤n→(Njw n).dep f
 |0,_=>by simp[Njw,Sh.dep]
 |1,_=>by simp[Njw,Sh.dep]
 |f+2,h=>by
   simp only[Njw,Sh.dep,and_true];exact⟨Sh.dep_flat rfl f,Nmz n f Zaa⟩
def In.wf(x:In):Prop:=x.A.length * 56≤reachBytes∧(Lit.int .i64 x.J).wf=true∧(Lit.int .i64 x.I).wf=true∧(Lit.int .i64 x.T).wf=true∧(Lit.int .i64 x.N).wf=true∧x.A.length≤reachBytes∧Exs.wf x.A
def Tx.wf(t:Tx):Prop:=t.S.length≤reachBytes∧t.L.length≤reachBytes∧t.C.length≤reachBytes∧(∀ s∈t.L,s.length≤reachBytes)∧∀ x∈t.C,x.wf
def Cd.wf(c:Cd):Prop:=c.O.length≤reachBytes∧c.T.length≤reachBytes∧(∀ d∈c.O,d.wf)∧∀ t∈c.T,t.wf
def Et.wf(e:Et):Prop:=(Lit.int .i64 e.T).wf=true∧(Lit.int .i64 e.J).wf=true∧(Lit.int .i64 e.A).wf=true∧(Lit.int .i64 e.B).wf=true
theorem Nrf(n:Nat):∀ (cs:List PV),(Nji n).Is cs→∃ e:In,cs=e.cs∧e.wf:=by
 intro cs h;simp only[Nji]at h;obtain⟨h1,h2,h3,h4,h5,h6,h7,h8⟩:=h;simp only[Sh.width]at h1 h2 h3 h4 h5 h6 h7 h8;obtain⟨d,e1⟩:=Nj0 h1;obtain⟨o,e2⟩:=Nj0 h2;obtain⟨j,e3,w3⟩:=NcR h3;obtain⟨i,e4,w4⟩:=NcR h4;obtain⟨t,e5,w5⟩:=NcR h5;obtain⟨m,e6,w6⟩:=NcR h6;obtain⟨l,e7,w7b,v7⟩:=Nih (Nib n) (Npm n) h7;have w8:l.length * 56≤reachBytes:=by
  cases n with
  |zero =>
    have:l=[]:=by
     cases l with
     |nil=>rfl
     |cons a r =>
       obtain⟨n',ps,q1,q2,q3,q4⟩:=h7;rw[e7]at q1;simp only[List.take_succ_cons,List.take_zero,List.cons.injEq,PV.fsl.injEq,and_true]at q1;exact absurd (q4 0 (by rw[←q1.1];simp)) (by simp[Nfr,Sh.Is])
    rw[this];simp
  |succ n=>exact w7b
 have w7:l.length≤reachBytes:=Nat.le_trans (Nat.le_mul_of_pos_right _ Zaa) w8;refine⟨⟨d,o,j,i,t,m,false,l⟩,?_,w8,w3,w4,w5,w6,w7,Exs.wf_of v7⟩;simp only[Sh.Is]at h8;unfold In.cs;rw[e1,e2,e3,e4,e5,e6,e7,h8,←Exs.flat];rfl
theorem Nrg{cs:List PV}(h:Sh.s.Is cs):∃ s:List UInt8,cs=[.s s]∧s.length≤reachBytes:=by
 obtain⟨n,h1,h2⟩:=h;exact⟨n,h1,h2⟩
theorem Nrh(n:Nat):∀ (cs:List PV),(Njk n).Is cs→∃ e:Tx,cs=e.cs∧e.wf:=by
 intro cs h;simp only[Njk]at h;obtain⟨h1,h2,h3,h4⟩:=h;simp only[Sh.width]at h1 h2 h3 h4;obtain⟨s,e1,w1⟩:=NqC h1;obtain⟨l,e2,w2,v2⟩:=NeX (show Sh.s.width=1 from rfl) (fun qs hq=>Nrg hq) h2;obtain⟨c,e3,w3,v3⟩:=NeX (NmQ n) (Nrf n) h3;refine⟨⟨s,false,l,false,c⟩,?_,w1,w2,w3,v2,v3⟩;simp only[Sh.Is]at h4;unfold Tx.cs;rw[e1,e2,e3,h4];rfl
theorem Nrc(n:Nat):∀ (cs:List PV),(Njw n).Is cs→∃ c:Cd,cs=c.cs∧c.wf:=by
 intro cs h;simp only[Njw]at h;obtain⟨h1,h2,h3⟩:=h;simp only[Sh.width]at h1 h2 h3;obtain⟨d,e1,w1,v1⟩:=NeX (show dcSh.width=5 from rfl) Nrd h1;obtain⟨t,e2,w2,v2⟩:=NeX (Nm6 n) (Nrh n) h2;refine⟨⟨false,d,false,t⟩,?_,w1,w2,v1,v2⟩;simp only[Sh.Is]at h3;unfold Cd.cs;rw[e1,e2,h3];rfl
theorem Nre:∀ (cs:List PV),etSh.Is cs→∃ e:Et,cs=e.cs∧e.wf:=by
 intro cs h;simp only[etSh]at h;obtain⟨h1,h2,h3,h4,h5,h6⟩:=h;simp only[Sh.width]at h1 h2 h3 h4 h5 h6;obtain⟨t,e1,w1⟩:=NcR h1;obtain⟨o,e2⟩:=Nj0 h2;obtain⟨j,e3,w3⟩:=NcR h3;obtain⟨a,e4,w4⟩:=NcR h4;obtain⟨b,e5,w5⟩:=NcR h5;refine⟨⟨t,o,j,a,b⟩,?_,w1,w3,w4,w5⟩;simp only[Sh.Is]at h6;unfold Et.cs;rw[e1,e2,e3,e4,e5,h6]
section
variable {P:Program}
theorem NnS{tI tD tO tJ tN tL tE:TypeId}{fs:Array Field}(hI:P.underlying tI=some (.struct fs))(hfs:(fs.toList.map fun f=>(f.type,f.offset))=[(tD,0),(tO,1),(tJ,2),(tJ,3),(tJ,4),(tN,5),(tL,6)])
 (hD:P.underlying tD=some (.int .u8)) (hO:P.underlying tO=some (.int .u8)) (hJ:P.underlying tJ=some (.int .i64)) (hN:P.underlying tN=some (.int .i64)) (hL:P.underlying tL=some (.slice tE))
 (cI:P.cellsOf tI=7) (cE:P.cellsOf tE=4) (cD:P.cellsOf tD=1) (cO:P.cellsOf tO=1) (cJ:P.cellsOf tJ=1) (cN:P.cellsOf tN=1) (cL:P.cellsOf tL=1) (hb:56≤P.bytesOf tE) (hE:∀ n,(Nfr n).fits P (.inl tE)=true) (n:Nat):(Nji n).fits P (.inl tI)=true:=by
 have hb0:0<P.bytesOf tE:=by omega
 have hle:(Nfr n).low≤P.bytesOf tE:=Nat.le_trans (Nia n) hb;simp[Nji,Sh.fits,hI,hfs,hD,hO,hJ,hN,hL,cI,cE,cD,cO,cJ,cN,cL,hb0,hle,Sh.width,Nib,hE n]
theorem NoE{tT tS tL tC tI:TypeId}{fs:Array Field}(hT:P.underlying tT=some (.struct fs))(hfs:(fs.toList.map fun f=>(f.type,f.offset))=[(tS,0),(tL,1),(tC,2)])
 (hS:P.underlying tS=some .string) (hL:P.underlying tL=some (.slice tS)) (hC:P.underlying tC=some (.slice tI)) (cT:P.cellsOf tT=3) (cS:P.cellsOf tS=1) (cL:P.cellsOf tL=1) (cC:P.cellsOf tC=1) (cI:P.cellsOf tI=7) (hb:0<P.bytesOf tS) (hb2:0<P.bytesOf tI) (hI:∀ n,(Nji n).fits P (.inl tI)=true) (n:Nat):(Njk n).fits P (.inl tT)=true:=by
 simp[Njk,Sh.fits,hT,hfs,hS,hL,hC,cT,cS,cL,cC,cI,hb,hb2,Sh.width,NmQ,show Sh.s.low=1 from rfl,show(Nji n).low=1 from rfl,show 1≤P.bytesOf tS from hb,show 1≤P.bytesOf tI from hb2,hI n]
theorem Nnh{tC tA tB tD tT:TypeId}{fs:Array Field}(hP:P.underlying tC=some (.struct fs))(hfs:(fs.toList.map fun f=>(f.type,f.offset))=[(tA,0),(tB,1)])
 (hA:P.underlying tA=some (.slice tD)) (hB:P.underlying tB=some (.slice tT)) (cP:P.cellsOf tC=2) (cA:P.cellsOf tA=1) (cB:P.cellsOf tB=1) (cD:P.cellsOf tD=5) (cT:P.cellsOf tT=3) (hd:0<P.bytesOf tD) (ht:0<P.bytesOf tT) (hD:dcSh.fits P (.inl tD)=true) (hT:∀ n,(Njk n).fits P (.inl tT)=true) (n:Nat):(Njw n).fits P (.inl tC)=true:=by
 have wd:dcSh.width=5:=rfl;simp[Njw,Sh.fits,hP,hfs,hA,hB,cP,cA,cB,cD,cT,hd,ht,Sh.width,wd,Nm6,show dcSh.low=1 from rfl,show(Njk n).low=1 from rfl,show 1≤P.bytesOf tD from hd,show 1≤P.bytesOf tT from ht,hD,hT n]
end
end Go.Pe
namespace Go.Pe
open Go Go.Am
abbrev Ch:=Int×Int
section
variable (th:Nat→Int) (gv tk:Nat→List Ch)
def Hd(i j:Nat):Prop:=i<j∧(th i=th j∨∃ k,k∈gv i∧k∈tk j)
inductive Ah:Nat→Nat→Prop
 |one {i j}:Hd th gv tk i j→Ah i j
 |step {i k j}:Ah i k→Hd th gv tk k j→Ah i j
def cn(t:Int):Nat→Int
 |0=>0
 |j+1=>cn t j+if th j=t then 1 else 0
end
section
variable {th:Nat→Int}{gv tk:Nat→List Ch}
theorem Ah.lt{i j:Nat}(h:Ah th gv tk i j):i<j:=by
 induction h with
 |one h=>exact h.1
 |step _ h ih=>exact Nat.lt_trans ih h.1
theorem Ah.trans{i j k:Nat}(h:Ah th gv tk i j)(g:Ah th gv tk j k):Ah th gv tk i k:=by
 induction g with
 |one g=>exact .step h g
 |step _ g ih=>exact .step ih g
theorem NeC{t:Int}{i:Nat}:∀ {j:Nat},i≤j→cn th t i≤cn th t j
 |0,h=>by rw[show i=0 by omega];exact Int.le_refl _
 |j+1,h=>by
   by_cases e:i=j+1
   ·rw[e];exact Int.le_refl _
   ·have:=NeC (t:=t) (show i≤j by omega);rw[cn];split<;>omega
theorem NgA(t:Int)(j:Nat):0≤cn th t j:=by
 have:=NeC (th:=th) (t:=t) (Nat.zero_le j);simpa[cn]using this
theorem Nln(t:Int):∀ j:Nat,cn th t j≤j
 |0=>by simp[cn]
 |j+1=>by have:=Nln t j;rw[cn];split<;>omega
structure Ck(th:Nat→Int)(gv tk:Nat→List Ch)(N:Nat)(V:Nat→Int→Int):Prop where
 lo:∀ i j,j<N→Hd th gv tk i j→∀ t,V i t≤V j t
 own:∀ j,j<N→V j (th j)=cn th (th j) (j+1)
 up:∀ j,j<N→∀ t,0<V j t→t=th j∨∃ i,Hd th gv tk i j∧V j t=V i t
theorem Ck.last{N:Nat}{V:Nat→Int→Int}(h:Ck th gv tk N V):∀ (n j:Nat),j<n→j<N→∀ t,0<V j t→∃ i,th i=t∧V j t=cn th t (i+1)∧(i=j∨Ah th gv tk i j)
 |0,j,hn,_,_,_=>by omega
 |n+1,j,hn,hj,t,hp=>by
   rcases h.up j hj t hp with rfl|⟨i,hi,he⟩
   ·exact⟨j,rfl,h.own j hj,.inl rfl⟩
   ·obtain⟨m,h1,h2,h3⟩:=h.last n i (by have:=hi.1;omega) (by have:=hi.1;omega) t Zaa;refine⟨m,h1,by omega,.inr ?_⟩;rcases h3 with rfl|h3
    ·exact .one hi
    ·exact .step h3 hi
theorem Ck.ahead{N:Nat}{V:Nat→Int→Int}(h:Ck th gv tk N V){i j:Nat}(hij:i<j)(hj:j<N):V i (th i)≤V j (th i)↔Ah th gv tk i j:=by
 have hi:=h.own i Zaa;constructor
 ·intro hle;have h0:=NgA (th:=th) (th i) i;have h1:cn th (th i) (i+1)=cn th (th i) i+1:=by rw[cn,if_pos rfl]
  obtain⟨m,e1,e2,e3⟩:=h.last (j+1) j Zaa hj (th i) Zaa;have him:i≤m:=by
   by_cases hm:m<i
   ·have:=NeC (th:=th) (t:=th i) (show m+1≤i by omega);omega
   ·omega
  by_cases hq:i=m
  ·subst hq;rcases e3 with rfl|e3
   ·omega
   ·exact e3
  ·have hA:Ah th gv tk i m:=.one ⟨by omega,.inl e1.symm⟩;rcases e3 with rfl|e3
   ·exact hA
   ·exact hA.trans e3
 ·intro hA;have:∀ {j},Ah th gv tk i j→j<N→∀ t,V i t≤V j t:=by
   intro j hA
   induction hA with
   |one hh=>exact fun hj t=>h.lo _ _ hj hh t
   |step ha hh ih=>exact fun hj t=>Int.le_trans (ih (by have:=hh.1;omega) t) (h.lo _ _ hj hh t)
  exact this hA hj _
end
structure Wt where
 T:Int→List Int
 C:Ch→List Int
def aT(a:List Int)(t:Int):Int:=if 0≤t then gi a t.toNat else 0
def Na7(C:Ch→List Int):List Ch→List Int→List Int
 |[],n=>n
 |k::r,n=>Na7 C r (NbD n (C k))
def NhP(T:Int→List Int)(t:Int)(v:List Int):Int→List Int:=fun u=>if u=t then v else T u
def NkD(C:Ch→List Int)(k:Ch)(v:List Int):Ch→List Int:=fun u=>if u=k then v else C u
def Ncd:List Ch→List Int→(Ch→List Int)→(Ch→List Int)
 |[],_,C=>C
 |k::r,n,C=>Ncd r n (NkD C k (NbD (C k) n))
def NhT(t:Int)(tk gv:List Ch)(w:Wt):List Int×Wt :=
 let n:=Na7 w.C tk (Nb8 (w.T t) t)
 (n,⟨NhP w.T t n,Ncd gv n w.C⟩)
def NfO(th:Nat→Int)(gv tk:Nat→List Ch):Nat→Wt
 |0=>⟨fun _=>[],fun _=>[]⟩
 |j+1=>(NhT (th j) (tk j) (gv j) (NfO th gv tk j)).2
def NfY(th:Nat→Int)(gv tk:Nat→List Ch)(j:Nat):List Int:=(NhT (th j) (tk j) (gv j) (NfO th gv tk j)).1
section
variable {th:Nat→Int}{gv tk:Nat→List Ch}
theorem Nm9(a b:List Int)(t:Int):aT (NbD a b) t=max (aT a t) (aT b t):=by
 unfold aT;split
 ·exact NlP _ _ _
 ·simp
theorem Nna{a:List Int}{t u:Int}(ht:0≤t)(h64:t<64)(hb:aT a t<9223372036854775807):aT (Nb8 a t) u=if u=t then aT a t+1 else aT a u:=by
 unfold aT at hb ⊢;rw[if_pos ht]at hb;rw[Nc9 ht Zaa,if_pos ht];by_cases hu:0≤u
 ·rw[if_pos hu,if_pos hu,NgK];by_cases he:u=t
  ·subst he;rw[if_pos ⟨rfl,hb⟩,if_pos rfl]
  ·rw[if_neg (fun h=>he Zaa),if_neg he]
 ·rw[if_neg hu,if_neg hu,if_neg Zaa]
theorem NhX:∀ (l:List Ch) (n:List Int) (C:Ch→List Int) (q:Ch) (t:Int),aT (C q) t≤aT (Ncd l n C q) t∧(q∈l→aT n t≤aT (Ncd l n C q) t)∧(aT (Ncd l n C q) t=aT (C q) t∨q∈l∧aT (Ncd l n C q) t=aT n t)
 |[],n,C,q,t=>⟨Int.le_refl _,by simp,.inl rfl⟩
 |k::r,n,C,q,t=>by
   obtain⟨h1,h2,h3⟩:=NhX r n (NkD C k (NbD (C k) n)) q t;rw[Ncd];by_cases hq:q=k
   ·subst hq;have he:aT (NkD C q (NbD (C q) n) q) t=max (aT (C q) t) (aT n t):=(by unfold NkD;rw[if_pos rfl,Nm9]);rw[he]at h1 h3;refine⟨by omega,fun _=>by omega,?_⟩;rcases h3 with h3|⟨hm,h3⟩
    ·by_cases hm:aT n t≤aT (C q) t
     ·left;omega
     ·right;exact⟨by simp,by omega⟩
    ·right;exact⟨by simp,h3⟩
   ·have he:NkD C k (NbD (C k) n) q=C q:=(by unfold NkD;rw[if_neg hq]);rw[he]at h1 h3;refine⟨h1,fun hm=>h2 (by simpa[hq]using hm),?_⟩;rcases h3 with h3|⟨hm,h3⟩
    ·left;exact h3
    ·right;exact⟨by simp[hm],h3⟩
structure Kn(th:Nat→Int)(gv tk:Nat→List Ch)(j:Nat)(w:Wt):Prop where
 tlo:∀ i,i<j→∀ t,aT (NfY th gv tk i) t≤aT (w.T (th i)) t
 tup:∀ u t,aT (w.T u) t=0∨∃ i,i<j∧th i=u∧aT (w.T u) t=aT (NfY th gv tk i) t
 town:∀ u,0≤u→aT (w.T u) u=cn th u j
 tle:∀ u t,0≤aT (w.T u) t∧aT (w.T u) t≤cn th t j
 clo:∀ i,i<j→∀ k,k∈gv i→∀ t,aT (NfY th gv tk i) t≤aT (w.C k) t
 cup:∀ k t,aT (w.C k) t=0∨∃ i,i<j∧k∈gv i∧aT (w.C k) t=aT (NfY th gv tk i) t
 cle:∀ k t,0≤aT (w.C k) t∧aT (w.C k) t≤cn th t j
theorem Ngu(t:Int):aT [] t=0:=by unfold aT;split<;>simp[gi]
theorem Kn.zero:Kn th gv tk 0 ⟨fun _=>[],fun _=>[]⟩ where
 tlo:=fun i h=>by omega
 tup:=fun u t=>.inl (Ngu t)
 town:=fun u _=>by rw[Ngu];rfl
 tle:=fun u t=>by rw[Ngu];exact⟨by omega,by rw[cn];omega⟩
 clo:=fun i h=>by omega
 cup:=fun k t=>.inl (Ngu t)
 cle:=fun k t=>by rw[Ngu];exact⟨by omega,by rw[cn];omega⟩
structure Nw(th:Nat→Int)(gv tk:Nat→List Ch)(j:Nat):Prop where
 lo:∀ i,Hd th gv tk i j→∀ t,aT (NfY th gv tk i) t≤aT (NfY th gv tk j) t
 own:aT (NfY th gv tk j) (th j)=cn th (th j) (j+1)
 le:∀ t,0≤aT (NfY th gv tk j) t∧aT (NfY th gv tk j) t≤cn th t (j+1)
 up:∀ t,t=th j∨aT (NfY th gv tk j) t=0∨∃ i,Hd th gv tk i j∧aT (NfY th gv tk j) t=aT (NfY th gv tk i) t
 tge:∀ t,aT ((NfO th gv tk j).T (th j)) t≤aT (NfY th gv tk j) t
theorem Kn.next{j:Nat}(h:Kn th gv tk j (NfO th gv tk j))(n:Nw th gv tk j):Kn th gv tk (j+1) (NfO th gv tk (j+1)):=by
 have hc:NfY th gv tk j=Na7 (NfO th gv tk j).C (tk j) (Nb8 ((NfO th gv tk j).T (th j)) (th j)):=rfl;have hT:(NfO th gv tk (j+1)).T=NhP (NfO th gv tk j).T (th j) (NfY th gv tk j):=rfl;have hC:(NfO th gv tk (j+1)).C=Ncd (gv j) (NfY th gv tk j) (NfO th gv tk j).C:=rfl;have hmono:∀ t,cn th t j≤cn th t (j+1):=fun t=>NeC Zaa;have hG:=fun q t=>NhX (gv j) (NfY th gv tk j) (NfO th gv tk j).C q t;refine⟨?_,?_,?_,?_,?_,?_,?_⟩
 ·intro i hi t;rw[hT];unfold NhP;by_cases e:th i=th j
  ·rw[if_pos e];by_cases hij:i=j
   ·subst hij;exact Int.le_refl _
   ·exact n.lo i ⟨by omega,.inl e⟩ t
  ·rw[if_neg e];exact h.tlo i (by rcases Nat.lt_succ_iff_lt_or_eq.1 hi with a|a;exact a;subst a;exact absurd rfl e) t
 ·intro u t;rw[hT];unfold NhP;by_cases e:u=th j
  ·rw[if_pos e];exact .inr ⟨j,by omega,e.symm,rfl⟩
  ·rw[if_neg e];rcases h.tup u t with a|⟨i,i1,i2,i3⟩
   ·exact .inl a
   ·exact .inr ⟨i,by omega,i2,i3⟩
 ·intro u h0;rw[hT];unfold NhP;by_cases e:u=th j
  ·rw[if_pos e,e];exact n.own
  ·rw[if_neg e,h.town u h0,cn,if_neg (Ne.symm e)];omega
 ·intro u t;rw[hT];unfold NhP;have:=hmono t;split
  ·exact n.le t
  ·have:=h.tle u t;omega
 ·intro i hi k hk t;rw[hC];obtain⟨g1,g2,-⟩:=hG k t;by_cases hij:i=j
  ·subst hij;exact g2 hk
  ·have:=h.clo i Zaa k hk t;omega
 ·intro k t;rw[hC];rcases(hG k t).2.2 with a|⟨hm,a⟩
  ·rw[a];rcases h.cup k t with b|⟨i,i1,i2,i3⟩
   ·exact .inl b
   ·exact .inr ⟨i,by omega,i2,i3⟩
  ·exact .inr ⟨j,by omega,hm,a⟩
 ·intro k t;rw[hC];have:=hmono t;have hn:=n.le t;have hk:=h.cle k t;rcases(hG k t).2.2 with a|⟨hm,a⟩<;>rw[a]<;>omega
end
end Go.Pe
namespace Go.Pe
open Go Go.Am Go.RowKit
structure MK{α:Type}[DecidableEq α](κ:α→PV)(ck:Nat)(es:List (PV×PV))(f:α→Option PV):Prop where
 keys:∀ p,p∈es→∃ a,p.1=κ a
 get:∀ a,Na3 ck (κ a) es=some (f a)
section
variable {α:Type} [DecidableEq α] {κ:α→PV}{ck:Nat}
def KEq(κ:α→PV)(ck:Nat):Prop:=∀ a b,eq1 ck (κ a) (κ b)=some (decide (a=b))
theorem KEq.self(h:KEq κ ck)(a:α)(e:ck=3):eq1 3 (κ a) (κ a)=some true:=by
 have:=h a a;rw[e]at this;simpa using this
theorem MK.nil(h:KEq κ ck):MK κ ck [] fun _=>none:=by
 refine⟨by simp,fun a=>?_⟩;rw[Na3];split
 ·rename_i e;rw[h.self a e];rfl
 ·rfl
theorem MK.tail{p:PV×PV}{es:List (PV×PV)}{a:α}(h:KEq κ ck)(hp:p.1=κ a){f:α→Option PV}(hm:MK κ ck (p::es) f):∃ g,MK κ ck es g∧f=fun b=>if b=a then some p.2 else g b:=by
 have h2:∀ b,b≠a→Na3 ck (κ b) es=some (f b):=fun b hb=>by
  have:=hm.get b;rw[show p=(p.1,p.2)from rfl,Na3,hp,h b a,decide_eq_false hb]at this;exact this
 have h3:∃ g:Option PV,Na3 ck (κ a) es=some g:=by
  have key:∀ l:List (PV×PV),(∀ q,q∈l→∃ a,q.1=κ a)→∃ g:Option PV,Na3 ck (κ a) l=some g:=by
   intro l
   induction l with
   |nil=>intro _;exact⟨none,(MK.nil h).get a⟩
   |cons q r ih =>
     intro hq;obtain⟨b,hb⟩:=hq q Zag;obtain⟨g,hg⟩:=ih fun x hx=>hq x (by simp[hx])
     rw[show q=(q.1,q.2)from rfl,Na3,hb,h a b];by_cases e:a=b
     ·rw[decide_eq_true e];exact⟨_,rfl⟩
     ·rw[decide_eq_false e];exact⟨g,hg⟩
  exact key es fun q hq=>hm.keys q (by simp[hq])
 obtain⟨g,hg⟩:=h3;refine⟨fun b=>if b=a then g else f b,⟨fun q hq=>hm.keys q (by simp[hq]),fun b=>?_⟩,?_⟩
 ·by_cases e:b=a
  ·subst e;rw[hg];simp
  ·rw[h2 b e];simp[e]
 ·funext b;by_cases e:b=a
  ·subst e;have:=hm.get b;rw[show p=(p.1,p.2)from rfl,Na3,hp,h b b,decide_eq_true rfl]at this;simp only[Sj]at this;simp[←this]
  ·simp[e]
theorem MK.put(h:KEq κ ck)(a:α)(v:PV):∀ {es:List (PV×PV)}{f:α→Option PV},MK κ ck es f→∃ es',Nbm ck (κ a) v es=some es'∧MK κ ck es' fun b=>if b=a then some v else f b
 |[],f,hm=>by
   have hf:f=fun _=>none:=by
    funext b;have:=hm.get b;rw[(MK.nil h).get b]at this;simpa using this.symm
   subst hf;refine⟨[(κ a,v)],?_,?_⟩
   ·rw[Nbm];split
    ·rename_i e;rw[h.self a e];rfl
    ·rfl
   ·refine⟨fun p hp=>⟨a,by simp at hp;rw[hp]⟩,fun b=>?_⟩;rw[Na3,h b a];by_cases e:b=a
    ·rw[decide_eq_true e];simp[e]
    ·rw[decide_eq_false e];simp only[e,if_false];exact(MK.nil h).get b
 |p::es,f,hm=>by
   obtain⟨c,hc⟩:=hm.keys p Zag;obtain⟨g,hg,rfl⟩:=hm.tail h hc;rw[show p=(p.1,p.2)from rfl,Nbm,hc,h a c];by_cases e:a=c
   ·subst e;rw[decide_eq_true rfl];refine⟨_,rfl,fun q hq=>?_,fun b=>?_⟩
    ·rcases List.mem_cons.1 hq with rfl|hq
     ·exact⟨a,rfl⟩
     ·exact hg.keys q hq
    ·rw[Na3,h b a];by_cases e:b=a
     ·rw[decide_eq_true e];simp[e]
     ·rw[decide_eq_false e];simp only[e,if_false];exact hg.get b
   ·rw[decide_eq_false e];obtain⟨es',h1,h2⟩:=MK.put h a v hg;rw[h1];refine⟨_,rfl,fun q hq=>?_,fun b=>?_⟩
    ·rcases List.mem_cons.1 hq with rfl|hq
     ·exact⟨c,rfl⟩
     ·exact h2.keys q hq
    ·rw[Na3,h b c];by_cases e2:b=c
     ·rw[decide_eq_true e2];subst e2;simp[Ne.symm e]
     ·rw[decide_eq_false e2];simp only[h2.get b];simp[e2]
end
section
variable {st base:St}{a n:List Int}{v:PV}{cfg:Cfg}{b fuel N O B W Cm:Nat}
def NnT(n:Int):PV:=.i .i64 n
def chP(q:Ch):PV:=.agg [.i .i64 q.1,.i .i64 q.2]
theorem NcC:KEq NnT 0:=fun a b=>by
 simp only[NnT,eq1,and_self,if_true,Sj];rw[Bool.eq_iff_iff];simp
theorem NmS:KEq chP 3:=fun a b=>by
 rw[show chP a=.agg [.i .i64 a.1,.i .i64 a.2]from rfl,show chP b=.agg [.i .i64 b.1,.i .i64 b.2]from rfl];simp only[eq1,and_self,if_true,Sj];by_cases h:a=b
 ·subst h;simp
 ·rw[decide_eq_false h];cases h1:(a.1==b.1)with
  |false=>rfl
  |true =>
    cases h2:(a.2==b.2)with
    |false=>rfl
    |true=>exact absurd (Prod.ext (by simpa using h1) (by simpa using h2)) h
def CV(st:St)(b:Nat)(v:PV)(a:List Int):Prop:=(v=.nsl∧a=[])∨a≠[]∧∃ k,v=.rsl k 1 0 a.length∧k<b∧st.get k=some (.cells (NaI a) false)
theorem CV.move{st':St}{b':Nat}(h:CV st b v a)(hb:b≤b')(hg:∀ j,j<b→j∈keyOf v→st'.get j=st.get j):CV st' b' v a:=by
 rcases h with h|⟨h0,k,rfl,h1,h2⟩
 ·exact .inl h
 ·exact .inr ⟨h0,k,rfl,by omega,by rw[hg k h1 (by simp[keyOf])];exact h2⟩
theorem NfF(a:List Int):(NaI a).all PV.flat=true:=by simp[NaI,PV.flat]
theorem CV.deep(h:CV st b v a):∃ w,Go.Pe.deep st 12 v=some w∧inNs w=some a:=by
 rcases h with⟨rfl,rfl⟩|⟨h0,k,rfl,h1,h2⟩
 ·exact⟨.nsl,rfl,rfl⟩
 ·refine⟨_,?_,NlT h0⟩;show Go.Pe.deep st (11+1) _=_;unfold Go.Pe.deep;simp only[h2,cut?,Nat.zero_add,List.drop_zero];rw[if_pos (by rw[NaH];omega),Nat.mul_one,←NaH a,List.take_length];have:mapO (Go.Pe.deep st 11) (NaI a)=some (NaI a):=by
   generalize a=l;clear h0 h1 h2
   induction l with
   |nil=>rfl
   |cons c r ih =>
     have e:Go.Pe.deep st 11 (.i .i64 c)=some (.i .i64 c):=rfl;show mapO _ (.i .i64 c::NaI r)=_;simp only[mapO,e,ih];rfl
  simp only[this];rfl
theorem CV.one(h:CV st b v a):v.one=true:=by
 rcases h with⟨rfl,rfl⟩|⟨h0,k,rfl,h1,h2⟩<;>rfl
theorem CV.cells1(h:CV st b v a):v.cells=[v]:=by
 rcases h with⟨rfl,rfl⟩|⟨h0,k,rfl,h1,h2⟩<;>rfl
structure CfgR(cfg:Cfg):Prop where
 fn:∀ f m,Ndt f tblL=some m→cfg.fn f=some m
 jn:cfg.ext 87=some gJoin
 tk:cfg.ext 56=some gTick
 r1:cfg.ext 85=none
 r2:cfg.ext 48=none
 r3:cfg.ext 86=none
 r4:cfg.ext 88=none
 r5:cfg.ext 117=none
 r6:cfg.ext 49=none
 r7:cfg.ext 30=none
 r8:cfg.ext 29=none
theorem Nij(hc:CfgR cfg){callE:CallE}{p q:PV}{xs ys:List Int}(hp:inNs p=some xs)(hq:inNs q=some ys)(h1:NaW xs=true)(h2:NaW ys=true)(hn:NbD xs ys≠[]) :
 Nai cfg callE 87 [p,q]=some (.osl 1 (NbD xs ys).length (NaI (NbD xs ys))):=by
 rw[Nbp hc.jn];unfold gJoin;simp only[hp,hq];rw[if_pos ⟨h1,h2,hn⟩]
theorem NbB(xs:List Int):(PV.osl 1 xs.length (NaI xs)).closedB=true:=by
 show(NaI xs).all (PV.closed 11)=true;simp[NaI,PV.closed]
theorem Neh{xs ys:List Int}(h:xs≠[]):NbD xs ys≠[]:=by
 intro e;have:=NbC xs ys;rw[e]at this;simp only[List.length_nil]at this;exact h (List.eq_nil_of_length_eq_zero Zaa)
theorem CV.new{k:Nat}(h0:a≠[])(hk:k<st.cnt)(hg:st.get k=some (.cells (NaI a) false)):CV st st.cnt (.rsl k 1 0 a.length) a:=.inr ⟨h0,k,rfl,hk,hg⟩
theorem NoA(hc:CfgR cfg){c1 c2 tm:PV}{k:Ch}{fs:List (PV×PV)}{f:Ch→Option PV}
 (hN:st.get N=some (.cells [v] false)) (hv:CV st st.cnt v n) (hB:st.get B=some (.cells [.ptr W 0] false)) (hW:st.get W=some (.cells [c1,c2,tm,.mp Cm] false)) (hC:st.get Cm=some (.map fs)) (hm:MK chP 3 fs f) (hf:CV st st.cnt ((f k).getD .nsl) a)
 (hn:n≠[]) (s1:NaW n=true) (s2:NaW a=true) (lN:N<st.cnt) (lB:B<st.cnt) (lW:W<st.cnt) (lC:Cm<st.cnt) :
 ∃ r st',NaK cfg (fuel+1) 86 [chP k,.ptr N 0,.ptr B 0] st=some (r,st')∧(∃ v',st'.get N=some (.cells [v'] false)∧CV st' st'.cnt v' (NbD n a)∧(∀ j,j∈keyOf v'→st.cnt≤j)∧(∀ j,j<st.cnt→j≠N→st'.get j=st.get j)∧st.cnt≤st'.cnt):=by
 refine NaB (hc.fn _ _ (by kernel_rfl):cfg.fn 86=some m86) ?_;delta m86 Qr Qf Qc Ql Qt Qn Qi Qw chP;obtain⟨sto,c⟩:=st;have hN':∀ n',St.get ⟨sto,n'⟩ N=_:=fun _=>hN;have hB':∀ n',St.get ⟨sto,n'⟩ B=_:=fun _=>hB;have hW':∀ n',St.get ⟨sto,n'⟩ W=_:=fun _=>hW;have hC':∀ n',St.get ⟨sto,n'⟩ Cm=_:=fun _=>hC;simp only at lN lB lW lC;have hg:Na3 3 (.agg [.i .i64 k.1,.i .i64 k.2]) fs=some (f k):=hm.get k;simp only[Nao]
 iterate 2
  (try rw[Z0]);(try simp(disch:=first|omega|rfl|assumption)only[↓Yaa,Yab,Nae,Naa,rA,rB,rC,rD,reduceIte,unP,rE,hN',hB',hW',hC',hg,Option.map_some])
 have hput:∀ (o:Option PObj) (n' j:Nat),j<c→St.get ⟨(St.put ⟨sto,c+8⟩ c o).sto,n'⟩ j=St.get ⟨sto,c⟩ j:=fun o n' j hj=>by
  show St.get (St.put ⟨sto,c+8⟩ c o) j=_;rw[Yae Zaa];rfl
 obtain⟨pv,d1,i1⟩:=(hv.move (b':=c) (st':=⟨(St.put ⟨sto,c+8⟩ c (some (.cells [.i .i64 k.1,.i .i64 k.2] false))).sto,c+80⟩) (Nat.le_refl _) fun j hj _=>hput _ _ j hj).deep;obtain⟨pf,d2,i2⟩:=(hf.move (b':=c) (st':=⟨(St.put ⟨sto,c+8⟩ c (some (.cells [.i .i64 k.1,.i .i64 k.2] false))).sto,c+80⟩) (Nat.le_refl _) fun j hj _=>hput _ _ j hj).deep;refine Ndk (Na4 d1 d2) (Nij hc i1 i2 s1 s2 (Neh hn)) (NbB _) (by rw[NaH,Nat.mul_one]) Zad ?_;intro st' hown hget hcnt hj;have hold:∀ j,j<c→st'.get j=St.get ⟨sto,c⟩ j:=fun j hj2=>(hj j Zaa).trans (hput _ _ j hj2);have hN2:st'.get N=some (.cells [v] false):=(hold N lN).trans hN;simp only at hcnt;simp(disch:=first|omega|rfl|assumption)only[↓Yaa,Yac,Nae,Naa,rA,rB,rC,rD,reduceIte,unP,Xm,rE,hN2];exact⟨nofun,_,rfl,_,rfl,CV.new (Neh hn) (by simp only[Z0L_];omega) (by rw[Yae (by omega)];exact hget),by simp[keyOf],fun j hj1 hj2=>by rw[Yae Zaa];exact hold j hj1⟩
theorem NnP(hc:CfgR cfg){tv:PV}{to:List Ch}{k:Ch}
 (hO:st.get O=some (.cells [tv] false)) (hv:Own st 2 tv to.length (to.flatMap fun q=>[.i .i64 q.1,.i .i64 q.2])) (hne:O∉keyOf tv) (lO:O<st.cnt) (hl:to.length<1000) :
 ∃ r st',NaK cfg (fuel+1) 88 [chP k,.ptr O 0] st=some (r,st')∧(∃ v',st'.get O=some (.cells [v'] false)∧Own st' 2 v' (to++[k]).length ((to++[k]).flatMap fun q=>[.i .i64 q.1,.i .i64 q.2])∧(∀ j,j∈keyOf v'→st.cnt≤j)∧(∀ j,j<st.cnt→j≠O→j∉keyOf tv→st'.get j=st.get j)∧st.cnt≤st'.cnt):=by
 refine NaB (hc.fn _ _ (by kernel_rfl):cfg.fn 88=some m88) ?_;delta m88 Ql Qt Qn Qi Qw chP;obtain⟨sto,c⟩:=st;have hO':∀ n',St.get ⟨sto,n'⟩ O=_:=fun _=>hO;simp only at lO;simp only[Nao]
 iterate 2
  (try rw[Z0]);(try simp(disch:=first|omega|rfl|assumption)only[↓Yaa,Yab,Nae,Naa,rA,rB,rC,rD,reduceIte,unP,rE,hO',Nay])
 have hput:∀ (o o2:Option PObj) (n' n2 j:Nat),j<c→St.get (St.put ⟨(St.put ⟨sto,n2⟩ c o).sto,n'⟩ (c+24) o2) j=St.get ⟨sto,c⟩ j:=fun o o2 n' n2 j hj=>by
  rw[Yae Zaa];show St.get (St.put ⟨sto,n2⟩ c o) j=_;rw[Yae Zaa];rfl
 refine Ncw (hv.move (by simp only[Z0L_];omega) fun j _ hj=>hput _ _ _ _ j hj) (by simp only[Z0L_];omega) (fun h=>by have:=hv.lt _ h;simp only at this;omega) rfl Zaa (by unfold Na0;omega) ?_;intro v' st' hown hcnt hkey hj;have hold:∀ j,j<c→j∉keyOf tv→st'.get j=St.get ⟨sto,c⟩ j:=fun j hj2 hj3=>(hj j Zaa hj3).trans (hput _ _ _ _ j hj2);have hO2:st'.get O=some (.cells [tv] false):=(hold O lO hne).trans hO;simp only[Z0L_]at hcnt;have hv1:v'.one=true∧v'.cells=[v']:=by rcases hown with⟨rfl,_⟩|⟨_,rfl,_⟩<;>exact⟨rfl,rfl⟩
 simp(disch:=first|omega|rfl|assumption)only[↓Yaa,Yac,Nae,Naa,rA,rB,rC,rD,reduceIte,unP,Xm,rE,hO2,hv1.1,hv1.2];have hk1:∀ k,k∈keyOf v'→k≠O:=fun k hk=>by have:=hkey k hk;omega
 exact⟨nofun,_,rfl,_,rfl,by
  rw[List.flatMap_append,List.length_append];exact hown.put (fun h=>(hk1 O h) rfl),fun j h=>by have:=hkey j h;omega,fun j hj1 hj2 hj3=>by rw[Yae (Ne.symm hj2)];exact hold j hj1 hj3⟩
def Nqv(l:List Ch):List PV:=l.flatMap fun q=>[.i .i64 q.1,.i .i64 q.2]
theorem Nli(l:List Ch):(Nqv l).length=l.length * 2:=NaM (f:=fun q:Ch=>[.i .i64 q.1,.i .i64 q.2]) (w:=2) (fun _=>rfl) l
structure WS(base st:St)(N O:Nat)(n:List Int)(to:List Ch):Prop where
 cnt:base.cnt≤st.cnt
 fr:∀ j,j<base.cnt→j≠N→j≠O→st.get j=base.get j
 vt:∃ v tv,st.get N=some (.cells [v] false)∧CV st st.cnt v n∧st.get O=some (.cells [tv] false)∧Own st 2 tv to.length (Nqv to)∧(∀ k,k∈keyOf tv→base.cnt≤k)∧∀ k,k∈keyOf v→k∉keyOf tv∧k≠N∧k≠O∧N≤k+8
structure WBs(base:St)(N O B W Cm:Nat)(C:Ch→List Int):Prop where
 lt:N<base.cnt∧O<base.cnt∧B<base.cnt∧W<base.cnt∧Cm<base.cnt
 ne:N≠O∧B≠N∧B≠O∧W≠N∧W≠O∧Cm≠N∧Cm≠O
 gB:base.get B=some (.cells [.ptr W 0] false)
 gW:∃ c1 c2 tm,base.get W=some (.cells [c1,c2,tm,.mp Cm] false)
 gC:∃ fs f,base.get Cm=some (.map fs)∧MK chP 3 fs f∧∀ q,CV base base.cnt ((f q).getD .nsl) (C q)∧∀ k,k∈keyOf ((f q).getD .nsl)→k≠N∧k≠O
 sh:∀ q,NaW (C q)=true
theorem Nc7{b:List Int}(ha:NaW a=true)(hb:NaW b=true):NaW (NbD a b)=true:=by
 have hg:∀ {a:List Int},NaW a=true→a.length<1000∧∀ i,0≤gi a i∧gi a i≤9223372036854775807:=by
  intro a ha;unfold NaW at ha;simp only[Bool.and_eq_true,List.all_eq_true,decide_eq_true_eq]at ha;refine⟨by have:=ha.1;simp[Nat.blt]at this;omega,fun i=>?_⟩;by_cases h:i<a.length
  ·rw[Nea h];exact ha.2 _ (List.getElem_mem h)
  ·rw[NdF Zaa];omega
 obtain⟨l1,g1⟩:=hg ha;obtain⟨l2,g2⟩:=hg hb;unfold NaW;simp only[Bool.and_eq_true,List.all_eq_true,decide_eq_true_eq];refine⟨by rw[NbC];simp[Nat.blt];omega,fun x hx=>?_⟩;unfold NbD at hx;obtain⟨i,-,rfl⟩:=List.mem_map.1 hx;have:=g1 i;have:=g2 i;omega
theorem WS.grow{st':St}{to:List Ch}(h:WS base st N O n to)(hN:N<st.cnt)(hO:O<st.cnt)(hc:st.cnt≤st'.cnt)(hg:∀ j,j<st.cnt→st'.get j=st.get j):WS base st' N O n to:=by
 obtain⟨v,tv,h1,h2,h3,h4,h5,h6⟩:=h.vt;have hb:=h.cnt;exact⟨by omega,fun j a b c=>(hg j Zaa).trans (h.fr j a b c),v,tv,(hg N hN).trans h1,h2.move hc fun j hj _=>hg j hj,(hg O hO).trans h3,h4.move hc fun j _ hj=>hg j hj,h5,h6⟩
theorem Nba(hc:CfgR cfg){C:Ch→List Int}{to:List Ch}{k:Ch}{ok:Bool}(hb:WBs base N O B W Cm C)(hw:WS base st N O n to)(hn:n≠[])(sn:NaW n=true) :
 ∃ r st',NaK cfg (fuel+2) 117 [.b ok,.fn 86 [.ptr N 0,.ptr B 0],chP k] st=some (r,st')∧WS base st' N O (if ok=true then NbD n (C k)else n) to:=by
 refine NaB (hc.fn _ _ (by kernel_rfl):cfg.fn 117=some m117) ?_;delta m117 Qa Ql Qt Qi Qw chP;obtain⟨l1,l2,l3,l4,l5⟩:=hb.lt;obtain⟨d1,d2,d3,d4,d5,d6,d7⟩:=hb.ne;have hcn:=hw.cnt;obtain⟨sto,c⟩:=st;simp only at hcn;obtain⟨X,hX⟩:∃ X:St→Prop,X=fun st'=>WS base st' N O (if ok=true then NbD n (C k)else n) to:=⟨_,rfl⟩
 simp only[show ∀ st',WS base st' N O (if ok=true then NbD n (C k)else n) to=X st' from fun _=>by rw[hX]];simp only[Nao];have hgr:∀ (o:Option PObj) (n1 n2 j:Nat),j<c→St.get ⟨(St.put ⟨sto,n1⟩ c o).sto,n2⟩ j=St.get ⟨sto,c⟩ j:=fun o n1 n2 j hj=>by
  show St.get (St.put ⟨sto,n1⟩ c o) j=_;rw[Yae Zaa];rfl
 cases ok with
 |false =>
   iterate 3
    (try rw[Z0]);(try simp(disch:=first|omega|rfl|assumption)only[↓Yaa,Yab,Nae,Naa,rA,rB,rC,rD,reduceIte,unP,rE])
   subst hX;refine⟨nofun,_,rfl,?_⟩;rw[if_neg Zag];exact hw.grow Zad Zad (by simp only[Z0L_];omega) fun j hj=>hgr _ _ _ j hj
 |true =>
   have w1:∀ o,WS base ⟨(St.put ⟨sto,c+8⟩ c o).sto,c+40⟩ N O n to:=fun o=>hw.grow Zad Zad Zad fun j hj=>hgr _ _ _ j hj
   iterate 3
    (try rw[Z0]);(try simp(disch:=first|omega|rfl|assumption)only[↓Yaa,Yab,Nae,Naa,rA,rB,rC,rD,reduceIte,unP,rE,hc.r3])
   obtain⟨s1,hs1⟩:∃ s1,(⟨(St.put ⟨sto,c+8⟩ c (some (.cells [.i .i64 k.1,.i .i64 k.2] false))).sto,c+40⟩:St)=s1:=⟨_,rfl⟩;have w2:=w1 (some (.cells [.i .i64 k.1,.i .i64 k.2] false));rw[hs1]at w2 ⊢;obtain⟨v,tv,h1,h2,h3,h4,h5,h6⟩:=w2.vt;obtain⟨c1,c2,tm,gW⟩:=hb.gW;obtain⟨fs,f,gC,gM,gV⟩:=hb.gC;have hc2:=w2.cnt;refine Nbk (NoA hc (k:=k) h1 h2 ((w2.fr B l3 d2 d3).trans hb.gB) ((w2.fr W l4 d4 d5).trans gW) ((w2.fr Cm l5 d6 d7).trans gC) gM ((gV k).1.move hc2 fun j hj hk=>w2.fr j hj ((gV k).2 j hk).1 ((gV k).2 j hk).2) hn sn (hb.sh k) Zaa Zaa Zaa Zaa) ?_;rintro r st' ⟨v',e1,e2,e3,e4,e5⟩;refine⟨nofun,_,rfl,?_⟩;subst hX;show WS base st' N O (if true=true then _ else _) to;rw[if_pos rfl];refine⟨by omega,fun j a b c=>(e4 j Zaa b).trans (w2.fr j a b c),v',tv,e1,e2,(e4 O Zaa (Ne.symm d1)).trans h3,h4.move e5 fun j hj1 hj2=>e4 j hj2 (by have:=h5 j hj1;omega),h5,fun q hq=>?_⟩;have a1:=e3 q hq;exact⟨fun hm=>by have:=h4.lt q hm;omega,by omega,by omega,by omega⟩
theorem Na9(hc:CfgR cfg){C:Ch→List Int}{to:List Ch}{k:Ch}{ok:Bool}(hb:WBs base N O B W Cm C)(hw:WS base st N O n to)(hl:to.length<1000) :
 ∃ r st',NaK cfg (fuel+2) 117 [.b ok,.fn 88 [.ptr O 0],chP k] st=some (r,st')∧WS base st' N O n (if ok=true then to++[k]else to):=by
 refine NaB (hc.fn _ _ (by kernel_rfl):cfg.fn 117=some m117) ?_;delta m117 Qa Ql Qt Qi Qw chP;obtain⟨l1,l2,l3,l4,l5⟩:=hb.lt;obtain⟨d1,d2,d3,d4,d5,d6,d7⟩:=hb.ne;have hcn:=hw.cnt;obtain⟨sto,c⟩:=st;simp only at hcn;obtain⟨X,hX⟩:∃ X:St→Prop,X=fun st'=>WS base st' N O n (if ok=true then to++[k]else to):=⟨_,rfl⟩
 simp only[show ∀ st',WS base st' N O n (if ok=true then to++[k]else to)=X st' from fun _=>by rw[hX]];simp only[Nao];have hgr:∀ (o:Option PObj) (n1 n2 j:Nat),j<c→St.get ⟨(St.put ⟨sto,n1⟩ c o).sto,n2⟩ j=St.get ⟨sto,c⟩ j:=fun o n1 n2 j hj=>by
  show St.get (St.put ⟨sto,n1⟩ c o) j=_;rw[Yae Zaa];rfl
 cases ok with
 |false =>
   iterate 3
    (try rw[Z0]);(try simp(disch:=first|omega|rfl|assumption)only[↓Yaa,Yab,Nae,Naa,rA,rB,rC,rD,reduceIte,unP,rE])
   subst hX;refine⟨nofun,_,rfl,?_⟩;rw[if_neg Zag];exact hw.grow Zad Zad (by simp only[Z0L_];omega) fun j hj=>hgr _ _ _ j hj
 |true =>
   have w1:∀ o,WS base ⟨(St.put ⟨sto,c+8⟩ c o).sto,c+40⟩ N O n to:=fun o=>hw.grow Zad Zad Zad fun j hj=>hgr _ _ _ j hj
   iterate 3
    (try rw[Z0]);(try simp(disch:=first|omega|rfl|assumption)only[↓Yaa,Yab,Nae,Naa,rA,rB,rC,rD,reduceIte,unP,rE,hc.r4])
   obtain⟨s1,hs1⟩:∃ s1,(⟨(St.put ⟨sto,c+8⟩ c (some (.cells [.i .i64 k.1,.i .i64 k.2] false))).sto,c+40⟩:St)=s1:=⟨_,rfl⟩;have w2:=w1 (some (.cells [.i .i64 k.1,.i .i64 k.2] false));rw[hs1]at w2 ⊢;obtain⟨v,tv,h1,h2,h3,h4,h5,h6⟩:=w2.vt;have hc2:=w2.cnt;have hO:O∉keyOf tv:=fun h=>by have:=h5 O h;omega
   refine Nbk (NnP hc (k:=k) h3 h4 hO Zaa hl) ?_;rintro r st' ⟨v',e1,e2,e3,e4,e5⟩;refine⟨nofun,_,rfl,?_⟩;subst hX;show WS base st' N O n (if true=true then _ else _);rw[if_pos rfl];have hN:N∉keyOf tv:=fun h=>by have:=h5 N h;omega
   refine⟨by omega,fun j a b c=>(e4 j Zaa c (fun h=>by have:=h5 j h;omega)).trans (w2.fr j a b c),v,v',(e4 N Zaa d1 hN).trans h1,h2.move e5 fun j hj hk=>e4 j hj (h6 j hk).2.2.1 (h6 j hk).1,e1,e2,fun q hq=>by have:=e3 q hq;omega,fun q hq=>⟨fun hm=>?_,(h6 q hq).2⟩⟩;have a1:=e3 q hm;rcases h2 with⟨rfl,_⟩|⟨_,k2,rfl,a2,_⟩
   ·simp[keyOf]at hq
   ·simp[keyOf]at hq;omega
end
end Go.Pe
