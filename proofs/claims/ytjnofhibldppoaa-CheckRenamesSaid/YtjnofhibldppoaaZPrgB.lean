/-
 Programs as plain data, out of arguments: expressions and statements of whatever depth, opened. No condition; nothing of the program.
-/
import Derived.Test.YtjnofhibldppoaaZPrgA
import Derived.Test.YtjnofhibldppoaaZView
set_option linter.unusedVariables false
set_option linter.unusedSimpArgs false
namespace Go.Pe
open Go Go.RowKit
def Nfs:Nat→Sh
 |0=>.bot 4
 |n+1=>.st (.cons (.i .u8) (.cons .s (.cons (.i .i64) (.cons (.sl (Nfs n)) .nil))))
theorem Nia:∀ n,(Nfs n).width=4
 |0=>rfl
 |_+1=>rfl
theorem Nh8:∀ n f,f≤n→(Nfs n).dep f
 |0,f,h=>by simp only[Nfs,Sh.dep];omega
 |n+1,0,_=>by simp[Nfs,Sh.dep]
 |n+1,1,h=>by simp[Nfs,Sh.dep]
 |n+1,f+2,h=>by
   simp only[Nfs,Sh.dep,true_and,and_true];exact Nh8 n f Zaa
def Ng8:Nat→Sh
 |0=>.bot 9
 |n+1=>.st (.cons (.i .u8) (.cons (.i .u8) (.cons .s (.cons .s (.cons (.i .i64) (.cons (.sl (Nfs n)) (.cons (.sl (Ng8 n)) (.cons (.sl (Ng8 n)) (.cons (.i .i64) .nil)))))))))
theorem Ng9:∀ n,(Ng8 n).width=9
 |0=>rfl
 |_+1=>rfl
theorem Ngk:∀ n f,f≤n→(Ng8 n).dep f
 |0,f,h=>by simp only[Ng8,Sh.dep];omega
 |n+1,0,_=>by simp[Ng8,Sh.dep]
 |n+1,1,h=>by simp[Ng8,Sh.dep]
 |n+1,f+2,h=>by
   simp only[Ng8,Sh.dep,true_and,and_true];exact⟨Nh8 n f Zaa,Ngk n f Zaa,Ngk n f Zaa⟩
theorem Nh9:∀ n,(Nfs n).low≤56
 |0=>by simp[Nfs,Sh.low]
 |_+1=>by simp[Nfs,Sh.low]
theorem NiC:∀ n,(Ng8 n).low=1
 |0=>rfl
 |_+1=>rfl
mutual
def Ex.wf:Ex→Prop
 |.mk k s n z l=>(Lit.int .i64 n).wf=true∧s.length≤reachBytes∧l.length≤reachBytes∧Exs.wf l
def Exs.wf:List Ex→Prop
 |[]=>True
 |e::r=>e.wf∧Exs.wf r
end
theorem Exs.wf_of:∀ {l:List Ex},(∀ e∈l,e.wf)→Exs.wf l
 |[],_=>by rw[Exs.wf];trivial
 |e::r,h=>by rw[Exs.wf];exact⟨h e Zaf,Exs.wf_of fun x hx=>h x (by simp[hx])⟩
mutual
def Sm.wf:Sm→Prop
 |.mk k o j i n za a zb b ze e r=>(Lit.int .i64 n).wf=true∧(Lit.int .i64 r).wf=true∧j.length≤reachBytes∧i.length≤reachBytes∧a.length≤reachBytes∧b.length≤reachBytes∧e.length≤reachBytes∧Exs.wf a∧Sms.wf b∧Sms.wf e
def Sms.wf:List Sm→Prop
 |[]=>True
 |e::r=>e.wf∧Sms.wf r
end
section
variable {cs:List PV}
theorem Sms.wf_of:∀ {l:List Sm},(∀ e∈l,e.wf)→Sms.wf l
 |[],_=>by rw[Sms.wf];trivial
 |e::r,h=>by rw[Sms.wf];exact⟨h e Zaf,Sms.wf_of fun x hx=>h x (by simp[hx])⟩
theorem Nj8{α:Type}{f:α→List PV}{Q:α→Prop}{w:Nat}:∀ (n:Nat) (ps:List PV),ps.length=n * w→(∀ j,j<n→∃ a,(ps.drop (j * w)).take w=f a∧Q a)→∃ l:List α,l.length=n∧ps=l.flatMap f∧∀ a∈l,Q a
 |0,ps,h,_=>⟨[],rfl,by rw[Nat.zero_mul]at h;exact List.eq_nil_of_length_eq_zero h,by simp⟩
 |n+1,ps,h,hj=>by
   obtain⟨a,ha,hq⟩:=hj 0 Zaa;rw[Nat.zero_mul,List.drop_zero]at ha;obtain⟨l,h1,h2,h3⟩:=Nj8 (f:=f) (Q:=Q) (w:=w) n (ps.drop w) (by rw[List.length_drop,h,Nat.add_mul];omega) (fun j hjn=>by
    obtain⟨b,hb,hqb⟩:=hj (j+1) Zaa;refine⟨b,?_,hqb⟩;rw[List.drop_drop,show w+j * w=(j+1) * w by rw[Nat.add_mul];omega];exact hb)
   refine⟨a::l,by simp[h1],?_,fun b hb=>?_⟩
   ·rw[List.flatMap_cons,←h2,←ha,List.take_append_drop]
   ·rcases List.mem_cons.1 hb with rfl|hb
    ·exact hq
    ·exact h3 b hb
theorem Nii{a:PV}(h:cs.take 1=[a]):cs=a::cs.drop 1:=by
 have:=List.take_append_drop 1 cs;rw[h]at this;exact this.symm
theorem NrA{n:Int}(h:(Lit.int .u8 n).wf=true):∃ k:UInt8,n=(k.toNat:Int):=by
 simp[Lit.wf,IntKind.min,IntKind.max,IntKind.signed,IntKind.bits]at h;refine⟨UInt8.ofNat n.toNat,?_⟩;rw[UInt8.toNat_ofNat'];omega
theorem NlP(h:(Sh.i .u8).Is (cs.take 1)):∃ k:UInt8,cs=.i .u8 (k.toNat:Int)::cs.drop 1:=by
 obtain⟨n,h1,h2⟩:=h;obtain⟨k,rfl⟩:=NrA h2;exact⟨k,Nii h1⟩
theorem Nfw(h:(Sh.i .i64).Is (cs.take 1)):∃ n:Int,cs=.i .i64 n::cs.drop 1∧(Lit.int .i64 n).wf=true:=by
 obtain⟨n,h1,h2⟩:=h;exact⟨n,Nii h1,h2⟩
theorem NoF(h:Sh.s.Is (cs.take 1)):∃ l:List UInt8,cs=.s l::cs.drop 1∧l.length≤reachBytes:=by
 obtain⟨n,h1,h2⟩:=h;exact⟨n,Nii h1,h2⟩
theorem NlO{α:Type}{f:α→List PV}{Q:α→Prop}{e:Sh}{w:Nat}(hw:e.width=w)(he:∀ qs,e.Is qs→∃ a,qs=f a∧Q a)(h:(Sh.sl e).Is (cs.take 1)):∃ l:List α,cs=.fsl l.length (l.flatMap f)::cs.drop 1∧l.length * e.low≤reachBytes∧∀ a∈l,Q a:=by
 obtain⟨n,ps,h1,h2,h3,h4⟩:=h;rw[hw]at h2 h4;obtain⟨l,rfl,rfl,hq⟩:=Nj8 (f:=f) (Q:=Q) n ps h2 (fun j hj=>he _ (h4 j hj));exact⟨l,Nii h1,h3,hq⟩
theorem Ndw{α:Type}{f:α→List PV}{Q:α→Prop}{e:Sh}{w:Nat}(hw:e.width=w)(he:∀ qs,e.Is qs→∃ a,qs=f a∧Q a)(h:(Sh.sl e).Is (cs.take 1)):∃ l:List α,cs=.fsl l.length (l.flatMap f)::cs.drop 1∧l.length≤reachBytes∧∀ a∈l,Q a:=by
 obtain⟨l,h1,h2,h3⟩:=NlO hw he h;exact⟨l,h1,Nat.le_trans (Nat.le_mul_of_pos_right _ (Sh.low_pos e)) h2,h3⟩
theorem Npv:∀ (n:Nat) (cs:List PV),(Nfs n).Is cs→∃ e:Ex,cs=e.cs∧e.wf
 |0,cs,h=>by simp[Nfs,Sh.Is]at h
 |n+1,cs,h=>by
   simp only[Nfs]at h;obtain⟨h1,h2,h3,h4,h5⟩:=h;simp only[Sh.width]at h1 h2 h3 h4 h5;obtain⟨k,e1⟩:=NlP h1;obtain⟨s,e2,w2⟩:=NoF h2;obtain⟨m,e3,w3⟩:=Nfw h3;obtain⟨l,e4,w4,w5⟩:=Ndw (Nia n) (Npv n) h4;refine⟨.mk k s m false l,?_,?_⟩
   ·rw[Ex.cs_eq,e1,e2,e3,e4];simp only[Sh.Is]at h5;rw[h5,←Exs.flat];rfl
   ·rw[Ex.wf];exact⟨w3,w2,w4,Exs.wf_of w5⟩
theorem NnX:∀ (n:Nat) (cs:List PV),(Ng8 n).Is cs→∃ e:Sm,cs=e.cs∧e.wf
 |0,cs,h=>by simp[Ng8,Sh.Is]at h
 |n+1,cs,h=>by
   simp only[Ng8]at h;obtain⟨h1,h2,h3,h4,h5,h6,h7,h8,h9,h10⟩:=h;simp only[Sh.width]at h1 h2 h3 h4 h5 h6 h7 h8 h9 h10;obtain⟨k,e1⟩:=NlP h1;obtain⟨o,e2⟩:=NlP h2;obtain⟨j,e3,w3⟩:=NoF h3;obtain⟨i,e4,w4⟩:=NoF h4;obtain⟨m,e5,w5⟩:=Nfw h5;obtain⟨a,e6,w6,v6⟩:=Ndw (Nia n) (Npv n) h6;obtain⟨b,e7,w7,v7⟩:=Ndw (Ng9 n) (NnX n) h7;obtain⟨e,e8,w8,v8⟩:=Ndw (Ng9 n) (NnX n) h8;obtain⟨r,e9,w9⟩:=Nfw h9;refine⟨.mk k o j i m false a false b false e r,?_,?_⟩
   ·rw[Sm.cs_eq,e1,e2,e3,e4,e5,e6,e7,e8,e9];simp only[Sh.Is]at h10;rw[h10,←Exs.flat,←Sms.flat,←Sms.flat];rfl
   ·rw[Sm.wf];exact⟨w5,w9,w3,w4,w6,w7,w8,Exs.wf_of v6,Sms.wf_of v7,Sms.wf_of v8⟩
end
section
variable {P:Program}
theorem NjQ{tE tK tS tN tL:TypeId}{fs:Array Field}(hE:P.underlying tE=some (.struct fs))(hfs:(fs.toList.map fun f=>(f.type,f.offset))=[(tK,0),(tS,1),(tN,2),(tL,3)])
 (hK:P.underlying tK=some (.int .u8)) (hS:P.underlying tS=some .string) (hN:P.underlying tN=some (.int .i64)) (hL:P.underlying tL=some (.slice tE))
 (cE:P.cellsOf tE=4) (cK:P.cellsOf tK=1) (cS:P.cellsOf tS=1) (cN:P.cellsOf tN=1) (cL:P.cellsOf tL=1) (hb:56≤P.bytesOf tE):∀ n,(Nfs n).fits P (.inl tE)=true
 |0=>by simp[Nfs,Sh.fits]
 |n+1=>by
   have ih:=NjQ hE hfs hK hS hN hL cE cK cS cN cL hb n;have hb0:0<P.bytesOf tE:=(by omega);have hl:(Nfs n).low≤P.bytesOf tE:=Nat.le_trans (Nh9 n) hb;simp[Nfs,Sh.fits,hE,hfs,hK,hS,hN,hL,cE,cK,cS,cN,cL,hb0,hl,Sh.width,Nia,ih]
theorem NkR{tM tK tO tS tN tI tA tB tE:TypeId}{fs:Array Field}(hM:P.underlying tM=some (.struct fs))(hfs:(fs.toList.map fun f=>(f.type,f.offset))=[(tK,0),(tO,1),(tS,2),(tS,3),(tN,4),(tA,5),(tB,6),(tB,7),(tI,8)])
 (hK:P.underlying tK=some (.int .u8)) (hO:P.underlying tO=some (.int .u8)) (hS:P.underlying tS=some .string) (hN:P.underlying tN=some (.int .i64)) (hI:P.underlying tI=some (.int .i64)) (hA:P.underlying tA=some (.slice tE)) (hB:P.underlying tB=some (.slice tM))
 (cM:P.cellsOf tM=9) (cE:P.cellsOf tE=4) (cK:P.cellsOf tK=1) (cO:P.cellsOf tO=1) (cS:P.cellsOf tS=1) (cN:P.cellsOf tN=1) (cI:P.cellsOf tI=1) (cA:P.cellsOf tA=1) (cB:P.cellsOf tB=1) (hb:0<P.bytesOf tM) (hbe:56≤P.bytesOf tE) (hE:∀ n,(Nfs n).fits P (.inl tE)=true):∀ n,(Ng8 n).fits P (.inl tM)=true
 |0=>by simp[Ng8,Sh.fits]
 |n+1=>by
   have hbe0:0<P.bytesOf tE:=(by omega);have hle:(Nfs n).low≤P.bytesOf tE:=Nat.le_trans (Nh9 n) hbe;have hlm:1≤P.bytesOf tM:=hb;have ih:=NkR hM hfs hK hO hS hN hI hA hB cM cE cK cO cS cN cI cA cB hb hbe hE n;simp[Ng8,Sh.fits,hM,hfs,hK,hO,hS,hN,hI,hA,hB,cM,cE,cK,cO,cS,cN,cI,cA,cB,hb,hbe0,hle,hlm,NiC,Sh.width,Nia,Ng9,ih,hE n]
end
end Go.Pe
