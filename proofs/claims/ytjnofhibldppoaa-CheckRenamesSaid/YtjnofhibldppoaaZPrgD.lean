/-
 Whole programs as arguments, opened: objects, threads, statements of whatever depth. No condition; nothing of the program.
-/
import Derived.Test.YtjnofhibldppoaaZPrgB
set_option linter.unusedVariables false
set_option linter.unusedSimpArgs false
namespace Go.Pe
open Go Go.RowKit
def dcSh:Sh:=.st (.cons (.i .u8) (.cons .s (.cons (.i .i64) (.cons .s (.cons (.i .i64) .nil)))))
def Njp(n:Nat):Sh:=.st (.cons .s (.cons (.sl (Ng8 n)) (.cons (.i .i64) .nil)))
def NkB(n:Nat):Sh:=.st (.cons (.sl dcSh) (.cons (.sl (Njp n)) .nil))
theorem Nm7(n:Nat):(Njp n).width=3:=rfl
theorem NpO(n:Nat):(NkB n).width=2:=rfl
theorem Nms(n:Nat):∀ f,f≤n→(Njp n).dep f
 |0,_=>by simp[Njp,Sh.dep]
 |1,_=>by simp[Njp,Sh.dep]
 |f+2,h=>by
   simp only[Njp,Sh.dep,true_and,and_true];exact Ngk n f Zaa
theorem Nmf(n:Nat):∀ f,f≤n→(NkB n).dep f
 |0,_=>by simp[NkB,Sh.dep]
 |1,_=>by simp[NkB,Sh.dep]
 |f+2,h=>by
   simp only[NkB,Sh.dep,and_true];exact⟨Sh.dep_flat rfl f,Nms n f Zaa⟩
def Dc.wf(d:Dc):Prop:=(Lit.int .i64 d.N).wf=true∧(Lit.int .i64 d.R).wf=true∧d.S.length≤reachBytes∧d.O.length≤reachBytes
def Td.wf(t:Td):Prop:=(Lit.int .i64 t.R).wf=true∧t.S.length≤reachBytes∧t.B.length≤reachBytes∧Sms.wf t.B
def Pg.wf(p:Pg):Prop:=p.D.length≤reachBytes∧p.T.length≤reachBytes∧(∀ d∈p.D,d.wf)∧∀ t∈p.T,t.wf
theorem Nrq:∀ (cs:List PV),dcSh.Is cs→∃ e:Dc,cs=e.cs∧e.wf:=by
 intro cs h;simp only[dcSh]at h;obtain⟨h1,h2,h3,h4,h5,h6⟩:=h;simp only[Sh.width]at h1 h2 h3 h4 h5 h6;obtain⟨k,e1⟩:=NlP h1;obtain⟨s,e2,w2⟩:=NoF h2;obtain⟨n,e3,w3⟩:=Nfw h3;obtain⟨o,e4,w4⟩:=NoF h4;obtain⟨r,e5,w5⟩:=Nfw h5;refine⟨⟨k,s,n,o,r⟩,?_,w3,w5,w2,w4⟩;simp only[Sh.Is]at h6;unfold Dc.cs;rw[e1,e2,e3,e4,e5,h6]
theorem Nrs(n:Nat):∀ (cs:List PV),(Njp n).Is cs→∃ e:Td,cs=e.cs∧e.wf:=by
 intro cs h;simp only[Njp]at h;obtain⟨h1,h2,h3,h4⟩:=h;simp only[Sh.width]at h1 h2 h3 h4;obtain⟨s,e1,w1⟩:=NoF h1;obtain⟨l,e2,w2,v2⟩:=Ndw (Ng9 n) (NnX n) h2;obtain⟨r,e3,w3⟩:=Nfw h3;refine⟨⟨s,false,l,r⟩,?_,w3,w1,w2,Sms.wf_of v2⟩;simp only[Sh.Is]at h4;unfold Td.cs;rw[e1,e2,e3,h4,←Sms.flat];rfl
theorem Nrr(n:Nat):∀ (cs:List PV),(NkB n).Is cs→∃ p:Pg,cs=p.cs∧p.wf:=by
 intro cs h;simp only[NkB]at h;obtain⟨h1,h2,h3⟩:=h;simp only[Sh.width]at h1 h2 h3;obtain⟨d,e1,w1,v1⟩:=Ndw (show dcSh.width=5 from rfl) Nrq h1;obtain⟨t,e2,w2,v2⟩:=Ndw (Nm7 n) (Nrs n) h2;refine⟨⟨false,d,false,t⟩,?_,w1,w2,v1,v2⟩;simp only[Sh.Is]at h3;unfold Pg.cs;rw[e1,e2,h3];rfl
section
variable {P:Program}
theorem Nnn{tD tK tS tN tI:TypeId}{fs:Array Field}(hD:P.underlying tD=some (.struct fs))(hfs:(fs.toList.map fun f=>(f.type,f.offset))=[(tK,0),(tS,1),(tN,2),(tS,3),(tI,4)])
 (hK:P.underlying tK=some (.int .u8)) (hS:P.underlying tS=some .string) (hN:P.underlying tN=some (.int .i64)) (hI:P.underlying tI=some (.int .i64)) (cD:P.cellsOf tD=5) (cK:P.cellsOf tK=1) (cS:P.cellsOf tS=1) (cN:P.cellsOf tN=1) (cI:P.cellsOf tI=1):dcSh.fits P (.inl tD)=true:=by
 simp[dcSh,Sh.fits,hD,hfs,hK,hS,hN,hI,cD,cK,cS,cN,cI,Sh.width]
theorem NoA{tT tS tB tI tM:TypeId}{fs:Array Field}(hT:P.underlying tT=some (.struct fs))(hfs:(fs.toList.map fun f=>(f.type,f.offset))=[(tS,0),(tB,1),(tI,2)])
 (hS:P.underlying tS=some .string) (hI:P.underlying tI=some (.int .i64)) (hB:P.underlying tB=some (.slice tM)) (cT:P.cellsOf tT=3) (cM:P.cellsOf tM=9) (cS:P.cellsOf tS=1) (cI:P.cellsOf tI=1) (cB:P.cellsOf tB=1) (hb:0<P.bytesOf tM) (hM:∀ n,(Ng8 n).fits P (.inl tM)=true) (n:Nat):(Njp n).fits P (.inl tT)=true:=by
 simp[Njp,Sh.fits,hT,hfs,hS,hI,hB,cT,cM,cS,cI,cB,hb,Sh.width,Ng9,NiC,show 1≤P.bytesOf tM from hb,hM n]
theorem Nop{tP tA tB tD tT:TypeId}{fs:Array Field}(hP:P.underlying tP=some (.struct fs))(hfs:(fs.toList.map fun f=>(f.type,f.offset))=[(tA,0),(tB,1)])
 (hA:P.underlying tA=some (.slice tD)) (hB:P.underlying tB=some (.slice tT)) (cP:P.cellsOf tP=2) (cA:P.cellsOf tA=1) (cB:P.cellsOf tB=1) (cD:P.cellsOf tD=5) (cT:P.cellsOf tT=3) (hd:0<P.bytesOf tD) (ht:0<P.bytesOf tT) (hD:dcSh.fits P (.inl tD)=true) (hT:∀ n,(Njp n).fits P (.inl tT)=true) (n:Nat):(NkB n).fits P (.inl tP)=true:=by
 have wd:dcSh.width=5:=rfl;simp[NkB,Sh.fits,hP,hfs,hA,hB,cP,cA,cB,cD,cT,hd,ht,Sh.width,wd,Nm7,show dcSh.low=1 from rfl,show(Njp n).low=1 from rfl,show 1≤P.bytesOf tD from hd,show 1≤P.bytesOf tT from ht,hD,hT n]
end
end Go.Pe
