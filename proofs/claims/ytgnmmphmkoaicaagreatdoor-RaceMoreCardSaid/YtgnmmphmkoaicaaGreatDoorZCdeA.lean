/-
 Code as plain data: instructions, threads' texts, code; its cells; opened out of arguments; events. No condition; nothing of the program.
-/
import Derived.Test.YtgnmmphmkoaicaaGreatDoorZPrgA
import Derived.Test.YtgnmmphmkoaicaaGreatDoorZView
set_option linter.unusedVariables false
set_option linter.unusedSimpArgs false
namespace Go.Pe
open Go Go.RowKit

def NeK:Nat → Sh
 | 0 => .bot 4
 | n + 1 => .st (.cons (.i .u8) (.cons .s (.cons (.i .i64) (.cons (.sl (NeK n)) .nil))))
theorem Nhx:∀ n,(NeK n).width = 4
 | 0 => rfl
 | _ + 1 => rfl
theorem Nhv:∀ n f,f ≤ n → (NeK n).dep f
 | 0,f,h => by simp only [NeK,Sh.dep]; omega
 | n + 1,0,_ => by simp [NeK,Sh.dep]
 | n + 1,1,h => by simp [NeK,Sh.dep]
 | n + 1,f + 2,h => by
   simp only [NeK,Sh.dep,true_and,and_true]
   exact Nhv n f Zaa
theorem Nhw:∀ n,(NeK n).low ≤ 56
 | 0 => by simp [NeK,Sh.low]
 | _ + 1 => by simp [NeK,Sh.low]
mutual
def Ex.wf:Ex → Prop
 | .mk k s n z l => (Lit.int .i64 n).wf = true ∧ s.length ≤ reachBytes ∧ l.length ≤ reachBytes ∧ Exs.wf l
def Exs.wf:List Ex → Prop
 | [] => True
 | e :: r => e.wf ∧ Exs.wf r
end
theorem Exs.wf_of:∀ {l:List Ex},(∀ e ∈ l,e.wf) → Exs.wf l
 | [],_ => by rw [Exs.wf]; trivial
 | e :: r,h => by rw [Exs.wf]; exact ⟨h e Zag,Exs.wf_of fun x hx => h x (by simp [hx])⟩
mutual
def Sm.wf:Sm → Prop
 | .mk k o j i n za a zb b ze e r => (Lit.int .i64 n).wf = true ∧ (Lit.int .i64 r).wf = true ∧ j.length ≤ reachBytes ∧ i.length ≤ reachBytes ∧ a.length ≤ reachBytes ∧ b.length ≤ reachBytes ∧ e.length ≤ reachBytes ∧ Exs.wf a ∧ Sms.wf b ∧ Sms.wf e
def Sms.wf:List Sm → Prop
 | [] => True
 | e :: r => e.wf ∧ Sms.wf r
end
theorem Sms.wf_of:∀ {l:List Sm},(∀ e ∈ l,e.wf) → Sms.wf l
 | [],_ => by rw [Sms.wf]; trivial
 | e :: r,h => by rw [Sms.wf]; exact ⟨h e Zag,Sms.wf_of fun x hx => h x (by simp [hx])⟩
theorem NgV {α:Type} {f:α → List PV} {Q:α → Prop} {w:Nat}:∀ (n:Nat) (ps:List PV),ps.length = n * w → (∀ j,j < n → ∃ a,(ps.drop (j * w)).take w = f a ∧ Q a) → ∃ l:List α,l.length = n ∧ ps = l.flatMap f ∧ ∀ a ∈ l,Q a
 | 0,ps,h,_ => ⟨[],rfl,by rw [Nat.zero_mul] at h; exact List.eq_nil_of_length_eq_zero h,by simp⟩
 | n + 1,ps,h,hj => by
   obtain ⟨a,ha,hq⟩:=hj 0 Zaa
   rw [Nat.zero_mul,List.drop_zero] at ha
   obtain ⟨l,h1,h2,h3⟩:=NgV (f:=f) (Q:=Q) (w:=w) n (ps.drop w) (by rw [List.length_drop,h,Nat.add_mul]; omega) (fun j hjn => by
    obtain ⟨b,hb,hqb⟩:=hj (j + 1) Zaa
    refine ⟨b,?_,hqb⟩
    rw [List.drop_drop,show w + j * w = (j + 1) * w by rw [Nat.add_mul]; omega]
    exact hb)
   refine ⟨a :: l,by simp [h1],?_,fun b hb => ?_⟩
   ·rw [List.flatMap_cons,← h2,← ha,List.take_append_drop]
   ·rcases List.mem_cons.1 hb with rfl | hb
    ·exact hq
    ·exact h3 b hb
theorem NhF {a:PV} {cs:List PV} (h:cs.take 1 = [a]):cs = a :: cs.drop 1:=by
 have:=List.take_append_drop 1 cs
 rw [h] at this
 exact this.symm
theorem Nqh {n:Int} (h:(Lit.int .u8 n).wf = true):∃ k:UInt8,n = (k.toNat:Int):=by
 simp [Lit.wf,IntKind.min,IntKind.max,IntKind.signed,IntKind.bits] at h
 refine ⟨UInt8.ofNat n.toNat,?_⟩
 rw [UInt8.toNat_ofNat']
 omega
theorem Njd {cs:List PV} (h:(Sh.i .u8).Is (cs.take 1)):∃ k:UInt8,cs = .i .u8 (k.toNat:Int) :: cs.drop 1:=by
 obtain ⟨n,h1,h2⟩:=h
 obtain ⟨k,rfl⟩:=Nqh h2
 exact ⟨k,NhF h1⟩
theorem Ncc {cs:List PV} (h:(Sh.i .i64).Is (cs.take 1)):∃ n:Int,cs = .i .i64 n :: cs.drop 1 ∧ (Lit.int .i64 n).wf = true:=by
 obtain ⟨n,h1,h2⟩:=h
 exact ⟨n,NhF h1,h2⟩
theorem Nps {cs:List PV} (h:Sh.s.Is (cs.take 1)):∃ l:List UInt8,cs = .s l :: cs.drop 1 ∧ l.length ≤ reachBytes:=by
 obtain ⟨n,h1,h2⟩:=h
 exact ⟨n,NhF h1,h2⟩
theorem NhE {α:Type} {f:α → List PV} {Q:α → Prop} {e:Sh} {cs:List PV} {w:Nat} (hw:e.width = w) (he:∀ qs,e.Is qs → ∃ a,qs = f a ∧ Q a) (h:(Sh.sl e).Is (cs.take 1)):∃ l:List α,cs = .fsl l.length (l.flatMap f) :: cs.drop 1 ∧ l.length * e.low ≤ reachBytes ∧ ∀ a ∈ l,Q a:=by
 obtain ⟨n,ps,h1,h2,h3,h4⟩:=h
 rw [hw] at h2 h4
 obtain ⟨l,rfl,rfl,hq⟩:=NgV (f:=f) (Q:=Q) n ps h2 (fun j hj => he _ (h4 j hj))
 exact ⟨l,NhF h1,h3,hq⟩
theorem Ned {α:Type} {f:α → List PV} {Q:α → Prop} {e:Sh} {cs:List PV} {w:Nat} (hw:e.width = w) (he:∀ qs,e.Is qs → ∃ a,qs = f a ∧ Q a) (h:(Sh.sl e).Is (cs.take 1)):∃ l:List α,cs = .fsl l.length (l.flatMap f) :: cs.drop 1 ∧ l.length ≤ reachBytes ∧ ∀ a ∈ l,Q a:=by
 obtain ⟨l,h1,h2,h3⟩:=NhE hw he h
 exact ⟨l,h1,Nat.le_trans (Nat.le_mul_of_pos_right _ (Sh.low_pos e)) h2,h3⟩
theorem Noc:∀ (n:Nat) (cs:List PV),(NeK n).Is cs → ∃ e:Ex,cs = e.cs ∧ e.wf
 | 0,cs,h => by simp [NeK,Sh.Is] at h
 | n + 1,cs,h => by
   simp only [NeK] at h
   obtain ⟨h1,h2,h3,h4,h5⟩:=h
   simp only [Sh.width] at h1 h2 h3 h4 h5
   obtain ⟨k,e1⟩:=Njd h1
   obtain ⟨s,e2,w2⟩:=Nps h2
   obtain ⟨m,e3,w3⟩:=Ncc h3
   obtain ⟨l,e4,w4,w5⟩:=Ned (Nhx n) (Noc n) h4
   refine ⟨.mk k s m false l,?_,?_⟩
   ·rw [Ex.cs_eq,e1,e2,e3,e4]
    simp only [Sh.Is] at h5
    rw [h5,← Exs.flat]
    rfl
   ·rw [Ex.wf]
    exact ⟨w3,w2,w4,Exs.wf_of w5⟩
section
variable {P:Program}
theorem NiY {tE tK tS tN tL:TypeId} {fs:Array Field} (hE:P.underlying tE = some (.struct fs)) (hfs:(fs.toList.map fun f => (f.type,f.offset)) = [(tK,0),(tS,1),(tN,2),(tL,3)])
 (hK:P.underlying tK = some (.int .u8)) (hS:P.underlying tS = some .string) (hN:P.underlying tN = some (.int .i64)) (hL:P.underlying tL = some (.slice tE))
 (cE:P.cellsOf tE = 4) (cK:P.cellsOf tK = 1) (cS:P.cellsOf tS = 1) (cN:P.cellsOf tN = 1) (cL:P.cellsOf tL = 1) (hb:56 ≤ P.bytesOf tE):∀ n,(NeK n).fits P (.inl tE) = true
 | 0 => by simp [NeK,Sh.fits]
 | n + 1 => by
   have ih:=NiY hE hfs hK hS hN hL cE cK cS cN cL hb n
   have hb0:0 < P.bytesOf tE:=by omega
   have hl:(NeK n).low ≤ P.bytesOf tE:=Nat.le_trans (Nhw n) hb
   simp [NeK,Sh.fits,hE,hfs,hK,hS,hN,hL,cE,cK,cS,cN,cL,hb0,hl,Sh.width,Nhx,ih]
end
end Go.Pe
namespace Go.Pe
open Go Go.RowKit

def dcSh:Sh:=.st (.cons (.i .u8) (.cons .s (.cons (.i .i64) (.cons .s (.cons (.i .i64) .nil)))))
def Dc.wf (d:Dc):Prop:=(Lit.int .i64 d.N).wf = true ∧ (Lit.int .i64 d.R).wf = true ∧ d.S.length ≤ reachBytes ∧ d.O.length ≤ reachBytes
def Td.wf (t:Td):Prop:=(Lit.int .i64 t.R).wf = true ∧ t.S.length ≤ reachBytes ∧ t.B.length ≤ reachBytes ∧ Sms.wf t.B
def Pg.wf (p:Pg):Prop:=p.D.length ≤ reachBytes ∧ p.T.length ≤ reachBytes ∧ (∀ d ∈ p.D,d.wf) ∧ ∀ t ∈ p.T,t.wf
theorem Np4:∀ (cs:List PV),dcSh.Is cs → ∃ e:Dc,cs = e.cs ∧ e.wf:=by
 intro cs h
 simp only [dcSh] at h
 obtain ⟨h1,h2,h3,h4,h5,h6⟩:=h
 simp only [Sh.width] at h1 h2 h3 h4 h5 h6
 obtain ⟨k,e1⟩:=Njd h1
 obtain ⟨s,e2,w2⟩:=Nps h2
 obtain ⟨n,e3,w3⟩:=Ncc h3
 obtain ⟨o,e4,w4⟩:=Nps h4
 obtain ⟨r,e5,w5⟩:=Ncc h5
 refine ⟨⟨k,s,n,o,r⟩,?_,w3,w5,w2,w4⟩
 simp only [Sh.Is] at h6
 unfold Dc.cs
 rw [e1,e2,e3,e4,e5,h6]
section
variable {P:Program}
theorem Nmq {tD tK tS tN tI:TypeId} {fs:Array Field} (hD:P.underlying tD = some (.struct fs)) (hfs:(fs.toList.map fun f => (f.type,f.offset)) = [(tK,0),(tS,1),(tN,2),(tS,3),(tI,4)])
 (hK:P.underlying tK = some (.int .u8)) (hS:P.underlying tS = some .string) (hN:P.underlying tN = some (.int .i64)) (hI:P.underlying tI = some (.int .i64)) (cD:P.cellsOf tD = 5) (cK:P.cellsOf tK = 1) (cS:P.cellsOf tS = 1) (cN:P.cellsOf tN = 1) (cI:P.cellsOf tI = 1):dcSh.fits P (.inl tD) = true:=by
 simp [dcSh,Sh.fits,hD,hfs,hK,hS,hN,hI,cD,cK,cS,cN,cI,Sh.width]
end
end Go.Pe
namespace Go.Pe
open Go Go.RowKit

structure In where
 D:UInt8
 O:UInt8
 J:Int
 I:Int
 T:Int
 N:Int
 z:Bool
 A:List Ex
def In.cs (x:In):List PV:=[.i .u8 (x.D.toNat:Int),.i .u8 (x.O.toNat:Int),.i .i64 x.J,.i .i64 x.I,.i .i64 x.T,.i .i64 x.N,slV x.z x.A.length (Exs.cs x.A)]
structure Tx where
 S:List UInt8
 zl:Bool
 L:List (List UInt8)
 zc:Bool
 C:List In
def Tx.cs (t:Tx):List PV:=[.s t.S,slV t.zl t.L.length (t.L.flatMap fun s => [.s s]),slV t.zc t.C.length (t.C.flatMap In.cs)]
structure Cd where
 zo:Bool
 O:List Dc
 zt:Bool
 T:List Tx
def Cd.cs (c:Cd):List PV:=[slV c.zo c.O.length (c.O.flatMap Dc.cs),slV c.zt c.T.length (c.T.flatMap Tx.cs)]
structure Et where
 T:Int
 O:UInt8
 J:Int
 A:Int
 B:Int
def Et.cs (e:Et):List PV:=[.i .i64 e.T,.i .u8 (e.O.toNat:Int),.i .i64 e.J,.i .i64 e.A,.i .i64 e.B]
theorem In.cs_len (e:In):e.cs.length = 7:=rfl
theorem Tx.cs_len (e:Tx):e.cs.length = 3:=rfl
theorem Et.cs_len (e:Et):e.cs.length = 5:=rfl
theorem NmV {st:St} {l:List In} {i:Nat} (h:i < l.length):Nba st 7 (.fptr ((l.flatMap In.cs).drop (i * 7))) = some [.i .u8 (l[i].D.toNat:Int),.i .u8 (l[i].O.toNat:Int),.i .i64 l[i].J,.i .i64 l[i].I,.i .i64 l[i].T,.i .i64 l[i].N,slV l[i].z l[i].A.length (Exs.cs l[i].A)]:=NbL In.cs_len h
theorem Njm {st:St} {l:List Tx} {i:Nat} (h:i < l.length):Nba st 3 (.fptr ((l.flatMap Tx.cs).drop (i * 3))) = some [.s l[i].S,slV l[i].zl l[i].L.length (l[i].L.flatMap fun s => [.s s]),slV l[i].zc l[i].C.length (l[i].C.flatMap In.cs)]:=NbL Tx.cs_len h
theorem Nef {st:St} {l:List Et} {i:Nat} (h:i < l.length):Nba st 5 (.fptr ((l.flatMap Et.cs).drop (i * 5))) = some [.i .i64 l[i].T,.i .u8 (l[i].O.toNat:Int),.i .i64 l[i].J,.i .i64 l[i].A,.i .i64 l[i].B]:=NbL Et.cs_len h
def Niu (n:Nat):Sh:=.st (.cons (.i .u8) (.cons (.i .u8) (.cons (.i .i64) (.cons (.i .i64) (.cons (.i .i64) (.cons (.i .i64) (.cons (.sl (NeK n)) .nil)))))))
def Niv (n:Nat):Sh:=.st (.cons .s (.cons (.sl .s) (.cons (.sl (Niu n)) .nil)))
def NiK (n:Nat):Sh:=.st (.cons (.sl dcSh) (.cons (.sl (Niv n)) .nil))
def etSh:Sh:=.st (.cons (.i .i64) (.cons (.i .u8) (.cons (.i .i64) (.cons (.i .i64) (.cons (.i .i64) .nil)))))
theorem NlP (n:Nat):(Niu n).width = 7:=rfl
theorem Nl8 (n:Nat):(Niv n).width = 3:=rfl
theorem NnJ (n:Nat):(NiK n).width = 2:=rfl
theorem NkX (n:Nat):∀ f,f ≤ n → (Niu n).dep f
 | 0,_ => by simp [Niu,Sh.dep]
 | 1,_ => by simp [Niu,Sh.dep]
 | f + 2,h => by
   simp only [Niu,Sh.dep,true_and,and_true]
   exact Nhv n f Zaa
theorem NlC (n:Nat):∀ f,f ≤ n → (Niv n).dep f
 | 0,_ => by simp [Niv,Sh.dep]
 | 1,_ => by simp [Niv,Sh.dep]
 | f + 2,h => by
   simp only [Niv,Sh.dep,true_and,and_true]
   exact NkX n f Zaa
theorem Nkl (n:Nat):∀ f,f ≤ n → (NiK n).dep f
 | 0,_ => by simp [NiK,Sh.dep]
 | 1,_ => by simp [NiK,Sh.dep]
 | f + 2,h => by
   simp only [NiK,Sh.dep,and_true]
   exact ⟨Sh.dep_flat rfl f,NlC n f Zaa⟩
def In.wf (x:In):Prop:=x.A.length * 56 ≤ reachBytes ∧ (Lit.int .i64 x.J).wf = true ∧ (Lit.int .i64 x.I).wf = true ∧ (Lit.int .i64 x.T).wf = true ∧ (Lit.int .i64 x.N).wf = true ∧ x.A.length ≤ reachBytes ∧ Exs.wf x.A
def Tx.wf (t:Tx):Prop:=t.S.length ≤ reachBytes ∧ t.L.length ≤ reachBytes ∧ t.C.length ≤ reachBytes ∧ (∀ s ∈ t.L,s.length ≤ reachBytes) ∧ ∀ x ∈ t.C,x.wf
def Cd.wf (c:Cd):Prop:=c.O.length ≤ reachBytes ∧ c.T.length ≤ reachBytes ∧ (∀ d ∈ c.O,d.wf) ∧ ∀ t ∈ c.T,t.wf
def Et.wf (e:Et):Prop:=(Lit.int .i64 e.T).wf = true ∧ (Lit.int .i64 e.J).wf = true ∧ (Lit.int .i64 e.A).wf = true ∧ (Lit.int .i64 e.B).wf = true
theorem Np6 (n:Nat):∀ (cs:List PV),(Niu n).Is cs → ∃ e:In,cs = e.cs ∧ e.wf:=by
 intro cs h
 simp only [Niu] at h
 obtain ⟨h1,h2,h3,h4,h5,h6,h7,h8⟩:=h
 simp only [Sh.width] at h1 h2 h3 h4 h5 h6 h7 h8
 obtain ⟨d,e1⟩:=Njd h1
 obtain ⟨o,e2⟩:=Njd h2
 obtain ⟨j,e3,w3⟩:=Ncc h3
 obtain ⟨i,e4,w4⟩:=Ncc h4
 obtain ⟨t,e5,w5⟩:=Ncc h5
 obtain ⟨m,e6,w6⟩:=Ncc h6
 obtain ⟨l,e7,w7b,v7⟩:=NhE (Nhx n) (Noc n) h7
 have w8:l.length * 56 ≤ reachBytes:=by
  cases n with
  | zero =>
    have:l = []:=by
     cases l with
     | nil => rfl
     | cons a r =>
       obtain ⟨n',ps,q1,q2,q3,q4⟩:=h7
       rw [e7] at q1
       simp only [List.take_succ_cons,List.take_zero,List.cons.injEq,PV.fsl.injEq,and_true] at q1
       exact absurd (q4 0 (by rw [← q1.1]; simp)) (by simp [NeK,Sh.Is])
    rw [this]; simp
  | succ n => exact w7b
 have w7:l.length ≤ reachBytes:=Nat.le_trans (Nat.le_mul_of_pos_right _ Zaa) w8
 refine ⟨⟨d,o,j,i,t,m,false,l⟩,?_,w8,w3,w4,w5,w6,w7,Exs.wf_of v7⟩
 simp only [Sh.Is] at h8
 unfold In.cs
 rw [e1,e2,e3,e4,e5,e6,e7,h8,← Exs.flat]
 rfl
theorem Np7 {cs:List PV} (h:Sh.s.Is cs):∃ s:List UInt8,cs = [.s s] ∧ s.length ≤ reachBytes:=by
 obtain ⟨n,h1,h2⟩:=h
 exact ⟨n,h1,h2⟩
theorem Np8 (n:Nat):∀ (cs:List PV),(Niv n).Is cs → ∃ e:Tx,cs = e.cs ∧ e.wf:=by
 intro cs h
 simp only [Niv] at h
 obtain ⟨h1,h2,h3,h4⟩:=h
 simp only [Sh.width] at h1 h2 h3 h4
 obtain ⟨s,e1,w1⟩:=Nps h1
 obtain ⟨l,e2,w2,v2⟩:=Ned (show Sh.s.width = 1 from rfl) (fun qs hq => Np7 hq) h2
 obtain ⟨c,e3,w3,v3⟩:=Ned (NlP n) (Np6 n) h3
 refine ⟨⟨s,false,l,false,c⟩,?_,w1,w2,w3,v2,v3⟩
 simp only [Sh.Is] at h4
 unfold Tx.cs
 rw [e1,e2,e3,h4]
 rfl
theorem Np3 (n:Nat):∀ (cs:List PV),(NiK n).Is cs → ∃ c:Cd,cs = c.cs ∧ c.wf:=by
 intro cs h
 simp only [NiK] at h
 obtain ⟨h1,h2,h3⟩:=h
 simp only [Sh.width] at h1 h2 h3
 obtain ⟨d,e1,w1,v1⟩:=Ned (show dcSh.width = 5 from rfl) Np4 h1
 obtain ⟨t,e2,w2,v2⟩:=Ned (Nl8 n) (Np8 n) h2
 refine ⟨⟨false,d,false,t⟩,?_,w1,w2,v1,v2⟩
 simp only [Sh.Is] at h3
 unfold Cd.cs
 rw [e1,e2,h3]
 rfl
theorem Np5:∀ (cs:List PV),etSh.Is cs → ∃ e:Et,cs = e.cs ∧ e.wf:=by
 intro cs h
 simp only [etSh] at h
 obtain ⟨h1,h2,h3,h4,h5,h6⟩:=h
 simp only [Sh.width] at h1 h2 h3 h4 h5 h6
 obtain ⟨t,e1,w1⟩:=Ncc h1
 obtain ⟨o,e2⟩:=Njd h2
 obtain ⟨j,e3,w3⟩:=Ncc h3
 obtain ⟨a,e4,w4⟩:=Ncc h4
 obtain ⟨b,e5,w5⟩:=Ncc h5
 refine ⟨⟨t,o,j,a,b⟩,?_,w1,w3,w4,w5⟩
 simp only [Sh.Is] at h6
 unfold Et.cs
 rw [e1,e2,e3,e4,e5,h6]
section
variable {P:Program}
theorem NmO {tI tD tO tJ tN tL tE:TypeId} {fs:Array Field} (hI:P.underlying tI = some (.struct fs)) (hfs:(fs.toList.map fun f => (f.type,f.offset)) = [(tD,0),(tO,1),(tJ,2),(tJ,3),(tJ,4),(tN,5),(tL,6)])
 (hD:P.underlying tD = some (.int .u8)) (hO:P.underlying tO = some (.int .u8)) (hJ:P.underlying tJ = some (.int .i64)) (hN:P.underlying tN = some (.int .i64)) (hL:P.underlying tL = some (.slice tE))
 (cI:P.cellsOf tI = 7) (cE:P.cellsOf tE = 4) (cD:P.cellsOf tD = 1) (cO:P.cellsOf tO = 1) (cJ:P.cellsOf tJ = 1) (cN:P.cellsOf tN = 1) (cL:P.cellsOf tL = 1) (hb:56 ≤ P.bytesOf tE) (hE:∀ n,(NeK n).fits P (.inl tE) = true) (n:Nat):(Niu n).fits P (.inl tI) = true:=by
 have hb0:0 < P.bytesOf tE:=by omega
 have hle:(NeK n).low ≤ P.bytesOf tE:=Nat.le_trans (Nhw n) hb
 simp [Niu,Sh.fits,hI,hfs,hD,hO,hJ,hN,hL,cI,cE,cD,cO,cJ,cN,cL,hb0,hle,Sh.width,Nhx,hE n]
theorem Nnp {tT tS tL tC tI:TypeId} {fs:Array Field} (hT:P.underlying tT = some (.struct fs)) (hfs:(fs.toList.map fun f => (f.type,f.offset)) = [(tS,0),(tL,1),(tC,2)])
 (hS:P.underlying tS = some .string) (hL:P.underlying tL = some (.slice tS)) (hC:P.underlying tC = some (.slice tI)) (cT:P.cellsOf tT = 3) (cS:P.cellsOf tS = 1) (cL:P.cellsOf tL = 1) (cC:P.cellsOf tC = 1) (cI:P.cellsOf tI = 7) (hb:0 < P.bytesOf tS) (hb2:0 < P.bytesOf tI) (hI:∀ n,(Niu n).fits P (.inl tI) = true) (n:Nat):(Niv n).fits P (.inl tT) = true:=by
 simp [Niv,Sh.fits,hT,hfs,hS,hL,hC,cT,cS,cL,cC,cI,hb,hb2,Sh.width,NlP,show Sh.s.low = 1 from rfl,show (Niu n).low = 1 from rfl,show 1 ≤ P.bytesOf tS from hb,show 1 ≤ P.bytesOf tI from hb2,hI n]
theorem Nmg {tC tA tB tD tT:TypeId} {fs:Array Field} (hP:P.underlying tC = some (.struct fs)) (hfs:(fs.toList.map fun f => (f.type,f.offset)) = [(tA,0),(tB,1)])
 (hA:P.underlying tA = some (.slice tD)) (hB:P.underlying tB = some (.slice tT)) (cP:P.cellsOf tC = 2) (cA:P.cellsOf tA = 1) (cB:P.cellsOf tB = 1) (cD:P.cellsOf tD = 5) (cT:P.cellsOf tT = 3) (hd:0 < P.bytesOf tD) (ht:0 < P.bytesOf tT) (hD:dcSh.fits P (.inl tD) = true) (hT:∀ n,(Niv n).fits P (.inl tT) = true) (n:Nat):(NiK n).fits P (.inl tC) = true:=by
 have wd:dcSh.width = 5:=rfl
 simp [NiK,Sh.fits,hP,hfs,hA,hB,cP,cA,cB,cD,cT,hd,ht,Sh.width,wd,Nl8,show dcSh.low = 1 from rfl,show (Niv n).low = 1 from rfl,show 1 ≤ P.bytesOf tD from hd,show 1 ≤ P.bytesOf tT from ht,hD,hT n]
end
end Go.Pe
