/-
 Words: the result of a fault, by the interpreter of plain data. No condition.
-/
import Derived.Test.YtjnofhibldppoaaZWordsX
set_option linter.unusedVariables false
set_option linter.unusedSimpArgs false
set_option maxHeartbeats 4000000
namespace Go.Pe
open Go Go.Am Go.RowKit
section
variable {env:Env}{st:St}{ln:Int}{cfg:Cfg}{callE:CallE}{kw:Nat}{w:List PV}
def zW:List PV:=[.i .u8 (.ofNat 0),.s [],.i .i64 (.ofNat 0),.i .i64 (.ofNat 0),.i .i64 (.ofNat 0),.i .i64 (.ofNat 0)]
def faultOps:List MOper:=[⟨.l 86,.build zW [],none⟩,⟨.l 87,.fieldAddr 3 (.t 7),none⟩,⟨.l 88,.load false 1 (.l 87),none⟩,⟨.l 89,.build [.i .i64 (.ofNat 0),.i .i64 (.ofNat 0)] [(0,1,.c (.i .i64 (.ofNat 100))),(1,1,.l 88)],none⟩,⟨.no,.store 6 (.t 4) (.l 86),none⟩,⟨.no,.store 2 (.t 5) (.l 89),none⟩]
theorem Nmm(k:IntKind)(n:Int):PV.same NbS (.i k n) (.i k n)=true:=by
 show PV.same (39+1) _ _=true;simp[PV.same]
noncomputable def lA:Env:=Env.put .leaf 86 (.agg zW)
noncomputable def lB(kw:Nat):Env:=Env.put lA 87 (.ptr kw (0+3))
noncomputable def lC(kw:Nat)(ln:Int):Env:=Env.put (lB kw) 88 (.i .i64 ln)
noncomputable def lD(kw:Nat)(ln:Int):Env:=Env.put (lC kw ln) 89 (.agg [.i .i64 (.ofNat 100),.i .i64 ln])
def sA(st:St):St:={ st with cnt:=st.cnt+48 }
noncomputable def sB(st:St):St:=(sA st).put 1 (some (.cells zW false))
noncomputable def sC(st:St)(ln:Int):St:=(sB st).put 9 (some (.cells [.i .i64 (.ofNat 100),.i .i64 ln] false))
noncomputable def trF(env:Env)(st:St)(kw:Nat)(ln:Int):List (Loc×PV):=[(⟨env,.leaf,sA st⟩,.agg zW),(⟨env,lA,sA st⟩,.ptr kw (0+3)),(⟨env,lB kw,sA st⟩,.i .i64 ln),(⟨env,lC kw ln,sA st⟩,.agg [.i .i64 (.ofNat 100),.i .i64 ln]),(⟨env,lD kw ln,sA st⟩,.tup []),(⟨env,lD kw ln,sB st⟩,.tup [])]
theorem Ni4(h4:env.get 4=.ptr 1 0)(h5:env.get 5=.ptr 9 0)(h7:env.get 7=.ptr kw 0)(hw:st.get kw=some (.cells w false))(hl:cut? w 3 1=some [.i .i64 ln])(k1:st.get 1=some (.cells zW false))(k9:st.get 9=some (.cells [.i .i64 (.ofNat 0),.i .i64 (.ofNat 0)] false)) :
 NcF cfg callE faultOps st.cnt ⟨env,.leaf,sA st⟩=some (trF env st kw ln,⟨env,lD kw ln,sC st ln⟩):=by
 have e1:NaQ (sA st) 6 (.ptr 1 0) (.agg zW)=some (sB st):=Nbs (v:=.agg zW) (st:=sA st) k1 rfl rfl rfl;have e2:NaQ (sB st) 2 (.ptr 9 0) (.agg [.i .i64 (.ofNat 100),.i .i64 ln])=some (sC st ln) :=
  Nbs (v:=.agg [.i .i64 (.ofNat 100),.i .i64 ln]) (cs:=[.i .i64 (.ofNat 0),.i .i64 (.ofNat 0)]) (by unfold sB;rw[Yae (by decide)];exact k9) rfl rfl rfl
 have el:NaS (sA st) 1 (.ptr kw (0+3))=some [.i .i64 ln]:=by
  unfold NaS;have:St.get (sA st) kw=some (.cells w false):=hw;simp only[this];exact hl
 have ef:Na7 [.i .i64 (.ofNat 0),.i .i64 (.ofNat 0)] [(0,1,.i .i64 (.ofNat 100)),(1,1,.i .i64 ln)]=some [.i .i64 (.ofNat 100),.i .i64 ln]:=rfl;have ez:Na7 zW []=some zW:=rfl;have w1:∀ (l:Env) (s:St) (t:Nat) (v:PV),Loc.wr ⟨env,l,s⟩ (.l t) v=⟨env,Env.put l t v,s⟩:=fun _ _ _ _=>rfl;have gA:Env.get (Env.put .leaf 86 (.agg zW)) 86=.agg zW:=by simp[Yad]
 have gB:Env.get (lB kw) 87=.ptr kw (0+3):=by unfold lB;rw[Env.get_putk]
 have gC:Env.get (lC kw ln) 88=.i .i64 ln:=by simp[lC,Yad]
 have gD:Env.get (lD kw ln) 86=.agg zW:=by simp[lD,lC,lB,lA,Yad]
 have gE:Env.get (lD kw ln) 89=.agg [.i .i64 (.ofNat 100),.i .i64 ln]:=by simp[lD,Yad]
 have q1:Env.put .leaf 86 (.agg zW)=lA:=rfl;have q2:Env.put lA 87 (.ptr kw (0+3))=lB kw:=rfl;have q3:Env.put (lB kw) 88 (.i .i64 ln)=lC kw ln:=rfl;have q4:Env.put (lC kw ln) 89 (.agg [.i .i64 (.ofNat 100),.i .i64 ln])=lD kw ln:=rfl;simp only[faultOps,NcF,Nar,Nal,NmH,Nlv,NmI,Nng,Nnh,Nni,List.map_cons,List.map_nil,h4,h5,h7,ez,ef,el,e1,e2,map_some,Naa,Bool.false_eq_true,if_false,gA,gB,gC,gD,gE,q1,q2,q3,q4,trF]
def mF:List Nat:=[0,0,2,6,1,31]
theorem NhG(h7:env.get 7=.ptr kw 0)(hw:st.get kw=some (.cells w false))(hl:cut? w 3 1=some [.i .i64 ln])(fr:∀ j,st.cnt≤j→st.get j=none)(hk1:kw≠1)(hk9:kw≠9)(hkc:kw<st.cnt)(hc:9<st.cnt) :
 Nbt cfg callE faultOps mF (trF env st kw ln) ⟨env,lD kw ln,sC st ln⟩ st.cnt=true:=by
 have fA:∀ j,st.cnt≤j→(sA st).get j=none:=fun j hj=>fr j hj;have fB:∀ j,st.cnt≤j→(sB st).get j=none:=by
  intro j hj;unfold sB;rw[Yae Zaa];exact fA j hj
 have a1:Ndh cfg callE faultOps (trF env st kw ln) ⟨env,lD kw ln,sC st ln⟩ st.cnt 1 5=true:=by
  show((decide (5≤1)||PObj.same ((sB st).get (st.cnt+8 * 1)) ((sA st).get (st.cnt+8 * 1)))&&(match Nal cfg callE (Loc.rd ⟨env,lA,sA st⟩) ((sB st).put (st.cnt+8 * 1) none) (st.cnt+8 * 1) (.fieldAddr 3 (.t 7))with
   |some (r',st')=>PV.same NbS r' (.ptr kw (0+3))&&PObj.same (st'.get (st.cnt+8 * 1)) ((sA st).get (st.cnt+8 * 1))
   |none=>false))=true
  simp only[Nal,NmH,h7];rw[fB _ Zaa,fA _ Zaa,Yaf];show((decide (5≤1)||true)&&(PV.same (39+1) (.ptr kw (0+3)) (.ptr kw (0+3))&&true))=true;simp[PV.same]
 have a2:Ndh cfg callE faultOps (trF env st kw ln) ⟨env,lD kw ln,sC st ln⟩ st.cnt 2 5=true:=by
  have el:NaS ((sB st).put (st.cnt+8 * 2) none) 1 (.ptr kw (0+3))=some [.i .i64 ln]:=by
   unfold NaS;have:St.get ((sB st).put (st.cnt+8 * 2) none) kw=some (.cells w false):=by
    rw[Yae Zaa];unfold sB;rw[Yae (fun h=>hk1 h.symm)];exact hw
   simp only[this];exact hl
  have gB:Env.get (lB kw) 87=.ptr kw (0+3):=by unfold lB;rw[Env.get_putk]
  show((decide (5≤2)||PObj.same ((sB st).get (st.cnt+8 * 2)) ((sA st).get (st.cnt+8 * 2)))&&(match Nal cfg callE (Loc.rd ⟨env,lB kw,sA st⟩) ((sB st).put (st.cnt+8 * 2) none) (st.cnt+8 * 2) (.load false 1 (.l 87))with
   |some (r',st')=>PV.same NbS r' (.i .i64 ln)&&PObj.same (st'.get (st.cnt+8 * 2)) ((sA st).get (st.cnt+8 * 2))
   |none=>false))=true
  simp only[Nal,Nlv,gB,el,Naa,Bool.false_eq_true,if_false,map_some];rw[fB _ Zaa,fA _ Zaa,Yaf,Nmm];rfl
 have a3:Ndh cfg callE faultOps (trF env st kw ln) ⟨env,lD kw ln,sC st ln⟩ st.cnt 3 5=true:=by
  have gC:Env.get (lC kw ln) 88=.i .i64 ln:=by unfold lC;rw[Env.get_putk]
  have ef:Na7 [.i .i64 (.ofNat 0),.i .i64 (.ofNat 0)] [(0,1,.i .i64 (.ofNat 100)),(1,1,.i .i64 ln)]=some [.i .i64 (.ofNat 100),.i .i64 ln]:=rfl;show((decide (5≤3)||PObj.same ((sB st).get (st.cnt+8 * 3)) ((sA st).get (st.cnt+8 * 3)))&&(match Nal cfg callE (Loc.rd ⟨env,lC kw ln,sA st⟩) ((sB st).put (st.cnt+8 * 3) none) (st.cnt+8 * 3) (.build [.i .i64 (.ofNat 0),.i .i64 (.ofNat 0)] [(0,1,.c (.i .i64 (.ofNat 100))),(1,1,.l 88)])with
   |some (r',st')=>PV.same NbS r' (.agg [.i .i64 (.ofNat 100),.i .i64 ln])&&PObj.same (st'.get (st.cnt+8 * 3)) ((sA st).get (st.cnt+8 * 3))
   |none=>false))=true
  simp only[Nal,Nlv,NmI,List.map_cons,List.map_nil,gC,ef,map_some];rw[fB _ Zaa,fA _ Zaa,Yaf];show((decide (5≤3)||true)&&(PV.same (39+1) (.agg [.i .i64 (.ofNat 100),.i .i64 ln]) (.agg [.i .i64 (.ofNat 100),.i .i64 ln])&&true))=true;simp[PV.same]
 have c5:((stAt (trF env st kw ln) ⟨env,lD kw ln,sC st ln⟩ 5).get (st.cnt+8 * 5)).isNone=true:=by
  show((sB st).get (st.cnt+8 * 5)).isNone=true;rw[fB _ Zaa];rfl
 have c4:∀ m,((stAt (trF env st kw ln) ⟨env,lD kw ln,sC st ln⟩ 4).get (st.cnt+8 * m)).isNone=true:=by
  intro m;show((sA st).get (st.cnt+8 * m)).isNone=true;rw[fA _ Zaa];rfl
 have tt:∀ j:Nat,j∈List.range 7→j=0∨j=1∨j=2∨j=3∨j=4∨j=5∨j=6:=by
  intro j hj;simp at hj;omega
 have qq:∀ j,(Nah faultOps j=true)→Ndh cfg callE faultOps (trF env st kw ln) ⟨env,lD kw ln,sC st ln⟩ st.cnt j 5=true→j<4→(List.range (faultOps.length+1)).all (fun t=>(decide (t<faultOps.length)&&Nah faultOps t)||Nd1 faultOps j t||!NfT faultOps mF j t||Ndh cfg callE faultOps (trF env st kw ln) ⟨env,lD kw ln,sC st ln⟩ st.cnt j t)=true:=by
  intro j _ ha hj;rw[List.all_eq_true];intro t ht;have:j=0∨j=1∨j=2∨j=3:=by omega
  rcases tt t ht with rfl|rfl|rfl|rfl|rfl|rfl|rfl
  case inr.inr.inr.inr.inr.inl=>rw[ha];simp
  all_goals (rcases this with rfl|rfl|rfl|rfl<;>rfl)
 unfold Nbt;rw[List.all_eq_true];intro j hj;have hj':j=0∨j=1∨j=2∨j=3∨j=4∨j=5:=by
  have:j<6:=by simpa[faultOps]using hj
  omega
 rcases hj' with rfl|rfl|rfl|rfl|rfl|rfl
 ·rfl
 ·exact qq 1 rfl a1 Zaa
 ·exact qq 2 rfl a2 Zaa
 ·exact qq 3 rfl a3 Zaa
 ·rw[if_neg Zai,List.all_eq_true];intro m hm;have hm':m=0∨m=1∨m=2∨m=3∨m=4∨m=5:=by
   have:m<6:=(by simpa[faultOps]using hm);omega
  rcases hm' with rfl|rfl|rfl|rfl|rfl|rfl
  ·rfl
  ·show(Nay mF 4 1||_)=true;rw[c4];rfl
  ·show(Nay mF 4 2||_)=true;rw[c4];rfl
  ·show(Nay mF 4 3||_)=true;rw[c4];rfl
  ·rfl
  ·exact c5
 ·rw[if_neg Zai,List.all_eq_true];intro m hm;have hm':m=0∨m=1∨m=2∨m=3∨m=4∨m=5:=by
   have:m<6:=(by simpa[faultOps]using hm);omega
  rcases hm' with rfl|rfl|rfl|rfl|rfl|rfl<;>rfl
theorem NcG{n:Nat}(h4:env.get 4=.ptr 1 0)(h5:env.get 5=.ptr 9 0)(h7:env.get 7=.ptr kw 0)(hw:st.get kw=some (.cells w false))(hl:cut? w 3 1=some [.i .i64 ln])(k1:st.get 1=some (.cells zW false))(k9:st.get 9=some (.cells [.i .i64 (.ofNat 0),.i .i64 (.ofNat 0)] false))(fr:∀ j,st.cnt≤j→st.get j=none)(hk1:kw≠1)(hk9:kw≠9)(hkc:kw<st.cnt)(hc:9<st.cnt){Q:MExit→Now→Prop}(hQ:Q .nrm ⟨env,sC st ln⟩):WC cfg callE n (.chain faultOps mF none) ⟨env,st⟩ Q:=by
 refine⟨.nrm,⟨env,sC st ln⟩,?_,hQ⟩;have h1:=Ni4 (cfg:=cfg) (callE:=callE) h4 h5 h7 hw hl k1 k9;have h2:=NhG (cfg:=cfg) (callE:=callE) h7 hw hl fr hk1 hk9 hkc hc;simp only[Nak,Nce];have h1':NcF cfg callE faultOps st.cnt ⟨env,.leaf,{ st with cnt:=st.cnt+8 * faultOps.length }⟩=some (trF env st kw ln,⟨env,lD kw ln,sC st ln⟩):=h1;rw[h1'];simp only[h2,Nco,Bool.and_self,if_true,map_some]
theorem NdC(h4:env.get 4=.ptr 1 0)(h5:env.get 5=.ptr 9 0):mapO (Nf1 ⟨env,sC st ln⟩) [MRes.cell 4 true 6,MRes.cell 5 true 2]=some [.agg zW,.agg [.i .i64 (.ofNat 100),.i .i64 ln]]:=by
 have q1:(sC st ln).get 1=some (.cells zW false):=by
  unfold sC;rw[Yae Zai];unfold sB;exact Yaf _ _ _
 have q9:(sC st ln).get 9=some (.cells [.i .i64 (.ofNat 100),.i .i64 ln] false):=Yaf _ _ _;simp only[mapO,Nf1,h4,h5,Nbc (n:=6) q1 rfl,Nbc (n:=2) q9 rfl,Naa,if_true]
end
end Go.Pe
