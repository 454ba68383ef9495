/-
 Words: the token at a place, by the interpreter of plain data: the whole. No condition.
-/
import Derived.Test.YtjnofhibldppoaaZWordsX
set_option linter.unusedVariables false
set_option linter.unusedSimpArgs false
set_option maxHeartbeats 4000000
open Nat renaming reduceAdd → rB,reduceMul → rC,reduceLT → rD,reduceEqDiff → rE,reduceLeDiff → rF
namespace Go.Pe
open Go Go.Am Go.RowKit
section
variable {env:Env}{st:St}{ln:Int}{cfg:Cfg}{callE:CallE}{kw:Nat}{w:List PV}
def zW:List PV:=[.i .u8 (.ofNat 0),.s [],.i .i64 (.ofNat 0),.i .i64 (.ofNat 0),.i .i64 (.ofNat 0),.i .i64 (.ofNat 0)]
def faultOps:List MOper:=[⟨.l 86,.build zW [],none⟩,⟨.l 87,.fieldAddr 3 (.t 7),none⟩,⟨.l 88,.load false 1 (.l 87),none⟩,⟨.l 89,.build [.i .i64 (.ofNat 0),.i .i64 (.ofNat 0)] [(0,1,.c (.i .i64 (.ofNat 100))),(1,1,.l 88)],none⟩,⟨.no,.store 6 (.t 4) (.l 86),none⟩,⟨.no,.store 2 (.t 5) (.l 89),none⟩]
theorem NpU(k:IntKind)(n:Int):PV.same NbK (.i k n) (.i k n)=true:=by
 show PV.same (39+1) _ _=true;simp[PV.same]
noncomputable def lA:Env:=Env.put .leaf 86 (.agg zW)
noncomputable def lB(kw:Nat):Env:=Env.put lA 87 (.ptr kw (0+3))
noncomputable def lC(kw:Nat)(ln:Int):Env:=Env.put (lB kw) 88 (.i .i64 ln)
noncomputable def lD(kw:Nat)(ln:Int):Env:=Env.put (lC kw ln) 89 (.agg [.i .i64 (.ofNat 100),.i .i64 ln])
def sA(st:St):St:={ st with cnt:=st.cnt+48 }
noncomputable def sB(st:St):St:=(sA st).put 1 (some (.cells zW false))
noncomputable def sC(st:St)(ln:Int):St:=(sB st).put 9 (some (.cells [.i .i64 (.ofNat 100),.i .i64 ln] false))
noncomputable def trF(env:Env)(st:St)(kw:Nat)(ln:Int):List (Loc×PV):=[(⟨env,.leaf,sA st⟩,.agg zW),(⟨env,lA,sA st⟩,.ptr kw (0+3)),(⟨env,lB kw,sA st⟩,.i .i64 ln),(⟨env,lC kw ln,sA st⟩,.agg [.i .i64 (.ofNat 100),.i .i64 ln]),(⟨env,lD kw ln,sA st⟩,.tup []),(⟨env,lD kw ln,sB st⟩,.tup [])]
theorem NlI(h4:env.get 4=.ptr 1 0)(h5:env.get 5=.ptr 9 0)(h7:env.get 7=.ptr kw 0)(hw:st.get kw=some (.cells w false))(hl:cut? w 3 1=some [.i .i64 ln])(k1:st.get 1=some (.cells zW false))(k9:st.get 9=some (.cells [.i .i64 (.ofNat 0),.i .i64 (.ofNat 0)] false)) :
 NcP cfg callE faultOps st.cnt ⟨env,.leaf,sA st⟩=some (trF env st kw ln,⟨env,lD kw ln,sC st ln⟩):=by
 have e1:Na1 (sA st) 6 (.ptr 1 0) (.agg zW)=some (sB st):=NbH (v:=.agg zW) (st:=sA st) k1 rfl rfl rfl;have e2:Na1 (sB st) 2 (.ptr 9 0) (.agg [.i .i64 (.ofNat 100),.i .i64 ln])=some (sC st ln) :=
  NbH (v:=.agg [.i .i64 (.ofNat 100),.i .i64 ln]) (cs:=[.i .i64 (.ofNat 0),.i .i64 (.ofNat 0)]) (by unfold sB;rw[Yae (by decide)];exact k9) rfl rfl rfl
 have el:NaX (sA st) 1 (.ptr kw (0+3))=some [.i .i64 ln]:=by
  unfold NaX;have:St.get (sA st) kw=some (.cells w false):=hw;simp only[this];exact hl
 have ef:Nbi [.i .i64 (.ofNat 0),.i .i64 (.ofNat 0)] [(0,1,.i .i64 (.ofNat 100)),(1,1,.i .i64 ln)]=some [.i .i64 (.ofNat 100),.i .i64 ln]:=rfl;have ez:Nbi zW []=some zW:=rfl;have w1:∀ (l:Env) (s:St) (t:Nat) (v:PV),Loc.wr ⟨env,l,s⟩ (.l t) v=⟨env,Env.put l t v,s⟩:=fun _ _ _ _=>rfl;have gA:Env.get (Env.put .leaf 86 (.agg zW)) 86=.agg zW:=by simp[Yad]
 have gB:Env.get (lB kw) 87=.ptr kw (0+3):=by unfold lB;rw[Env.get_putk]
 have gC:Env.get (lC kw ln) 88=.i .i64 ln:=by simp[lC,Yad]
 have gD:Env.get (lD kw ln) 86=.agg zW:=by simp[lD,lC,lB,lA,Yad]
 have gE:Env.get (lD kw ln) 89=.agg [.i .i64 (.ofNat 100),.i .i64 ln]:=by simp[lD,Yad]
 have q1:Env.put .leaf 86 (.agg zW)=lA:=rfl;have q2:Env.put lA 87 (.ptr kw (0+3))=lB kw:=rfl;have q3:Env.put (lB kw) 88 (.i .i64 ln)=lC kw ln:=rfl;have q4:Env.put (lC kw ln) 89 (.agg [.i .i64 (.ofNat 100),.i .i64 ln])=lD kw ln:=rfl;simp only[faultOps,NcP,NaA,Nap,Nqj,NoP,Nqk,NqT,NqU,NqV,List.map_cons,List.map_nil,h4,h5,h7,ez,ef,el,e1,e2,map_some,Naa,Bool.false_eq_true,if_false,gA,gB,gC,gD,gE,q1,q2,q3,q4,trF]
def mF:List Nat:=[0,0,2,6,1,31]
theorem NjV(h7:env.get 7=.ptr kw 0)(hw:st.get kw=some (.cells w false))(hl:cut? w 3 1=some [.i .i64 ln])(fr:∀ j,st.cnt≤j→st.get j=none)(hk1:kw≠1)(hk9:kw≠9)(hkc:kw<st.cnt)(hc:9<st.cnt) :
 Nbv cfg callE faultOps mF (trF env st kw ln) ⟨env,lD kw ln,sC st ln⟩ st.cnt=true:=by
 have fA:∀ j,st.cnt≤j→(sA st).get j=none:=fun j hj=>fr j hj;have fB:∀ j,st.cnt≤j→(sB st).get j=none:=by
  intro j hj;unfold sB;rw[Yae Zaa];exact fA j hj
 have a1:Ndy cfg callE faultOps (trF env st kw ln) ⟨env,lD kw ln,sC st ln⟩ st.cnt 1 5=true:=by
  show((decide (5≤1)||PObj.same ((sB st).get (st.cnt+8 * 1)) ((sA st).get (st.cnt+8 * 1)))&&(match Nap cfg callE (Loc.rd ⟨env,lA,sA st⟩) ((sB st).put (st.cnt+8 * 1) none) (st.cnt+8 * 1) (.fieldAddr 3 (.t 7))with
   |some (r',st')=>PV.same NbK r' (.ptr kw (0+3))&&PObj.same (st'.get (st.cnt+8 * 1)) ((sA st).get (st.cnt+8 * 1))
   |none=>false))=true
  simp only[Nap,Nqj,h7];rw[fB _ Zaa,fA _ Zaa,Yaf];show((decide (5≤1)||true)&&(PV.same (39+1) (.ptr kw (0+3)) (.ptr kw (0+3))&&true))=true;simp[PV.same]
 have a2:Ndy cfg callE faultOps (trF env st kw ln) ⟨env,lD kw ln,sC st ln⟩ st.cnt 2 5=true:=by
  have el:NaX ((sB st).put (st.cnt+8 * 2) none) 1 (.ptr kw (0+3))=some [.i .i64 ln]:=by
   unfold NaX;have:St.get ((sB st).put (st.cnt+8 * 2) none) kw=some (.cells w false):=by
    rw[Yae Zaa];unfold sB;rw[Yae (fun h=>hk1 h.symm)];exact hw
   simp only[this];exact hl
  have gB:Env.get (lB kw) 87=.ptr kw (0+3):=by unfold lB;rw[Env.get_putk]
  show((decide (5≤2)||PObj.same ((sB st).get (st.cnt+8 * 2)) ((sA st).get (st.cnt+8 * 2)))&&(match Nap cfg callE (Loc.rd ⟨env,lB kw,sA st⟩) ((sB st).put (st.cnt+8 * 2) none) (st.cnt+8 * 2) (.load false 1 (.l 87))with
   |some (r',st')=>PV.same NbK r' (.i .i64 ln)&&PObj.same (st'.get (st.cnt+8 * 2)) ((sA st).get (st.cnt+8 * 2))
   |none=>false))=true
  simp only[Nap,NoP,gB,el,Naa,Bool.false_eq_true,if_false,map_some];rw[fB _ Zaa,fA _ Zaa,Yaf,NpU];rfl
 have a3:Ndy cfg callE faultOps (trF env st kw ln) ⟨env,lD kw ln,sC st ln⟩ st.cnt 3 5=true:=by
  have gC:Env.get (lC kw ln) 88=.i .i64 ln:=by unfold lC;rw[Env.get_putk]
  have ef:Nbi [.i .i64 (.ofNat 0),.i .i64 (.ofNat 0)] [(0,1,.i .i64 (.ofNat 100)),(1,1,.i .i64 ln)]=some [.i .i64 (.ofNat 100),.i .i64 ln]:=rfl;show((decide (5≤3)||PObj.same ((sB st).get (st.cnt+8 * 3)) ((sA st).get (st.cnt+8 * 3)))&&(match Nap cfg callE (Loc.rd ⟨env,lC kw ln,sA st⟩) ((sB st).put (st.cnt+8 * 3) none) (st.cnt+8 * 3) (.build [.i .i64 (.ofNat 0),.i .i64 (.ofNat 0)] [(0,1,.c (.i .i64 (.ofNat 100))),(1,1,.l 88)])with
   |some (r',st')=>PV.same NbK r' (.agg [.i .i64 (.ofNat 100),.i .i64 ln])&&PObj.same (st'.get (st.cnt+8 * 3)) ((sA st).get (st.cnt+8 * 3))
   |none=>false))=true
  simp only[Nap,NoP,Nqk,List.map_cons,List.map_nil,gC,ef,map_some];rw[fB _ Zaa,fA _ Zaa,Yaf];show((decide (5≤3)||true)&&(PV.same (39+1) (.agg [.i .i64 (.ofNat 100),.i .i64 ln]) (.agg [.i .i64 (.ofNat 100),.i .i64 ln])&&true))=true;simp[PV.same]
 have c5:((stAt (trF env st kw ln) ⟨env,lD kw ln,sC st ln⟩ 5).get (st.cnt+8 * 5)).isNone=true:=by
  show((sB st).get (st.cnt+8 * 5)).isNone=true;rw[fB _ Zaa];rfl
 have c4:∀ m,((stAt (trF env st kw ln) ⟨env,lD kw ln,sC st ln⟩ 4).get (st.cnt+8 * m)).isNone=true:=by
  intro m;show((sA st).get (st.cnt+8 * m)).isNone=true;rw[fA _ Zaa];rfl
 have tt:∀ j:Nat,j∈List.range 7→j=0∨j=1∨j=2∨j=3∨j=4∨j=5∨j=6:=by
  intro j hj;simp at hj;omega
 have qq:∀ j,(Nai faultOps j=true)→Ndy cfg callE faultOps (trF env st kw ln) ⟨env,lD kw ln,sC st ln⟩ st.cnt j 5=true→j<4→(List.range (faultOps.length+1)).all (fun t=>(decide (t<faultOps.length)&&Nai faultOps t)||NdM faultOps j t||!Nf5 faultOps mF j t||Ndy cfg callE faultOps (trF env st kw ln) ⟨env,lD kw ln,sC st ln⟩ st.cnt j t)=true:=by
  intro j _ ha hj;rw[List.all_eq_true];intro t ht;have:j=0∨j=1∨j=2∨j=3:=by omega
  rcases tt t ht with rfl|rfl|rfl|rfl|rfl|rfl|rfl
  case inr.inr.inr.inr.inr.inl=>rw[ha];simp
  all_goals (rcases this with rfl|rfl|rfl|rfl<;>rfl)
 unfold Nbv;rw[List.all_eq_true];intro j hj;have hj':j=0∨j=1∨j=2∨j=3∨j=4∨j=5:=by
  have:j<6:=by simpa[faultOps]using hj
  omega
 rcases hj' with rfl|rfl|rfl|rfl|rfl|rfl
 ·rfl
 ·exact qq 1 rfl a1 Zaa
 ·exact qq 2 rfl a2 Zaa
 ·exact qq 3 rfl a3 Zaa
 ·rw[if_neg Zaj,List.all_eq_true];intro m hm;have hm':m=0∨m=1∨m=2∨m=3∨m=4∨m=5:=by
   have:m<6:=(by simpa[faultOps]using hm);omega
  rcases hm' with rfl|rfl|rfl|rfl|rfl|rfl
  ·rfl
  ·show(NaK mF 4 1||_)=true;rw[c4];rfl
  ·show(NaK mF 4 2||_)=true;rw[c4];rfl
  ·show(NaK mF 4 3||_)=true;rw[c4];rfl
  ·rfl
  ·exact c5
 ·rw[if_neg Zaj,List.all_eq_true];intro m hm;have hm':m=0∨m=1∨m=2∨m=3∨m=4∨m=5:=by
   have:m<6:=(by simpa[faultOps]using hm);omega
  rcases hm' with rfl|rfl|rfl|rfl|rfl|rfl<;>rfl
theorem Ndv{n:Nat}(h4:env.get 4=.ptr 1 0)(h5:env.get 5=.ptr 9 0)(h7:env.get 7=.ptr kw 0)(hw:st.get kw=some (.cells w false))(hl:cut? w 3 1=some [.i .i64 ln])(k1:st.get 1=some (.cells zW false))(k9:st.get 9=some (.cells [.i .i64 (.ofNat 0),.i .i64 (.ofNat 0)] false))(fr:∀ j,st.cnt≤j→st.get j=none)(hk1:kw≠1)(hk9:kw≠9)(hkc:kw<st.cnt)(hc:9<st.cnt){Q:MExit→Now→Prop}(hQ:Q .nrm ⟨env,sC st ln⟩):WC cfg callE n (.chain faultOps mF none) ⟨env,st⟩ Q:=by
 refine⟨.nrm,⟨env,sC st ln⟩,?_,hQ⟩;have h1:=NlI (cfg:=cfg) (callE:=callE) h4 h5 h7 hw hl k1 k9;have h2:=NjV (cfg:=cfg) (callE:=callE) h7 hw hl fr hk1 hk9 hkc hc;simp only[Nao,Ncx];have h1':NcP cfg callE faultOps st.cnt ⟨env,.leaf,{ st with cnt:=st.cnt+8 * faultOps.length }⟩=some (trF env st kw ln,⟨env,lD kw ln,sC st ln⟩):=h1;rw[h1'];simp only[h2,NcD,Bool.and_self,if_true,map_some]
theorem NeM(h4:env.get 4=.ptr 1 0)(h5:env.get 5=.ptr 9 0):mapO (Nej ⟨env,sC st ln⟩) [MRes.cell 4 true 6,MRes.cell 5 true 2]=some [.agg zW,.agg [.i .i64 (.ofNat 100),.i .i64 ln]]:=by
 have q1:(sC st ln).get 1=some (.cells zW false):=by
  unfold sC;rw[Yae Zaj];unfold sB;exact Yaf _ _ _
 have q9:(sC st ln).get 9=some (.cells [.i .i64 (.ofNat 100),.i .i64 ln] false):=Yaf _ _ _;simp only[mapO,Nej,h4,h5,Nbq (n:=6) q1 rfl,Nbq (n:=2) q9 rfl,Naa,if_true]
end
end Go.Pe
set_option maxHeartbeats 4000000
set_option maxRecDepth 100000
namespace Go.Pe
open Go Go.Am Go.RowKit
theorem NpC{M:Nat}{text:List UInt8}{at0:Nat}(hM:text.length<M)(hlen:text.length≤16384)(hat:at0≤text.length) :
 ∃ r st',Nay cfgW (M+60+1) 64 [.s text,.i .i64 at0] { sto:=.leaf,cnt:=1 }=some (r,st')∧r=Ndh text at0:=by
 refine Nax NlL ?_;delta m64 Qa Qr Qg Ql Qt Qn Qs Qk Qm Qh Qi Qw;have h1:¬ (((text.length:Nat):Int) > Int.ofNat 16384):=by show ¬ (((text.length:Nat):Int) > 16384);omega
 have h2:¬ (((at0:Nat):Int)<Int.ofNat 0):=by show ¬ (((at0:Nat):Int)<0);omega
 have h3:¬ (((at0:Nat):Int) > ((text.length:Nat):Int)):=by omega
 simp only[Naj,↓Z0,↓Xp,↓Xt,Xq,Xc,Nae,Naa,rB,rC,rD,rE,reduceIte,h1,h2,h3];have e1:=Yaf ((({ sto:=.leaf,cnt:=17 }:St).put 1 (some (.cells [.i .u8 (.ofNat 0),.s [],.i .i64 (.ofNat 0),.i .i64 (.ofNat 0),.i .i64 (.ofNat 0),.i .i64 (.ofNat 0)] false)))) 9 (some (.cells [.i .i64 (.ofNat 0),.i .i64 (.ofNat 0)] false));have e2:((({ sto:=.leaf,cnt:=17 }:St).put 1 (some (.cells [.i .u8 (.ofNat 0),.s [],.i .i64 (.ofNat 0),.i .i64 (.ofNat 0),.i .i64 (.ofNat 0),.i .i64 (.ofNat 0)] false))).put 9 (some (.cells [.i .i64 (.ofNat 0),.i .i64 (.ofNat 0)] false))).get 1=some (.cells [.i .u8 (.ofNat 0),.s [],.i .i64 (.ofNat 0),.i .i64 (.ofNat 0),.i .i64 (.ofNat 0),.i .i64 (.ofNat 0)] false):=by
  rw[Yae Zaj,Yaf]
 have e3:((({ sto:=.leaf,cnt:=17 }:St).put 1 (some (.cells [.i .u8 (.ofNat 0),.s [],.i .i64 (.ofNat 0),.i .i64 (.ofNat 0),.i .i64 (.ofNat 0),.i .i64 (.ofNat 0)] false))).put 9 (some (.cells [.i .i64 (.ofNat 0),.i .i64 (.ofNat 0)] false))).cnt=17:=rfl;have fr0:∀ j,17≤j→((({ sto:=.leaf,cnt:=17 }:St).put 1 (some (.cells [.i .u8 (.ofNat 0),.s [],.i .i64 (.ofNat 0),.i .i64 (.ofNat 0),.i .i64 (.ofNat 0),.i .i64 (.ofNat 0)] false))).put 9 (some (.cells [.i .i64 (.ofNat 0),.i .i64 (.ofNat 0)] false))).get j=none:=by
  intro j hj;rw[Yae Zaa,Yae Zaa];rfl
 generalize ((({ sto:=.leaf,cnt:=17 }:St).put 1 (some (.cells [.i .u8 (.ofNat 0),.s [],.i .i64 (.ofNat 0),.i .i64 (.ofNat 0),.i .i64 (.ofNat 0),.i .i64 (.ofNat 0)] false))).put 9 (some (.cells [.i .i64 (.ofNat 0),.i .i64 (.ofNat 0)] false)))=st0 at *;rw[Nal (r:=.agg clsCells) rfl (NfO M) rfl];rw[Zx,e3];rw[NbH (v:=.agg clsCells) (cs:=List.replicate 256 (.i .u8 (.ofNat 0))) (Yaf _ _ _) Ngy Zaf Ngz,St.put_put];simp only[map_some,Zx,PV.cells,rB];have f1:(({ sto:=st0.sto,cnt:=145 }:St).put 129 (some (.cells clsCells false))).get 1=some (.cells [.i .u8 (.ofNat 0),.s [],.i .i64 (.ofNat 0),.i .i64 (.ofNat 0),.i .i64 (.ofNat 0),.i .i64 (.ofNat 0)] false):=by
  rw[Yae Zaj];exact e2
 have f9:(({ sto:=st0.sto,cnt:=145 }:St).put 129 (some (.cells clsCells false))).get 9=some (.cells [.i .i64 (.ofNat 0),.i .i64 (.ofNat 0)] false):=by
  rw[Yae Zaj];exact e1
 have f129:=Yaf { sto:=st0.sto,cnt:=145 } 129 (some (.cells clsCells false));have fr1:∀ j,145≤j→(({ sto:=st0.sto,cnt:=145 }:St).put 129 (some (.cells clsCells false))).get j=none:=by
  intro j hj;rw[Yae Zaa];exact fr0 j Zaa
 have fc:(({ sto:=st0.sto,cnt:=145 }:St).put 129 (some (.cells clsCells false))).cnt=145:=rfl;generalize (({ sto:=st0.sto,cnt:=145 }:St).put 129 (some (.cells clsCells false)))=st1 at *;simp only[Nrj,fc,rB];refine Nd0 (Njw (fuel:=M+59) Nrg Nrn (k:=129) (fz:=false) hat hlen Zaa (st:={ sto:=st1.sto,cnt:=177 }) f129) ?_;rintro _ ⟨s2,c2⟩ ⟨rfl,hs2,hc2⟩;simp only at hs2 hc2;subst hs2;have hpl:=Nch false (text.drop at0);simp only[List.length_drop]at hpl;generalize ha:at0+pass false (text.drop at0)=a at *;have hal:a≤text.length:=by omega
 simp only[↓Z0,↓Xp,↓Xt,Xq,Xc,Nae,Naa,rB,rC,rD,rE,reduceIte];rw[Nbp ⟨by omega,by omega⟩];simp only[↓Z0,↓Xp,↓Xt,Xq,Xc,Nae,Naa,rB,rC,rD,rE,reduceIte,List.drop_zero,Nat.sub_zero];rw[Nal (r:=.i .i64 (Ned 10 (text.take a) 0)) rfl (by rw[Nav Nrl];rfl) rfl];have hcl:Ned 10 (text.take a) 0≤text.length:=by
  rw[NfR];have:=List.count_le_length (a:=(10:UInt8)) (l:=text.take a);simp only[List.length_take]at this;omega
 have hwl:IntKind.i64.wrap (((Ned 10 (text.take a) 0:Nat):Int)+Int.ofNat 1)=((Ned 10 (text.take a) 0:Nat):Int)+1:=NaD _ ⟨by show _≤((Ned 10 (text.take a) 0:Nat):Int)+1;omega,by show((Ned 10 (text.take a) 0:Nat):Int)+1<_;omega⟩;have hfill:∀ ln x y:Int,Nbi [.i .u8 (.ofNat 0),.s [],.i .i64 (.ofNat 0),.i .i64 (.ofNat 0),.i .i64 (.ofNat 0),.i .i64 (.ofNat 0)] [(0,1,.i .u8 (.ofNat 5)),(3,1,.i .i64 ln),(4,1,.i .i64 x),(5,1,.i .i64 y)]=some [.i .u8 (.ofNat 5),.s [],.i .i64 (.ofNat 0),.i .i64 ln,.i .i64 x,.i .i64 y]:=fun _ _ _=>rfl;simp only[↓Z0,↓Xp,↓Xt,Xq,Xc,Nae,Naa,rB,rC,rD,rE,reduceIte,hwl,hfill];generalize hln:((Ned 10 (text.take a) 0:Nat):Int)+1=ln at *;rw[NbH (n:=6) (v:=.agg [.i .u8 (.ofNat 5),.s [],.i .i64 (.ofNat 0),.i .i64 ln,.i .i64 a,.i .i64 a]) (cs:=[.i .u8 (.ofNat 0),.s [],.i .i64 (.ofNat 0),.i .i64 (.ofNat 0),.i .i64 (.ofNat 0),.i .i64 (.ofNat 0)]) (Yaf _ _ _) rfl rfl rfl,St.put_put];simp only[map_some,Zx,PV.cells];have n1:∀ j,c2+j≠1:=fun j=>by omega
 have n9:∀ j,c2+j≠9:=fun j=>by omega
 have n129:∀ j,c2+j≠129:=fun j=>by omega
 have gw:=Yaf ({ sto:=st1.sto,cnt:=c2+80 }:St) (c2+64) (some (.cells [.i .u8 (.ofNat 5),.s [],.i .i64 (.ofNat 0),.i .i64 ln,.i .i64 a,.i .i64 a] false));have g1:(({ sto:=st1.sto,cnt:=c2+80 }:St).put (c2+64) (some (.cells [.i .u8 (.ofNat 5),.s [],.i .i64 (.ofNat 0),.i .i64 ln,.i .i64 a,.i .i64 a] false))).get 1=some (.cells [.i .u8 (.ofNat 0),.s [],.i .i64 (.ofNat 0),.i .i64 (.ofNat 0),.i .i64 (.ofNat 0),.i .i64 (.ofNat 0)] false):=by
  rw[Yae (n1 64)];exact f1
 have g9:(({ sto:=st1.sto,cnt:=c2+80 }:St).put (c2+64) (some (.cells [.i .u8 (.ofNat 5),.s [],.i .i64 (.ofNat 0),.i .i64 ln,.i .i64 a,.i .i64 a] false))).get 9=some (.cells [.i .i64 (.ofNat 0),.i .i64 (.ofNat 0)] false):=by
  rw[Yae (n9 64)];exact f9
 have g129:(({ sto:=st1.sto,cnt:=c2+80 }:St).put (c2+64) (some (.cells [.i .u8 (.ofNat 5),.s [],.i .i64 (.ofNat 0),.i .i64 ln,.i .i64 a,.i .i64 a] false))).get 129=some (.cells clsCells false):=by
  rw[Yae (n129 64)];exact f129
 have fr2:∀ j,c2+65≤j→(({ sto:=st1.sto,cnt:=c2+80 }:St).put (c2+64) (some (.cells [.i .u8 (.ofNat 5),.s [],.i .i64 (.ofNat 0),.i .i64 ln,.i .i64 a,.i .i64 a] false))).get j=none:=by
  intro j hj;rw[Yae Zaa];exact fr1 j Zaa
 have gc:(({ sto:=st1.sto,cnt:=c2+80 }:St).put (c2+64) (some (.cells [.i .u8 (.ofNat 5),.s [],.i .i64 (.ofNat 0),.i .i64 ln,.i .i64 a,.i .i64 a] false))).cnt=c2+80:=rfl;generalize (({ sto:=st1.sto,cnt:=c2+80 }:St).put (c2+64) (some (.cells [.i .u8 (.ofNat 5),.s [],.i .i64 (.ofNat 0),.i .i64 ln,.i .i64 a,.i .i64 a] false)))=st2 at *;simp only[gc,Nat.add_assoc,rB];have hend:Ndh text at0=if a=text.length then Nck 5 [] 0 ln a a else Ndh text at0:=by
  split
  ·rename_i h;unfold Ndh;simp only[ha,h,if_true];rw[←hln,h]
  ·rfl
 by_cases hae:a=text.length
 ·have hb:(((a:Nat):Int)==((text.length:Nat):Int))=true:=by rw[hae];simp
  simp only[hb,↓Z0,↓Xp,↓Xt,Xq,Xc,Nae,Naa,rB,rC,rD,rE,reduceIte];rw[Nbq (n:=6) (st:={ sto:=st2.sto,cnt:=c2+144 }) gw rfl];simp only[Zx,Nbi,map_some];rw[hend,if_pos hae];refine Nd4 ?_ ?_ (w:=[.i .u8 (.ofNat 5),.s [],.i .i64 (.ofNat 0),.i .i64 ln,.i .i64 a,.i .i64 a]) (f:=[.i .i64 (.ofNat 0),.i .i64 (.ofNat 0)]) (st:={ sto:=st2.sto,cnt:=c2+144 }) g1 g9 rfl rfl rfl rfl rfl rfl rfl
  ·simp[Yad]
  ·simp[Yad]
 ·have hb:(((a:Nat):Int)==((text.length:Nat):Int))=false:=by
   simp only[beq_eq_false_iff_ne,ne_eq];omega
  simp only[hb,↓Z0,↓Xp,↓Xt,Xq,Xc,Nae,Naa,rB,rC,rD,rE,reduceIte,Nrm];refine Nd0 (Nnr (fuel:=M+59) Nrh (k:=129) (fz:=false) (text:=text) (at0:=a) Zaa hlen Zaa (st:={ sto:=st2.sto,cnt:=c2+152 }) g129) ?_;rintro _ ⟨s3,c3⟩ ⟨rfl,hs3,hc3⟩;simp only at hs3 hc3;subst hs3;generalize he:a+endL (text.drop a)=e at *;rw[Nb4 (st:={ sto:=st2.sto,cnt:=c3 }) gw Zaf rfl rfl];simp only[map_some,Zx,List.set];have hel:0<endL (text.drop a)∧e≤text.length:=by
   rw[Nbl (show a<text.length by omega)]at he ⊢;simp only[endL]at he ⊢;have hr:=NhI (cls (text.getD a 0)) (text.drop (a+1));simp only[List.length_drop]at hr;split
   ·rename_i h5;rw[if_pos h5]at he;split
    ·rename_i ht;rw[if_pos ht]at he;have:((text.getD a 0::text.drop (a+1)).take 2).length=2:=(by rcases ht with h|h<;>rw[h]<;>rfl);simp only[List.length_take,List.length_cons,List.length_drop]at this;omega
    ·rename_i ht;rw[if_neg ht]at he;omega
   ·rename_i h5;rw[if_neg h5]at he;omega
  have m1:∀ j,c2+j≠1:=fun j=>by omega
  have kw:=Yaf ({ sto:=st2.sto,cnt:=c3 }:St) (c2+64) (some (.cells [.i .u8 (.ofNat 5),.s [],.i .i64 (.ofNat 0),.i .i64 ln,.i .i64 a,.i .i64 (e:Nat)] false));have k1:(({ sto:=st2.sto,cnt:=c3 }:St).put (c2+64) (some (.cells [.i .u8 (.ofNat 5),.s [],.i .i64 (.ofNat 0),.i .i64 ln,.i .i64 a,.i .i64 (e:Nat)] false))).get 1=some (.cells [.i .u8 (.ofNat 0),.s [],.i .i64 (.ofNat 0),.i .i64 (.ofNat 0),.i .i64 (.ofNat 0),.i .i64 (.ofNat 0)] false):=by
   rw[Yae (n1 64)];exact g1
  have k9:(({ sto:=st2.sto,cnt:=c3 }:St).put (c2+64) (some (.cells [.i .u8 (.ofNat 5),.s [],.i .i64 (.ofNat 0),.i .i64 ln,.i .i64 a,.i .i64 (e:Nat)] false))).get 9=some (.cells [.i .i64 (.ofNat 0),.i .i64 (.ofNat 0)] false):=by
   rw[Yae (n9 64)];exact g9
  have k129:(({ sto:=st2.sto,cnt:=c3 }:St).put (c2+64) (some (.cells [.i .u8 (.ofNat 5),.s [],.i .i64 (.ofNat 0),.i .i64 ln,.i .i64 a,.i .i64 (e:Nat)] false))).get 129=some (.cells clsCells false):=by
   rw[Yae (n129 64)];exact g129
  have fr3:∀ j,c2+65≤j→(({ sto:=st2.sto,cnt:=c3 }:St).put (c2+64) (some (.cells [.i .u8 (.ofNat 5),.s [],.i .i64 (.ofNat 0),.i .i64 ln,.i .i64 a,.i .i64 (e:Nat)] false))).get j=none:=by
   intro j hj;rw[Yae Zaa];exact fr2 j hj
  have kc:(({ sto:=st2.sto,cnt:=c3 }:St).put (c2+64) (some (.cells [.i .u8 (.ofNat 5),.s [],.i .i64 (.ofNat 0),.i .i64 ln,.i .i64 a,.i .i64 (e:Nat)] false))).cnt=c3:=rfl;generalize (({ sto:=st2.sto,cnt:=c3 }:St).put (c2+64) (some (.cells [.i .u8 (.ofNat 5),.s [],.i .i64 (.ofNat 0),.i .i64 ln,.i .i64 a,.i .i64 (e:Nat)] false)))=st3 at *;have hlw:∀ c,NaX { sto:=st3.sto,cnt:=c } 1 (.ptr (c2+64) 5)=some [.i .i64 (e:Nat)]:=by
   intro c;unfold NaX;have:St.get { sto:=st3.sto,cnt:=c } (c2+64)=_:=kw;simp only[this];rfl
  simp only[kc,hlw,↓Z0,↓Xp,↓Xt,Xq,Xc,Nae,Naa,rB,rC,rD,rE,reduceIte];rw[Nbp ⟨by omega,by omega⟩];simp only[↓Z0,↓Xp,↓Xt,Xq,Xc,Nae,Naa,rB,rC,rD,rE,reduceIte];rw[Nbp ⟨by omega,by omega⟩];simp only[↓Z0,↓Xp,↓Xt,Xq,Xc,Nae,Naa,rB,rC,rD,rE,reduceIte];have hda:=Nbl (show a<text.length by omega);have hs:List.take (e - a) (text.drop a)=List.take (endL (text.drop a)) (text.drop a):=by
   congr 1;omega
  have hs0:(List.take (e - a) (text.drop a)).getD 0 0=text.getD a 0:=by
   rw[hda,show e - a=(e - a - 1)+1 by omega];rfl
  have hsl:(List.take (e - a) (text.drop a)).length=e - a:=by
   simp only[List.length_take,List.length_drop];omega
  have hnx:Ndh text at0=(let s:=List.take (e - a) (text.drop a)
   if cls (text.getD a 0)=3 then match Neh 0 s with
    |some n=>Nck 1 [] n ln a e
    |none=>Nbm 100 ln
   else if cls (text.getD a 0)=4 then Nck (if Nep (32::s++[32]) keyText then 3 else 2) s 0 ln a e
   else if cls (text.getD a 0)=5∧s≠[61]then Nck 4 s 0 ln a e
   else Nbm 100 ln):=by
   unfold Ndh;simp only[ha,hae,if_false,he,hln,hs];rfl
  rw[hnx];simp only[show(Int.ofNat 0).toNat=0 from rfl,hs0];generalize List.take (e - a) (text.drop a)=s at *;refine⟨by decide,by omega,⟨by omega,by have:=(text.getD a 0).toNat_lt;omega⟩,?_⟩;generalize text.getD a 0=c at *;have hld:=fun(q:Nat)=>Neu (st:={ sto:=st3.sto,cnt:=q }) k129 c;have yes:∀ m:Nat,cls c=m→(((cls c:Nat):Int)==Int.ofNat m)=true:=by
   intro m h;rw[h];simp
  have no:∀ m:Nat,cls c≠m→(((cls c:Nat):Int)==Int.ofNat m)=false:=by
   intro m h;simp only[beq_eq_false_iff_ne,ne_eq];show ¬ ((cls c:Nat):Int)=(m:Int);omega
  have st0K:∀ (q:Nat) (v:PV),v.cells=[v]→v.one=true→Na1 { sto:=st3.sto,cnt:=q } 1 (.ptr (c2+64) 0) v=some (St.put { sto:=st3.sto,cnt:=q } (c2+64) (some (.cells [v,.s [],.i .i64 (.ofNat 0),.i .i64 ln,.i .i64 a,.i .i64 (e:Nat)] false))):=by
   intro q v hv h1;rw[Nb4 (st:={ sto:=st3.sto,cnt:=q }) kw Zaf hv h1];rfl
  have keep1:∀ (q:Nat) (o:Option PObj),(St.put { sto:=st3.sto,cnt:=q } (c2+64) o).get 1=some (.cells [.i .u8 (.ofNat 0),.s [],.i .i64 (.ofNat 0),.i .i64 (.ofNat 0),.i .i64 (.ofNat 0),.i .i64 (.ofNat 0)] false):=by
   intro q o;rw[Yae (n1 64)];exact k1
  have keep9:∀ (q:Nat) (o:Option PObj),(St.put { sto:=st3.sto,cnt:=q } (c2+64) o).get 9=some (.cells [.i .i64 (.ofNat 0),.i .i64 (.ofNat 0)] false):=by
   intro q o;rw[Yae (n9 64)];exact k9
  by_cases h3c:cls c=3
  ·rw[if_pos h3c];simp only[hld,↓Z0,↓Xp,↓Xt,Xq,Xc,Nae,Naa,rB,rC,rD,rE,reduceIte,yes 3 h3c];rw[st0K _ _ rfl rfl];simp only[map_some,Zx];have p1:=keep1 (c3+136) (some (.cells [.i .u8 (.ofNat 1),.s [],.i .i64 (.ofNat 0),.i .i64 ln,.i .i64 a,.i .i64 (e:Nat)] false));have p9:=keep9 (c3+136) (some (.cells [.i .u8 (.ofNat 1),.s [],.i .i64 (.ofNat 0),.i .i64 ln,.i .i64 a,.i .i64 (e:Nat)] false));have pc:(St.put { sto:=st3.sto,cnt:=c3+136 } (c2+64) (some (.cells [.i .u8 (.ofNat 1),.s [],.i .i64 (.ofNat 0),.i .i64 ln,.i .i64 a,.i .i64 (e:Nat)] false))).cnt=c3+136:=rfl;have pf:∀ j,c2+65≤j→(St.put { sto:=st3.sto,cnt:=c3+136 } (c2+64) (some (.cells [.i .u8 (.ofNat 1),.s [],.i .i64 (.ofNat 0),.i .i64 ln,.i .i64 a,.i .i64 (e:Nat)] false))).get j=none:=by
    intro j hj;rw[Yae Zaa];exact fr3 j hj
   have pw:=Yaf { sto:=st3.sto,cnt:=c3+136 } (c2+64) (some (.cells [.i .u8 (.ofNat 1),.s [],.i .i64 (.ofNat 0),.i .i64 ln,.i .i64 a,.i .i64 (e:Nat)] false));generalize (St.put { sto:=st3.sto,cnt:=c3+136 } (c2+64) (some (.cells [.i .u8 (.ofNat 1),.s [],.i .i64 (.ofNat 0),.i .i64 ln,.i .i64 a,.i .i64 (e:Nat)] false)))=st4 at *;have hrec:∀ (st:St) (key:Nat),NaE st key (numR s)=some (numR s,st):=by
    intro st key;unfold numR;split<;>rfl
   rw[Nal (r:=numR s) rfl (Nl2 Zaa Zaa) (hrec _ _)];cases hnum:Neh 0 s with
   |some n =>
     have hR:numR s=.tup [.i .i64 n,.b true]:=(by unfold numR;rw[hnum]);rw[hR];simp only[↓Z0,↓Xp,↓Xt,Xq,Xc,Nae,Naa,rB,rC,rD,rE,reduceIte,List.getElem?_cons_zero,List.getElem?_cons_succ];rw[Nb4 (st:={ sto:=st4.sto,cnt:=st4.cnt+64 }) pw Zaf rfl rfl];simp only[map_some,Zx,List.set,unP,Bool.not_true,↓Z0,↓Xp,↓Xt,Xq,Xc,Nae,Naa,rB,rC,rD,rE,reduceIte];have r1:(St.put { sto:=st4.sto,cnt:=st4.cnt+64 } (c2+64) (some (.cells [.i .u8 (.ofNat 1),.s [],.i .i64 n,.i .i64 ln,.i .i64 a,.i .i64 (e:Nat)] false))).get 1=some (.cells [.i .u8 (.ofNat 0),.s [],.i .i64 (.ofNat 0),.i .i64 (.ofNat 0),.i .i64 (.ofNat 0),.i .i64 (.ofNat 0)] false):=by
      rw[Yae (n1 64)];exact p1
     have r9:(St.put { sto:=st4.sto,cnt:=st4.cnt+64 } (c2+64) (some (.cells [.i .u8 (.ofNat 1),.s [],.i .i64 n,.i .i64 ln,.i .i64 a,.i .i64 (e:Nat)] false))).get 9=some (.cells [.i .i64 (.ofNat 0),.i .i64 (.ofNat 0)] false):=by
      rw[Yae (n9 64)];exact p9
     have rw':=Yaf { sto:=st4.sto,cnt:=st4.cnt+64 } (c2+64) (some (.cells [.i .u8 (.ofNat 1),.s [],.i .i64 n,.i .i64 ln,.i .i64 a,.i .i64 (e:Nat)] false));generalize (St.put { sto:=st4.sto,cnt:=st4.cnt+64 } (c2+64) (some (.cells [.i .u8 (.ofNat 1),.s [],.i .i64 n,.i .i64 ln,.i .i64 a,.i .i64 (e:Nat)] false)))=st5 at *;rw[Nbq (n:=6) (st:={ sto:=st5.sto,cnt:=st5.cnt+48 }) rw' rfl];simp only[Zx,Nbi,map_some];exact Nd4 Zah Zah (w:=[.i .u8 (.ofNat 1),.s [],.i .i64 n,.i .i64 ln,.i .i64 a,.i .i64 (e:Nat)]) (f:=[.i .i64 (.ofNat 0),.i .i64 (.ofNat 0)]) (st:={ sto:=st5.sto,cnt:=st5.cnt+48 }) r1 r9 rfl rfl rfl rfl rfl rfl rfl
   |none =>
     have hR:numR s=.tup [.i .i64 0,.b false]:=(by unfold numR;rw[hnum]);rw[hR];simp only[↓Z0,↓Xp,↓Xt,Xq,Xc,Nae,Naa,rB,rC,rD,rE,reduceIte,List.getElem?_cons_zero,List.getElem?_cons_succ];rw[Nb4 (st:={ sto:=st4.sto,cnt:=st4.cnt+64 }) pw Zaf rfl rfl];simp only[map_some,Zx,List.set,unP,Bool.not_false,↓Z0,↓Xp,↓Xt,Xq,Xc,Nae,Naa,rB,rC,rD,rE,reduceIte];have r1:(St.put { sto:=st4.sto,cnt:=st4.cnt+64 } (c2+64) (some (.cells [.i .u8 (.ofNat 1),.s [],.i .i64 0,.i .i64 ln,.i .i64 a,.i .i64 (e:Nat)] false))).get 1=some (.cells zW false):=by
      rw[Yae (n1 64)];exact p1
     have r9:(St.put { sto:=st4.sto,cnt:=st4.cnt+64 } (c2+64) (some (.cells [.i .u8 (.ofNat 1),.s [],.i .i64 0,.i .i64 ln,.i .i64 a,.i .i64 (e:Nat)] false))).get 9=some (.cells [.i .i64 (.ofNat 0),.i .i64 (.ofNat 0)] false):=by
      rw[Yae (n9 64)];exact p9
     have rf:∀ j,c2+65≤j→(St.put { sto:=st4.sto,cnt:=st4.cnt+64 } (c2+64) (some (.cells [.i .u8 (.ofNat 1),.s [],.i .i64 0,.i .i64 ln,.i .i64 a,.i .i64 (e:Nat)] false))).get j=none:=by
      intro j hj;rw[Yae Zaa];exact pf j hj
     have rc:(St.put { sto:=st4.sto,cnt:=st4.cnt+64 } (c2+64) (some (.cells [.i .u8 (.ofNat 1),.s [],.i .i64 0,.i .i64 ln,.i .i64 a,.i .i64 (e:Nat)] false))).cnt=st4.cnt+64:=rfl;have rw':=Yaf { sto:=st4.sto,cnt:=st4.cnt+64 } (c2+64) (some (.cells [.i .u8 (.ofNat 1),.s [],.i .i64 0,.i .i64 ln,.i .i64 a,.i .i64 (e:Nat)] false));generalize (St.put { sto:=st4.sto,cnt:=st4.cnt+64 } (c2+64) (some (.cells [.i .u8 (.ofNat 1),.s [],.i .i64 0,.i .i64 ln,.i .i64 a,.i .i64 (e:Nat)] false)))=st5 at *;refine Ndv (st:={ sto:=st5.sto,cnt:=st5.cnt+16 }) (kw:=c2+64) (ln:=ln) (w:=[.i .u8 (.ofNat 1),.s [],.i .i64 0,.i .i64 ln,.i .i64 a,.i .i64 (e:Nat)]) ?_ ?_ ?_ rw' rfl r1 r9 ?_ (n1 64) (n9 64) ?_ ?_ ?_
     ·simp[Yad]
     ·simp[Yad]
     ·simp[Yad]
     ·intro j hj;refine rf j ?_;simp only[rc,pc]at hj;omega
     ·simp only[rc,pc];omega
     ·simp only[rc,pc];omega
     ·exact⟨nofun,_,NeM Zah Zah,rfl⟩
  ·by_cases h4c:cls c=4
   ·rw[if_neg h3c,if_pos h4c];simp only[hld,↓Z0,↓Xp,↓Xt,Xq,Xc,Nae,Naa,rB,rC,rD,rE,reduceIte,no 3 h3c,yes 4 h4c];rw[st0K _ _ rfl rfl];simp only[map_some,Zx];have pw:=Yaf { sto:=st3.sto,cnt:=c3+176 } (c2+64) (some (.cells [.i .u8 (.ofNat 2),.s [],.i .i64 (.ofNat 0),.i .i64 ln,.i .i64 a,.i .i64 (e:Nat)] false));rw[Nb4 (v:=.s s) pw Zaf rfl rfl,St.put_put];simp only[map_some,Zx,List.set,↓Z0,↓Xp,↓Xt,Xq,Xc,Nae,Naa,rB,rC,rD,rE,reduceIte];simp only[List.length_append,↓Z0,↓Xp,↓Xt,Xq,Xc,Nae,Naa,rB,rC,rD,rE,reduceIte];refine⟨by omega,by omega,?_⟩;have p1:=keep1 (c3+176) (some (.cells [.i .u8 (.ofNat 2),.s s,.i .i64 (.ofNat 0),.i .i64 ln,.i .i64 a,.i .i64 (e:Nat)] false));have p9:=keep9 (c3+176) (some (.cells [.i .u8 (.ofNat 2),.s s,.i .i64 (.ofNat 0),.i .i64 ln,.i .i64 a,.i .i64 (e:Nat)] false));have pw2:=Yaf { sto:=st3.sto,cnt:=c3+176 } (c2+64) (some (.cells [.i .u8 (.ofNat 2),.s s,.i .i64 (.ofNat 0),.i .i64 ln,.i .i64 a,.i .i64 (e:Nat)] false));generalize (St.put { sto:=st3.sto,cnt:=c3+176 } (c2+64) (some (.cells [.i .u8 (.ofNat 2),.s s,.i .i64 (.ofNat 0),.i .i64 ln,.i .i64 a,.i .i64 (e:Nat)] false)))=st4 at *;rw[Nal (r:=.b (Nep ([32]++s++[32]) keyText)) rfl (by rw[Nav Nrk];rfl) rfl];rw[Zx];have hq:s≠[61]:=by
     intro h;rw[h]at hs0;have:c=61:=(by rw[←hs0];rfl);rw[this]at h4c;exact absurd h4c Zaj
    have hqb:(s==[61])=false:=(by simpa using hq);cases hk:Nep ([32]++s++[32]) keyText with
    |true =>
      have hk':Nep (32::s++[32]) keyText=true:=hk;simp only[hk',if_true,Zm];rw[Nb4 (st:={ sto:=st4.sto,cnt:=st4.cnt+32+16 }) (v:=.i .u8 (.ofNat 3)) pw2 Zaf rfl rfl];simp only[map_some,Zx,List.set,unP,Bool.not_not,hqb,↓Z0,↓Xp,↓Xt,Xq,Xc,Nae,Naa,rB,rC,rD,rE,reduceIte];have r1:(St.put { sto:=st4.sto,cnt:=st4.cnt+48 } (c2+64) (some (.cells [.i .u8 (.ofNat 3),.s s,.i .i64 (.ofNat 0),.i .i64 ln,.i .i64 a,.i .i64 (e:Nat)] false))).get 1=some (.cells [.i .u8 (.ofNat 0),.s [],.i .i64 (.ofNat 0),.i .i64 (.ofNat 0),.i .i64 (.ofNat 0),.i .i64 (.ofNat 0)] false):=by
       rw[Yae (n1 64)];exact p1
      have r9:(St.put { sto:=st4.sto,cnt:=st4.cnt+48 } (c2+64) (some (.cells [.i .u8 (.ofNat 3),.s s,.i .i64 (.ofNat 0),.i .i64 ln,.i .i64 a,.i .i64 (e:Nat)] false))).get 9=some (.cells [.i .i64 (.ofNat 0),.i .i64 (.ofNat 0)] false):=by
       rw[Yae (n9 64)];exact p9
      have rw':=Yaf { sto:=st4.sto,cnt:=st4.cnt+48 } (c2+64) (some (.cells [.i .u8 (.ofNat 3),.s s,.i .i64 (.ofNat 0),.i .i64 ln,.i .i64 a,.i .i64 (e:Nat)] false));generalize (St.put { sto:=st4.sto,cnt:=st4.cnt+48 } (c2+64) (some (.cells [.i .u8 (.ofNat 3),.s s,.i .i64 (.ofNat 0),.i .i64 ln,.i .i64 a,.i .i64 (e:Nat)] false)))=st5 at *;rw[Nbq (n:=6) (st:={ sto:=st5.sto,cnt:=st5.cnt+48 }) rw' rfl];simp only[Zx,Nbi,map_some];exact Nd4 Zah Zah (w:=[.i .u8 (.ofNat 3),.s s,.i .i64 (.ofNat 0),.i .i64 ln,.i .i64 a,.i .i64 (e:Nat)]) (f:=[.i .i64 (.ofNat 0),.i .i64 (.ofNat 0)]) (st:={ sto:=st5.sto,cnt:=st5.cnt+48 }) r1 r9 rfl rfl rfl rfl rfl rfl rfl
    |false =>
      have hk':Nep (32::s++[32]) keyText=false:=hk;simp only[hk',Zn,unP,Bool.not_not,hqb,↓Z0,↓Xp,↓Xt,Xq,Xc,Nae,Naa,rB,rC,rD,rE,reduceIte];rw[Nbq (n:=6) (st:={ sto:=st4.sto,cnt:=st4.cnt+32+48 }) pw2 rfl];simp only[Zx,Nbi,map_some];exact Nd4 Zah Zah (w:=[.i .u8 (.ofNat 2),.s s,.i .i64 (.ofNat 0),.i .i64 ln,.i .i64 a,.i .i64 (e:Nat)]) (f:=[.i .i64 (.ofNat 0),.i .i64 (.ofNat 0)]) (st:={ sto:=st4.sto,cnt:=st4.cnt+32+48 }) p1 p9 rfl rfl rfl rfl rfl rfl rfl
   ·rw[if_neg h3c,if_neg h4c];by_cases h5c:cls c=5
    ·simp only[hld,↓Z0,↓Xp,↓Xt,Xq,Xc,Nae,Naa,rB,rC,rD,rE,reduceIte,no 3 h3c,no 4 h4c,yes 5 h5c];rw[st0K _ _ rfl rfl];simp only[map_some,Zx];have pw:=Yaf { sto:=st3.sto,cnt:=c3+192 } (c2+64) (some (.cells [.i .u8 (.ofNat 4),.s [],.i .i64 (.ofNat 0),.i .i64 ln,.i .i64 a,.i .i64 (e:Nat)] false));rw[Nb4 (v:=.s s) pw Zaf rfl rfl,St.put_put];simp only[map_some,Zx,List.set,unP,Bool.not_not];have p1:=keep1 (c3+192) (some (.cells [.i .u8 (.ofNat 4),.s s,.i .i64 (.ofNat 0),.i .i64 ln,.i .i64 a,.i .i64 (e:Nat)] false));have p9:=keep9 (c3+192) (some (.cells [.i .u8 (.ofNat 4),.s s,.i .i64 (.ofNat 0),.i .i64 ln,.i .i64 a,.i .i64 (e:Nat)] false));have pw2:=Yaf { sto:=st3.sto,cnt:=c3+192 } (c2+64) (some (.cells [.i .u8 (.ofNat 4),.s s,.i .i64 (.ofNat 0),.i .i64 ln,.i .i64 a,.i .i64 (e:Nat)] false));have pf:∀ j,c2+65≤j→(St.put { sto:=st3.sto,cnt:=c3+192 } (c2+64) (some (.cells [.i .u8 (.ofNat 4),.s s,.i .i64 (.ofNat 0),.i .i64 ln,.i .i64 a,.i .i64 (e:Nat)] false))).get j=none:=by
      intro j hj;rw[Yae Zaa];exact fr3 j hj
     have pc:(St.put { sto:=st3.sto,cnt:=c3+192 } (c2+64) (some (.cells [.i .u8 (.ofNat 4),.s s,.i .i64 (.ofNat 0),.i .i64 ln,.i .i64 a,.i .i64 (e:Nat)] false))).cnt=c3+192:=rfl;generalize (St.put { sto:=st3.sto,cnt:=c3+192 } (c2+64) (some (.cells [.i .u8 (.ofNat 4),.s s,.i .i64 (.ofNat 0),.i .i64 ln,.i .i64 a,.i .i64 (e:Nat)] false)))=st4 at *;by_cases hq:s=[61]
     ·have hqb:(s==[61])=true:=(by simpa using hq);rw[if_neg (fun h=>h.2 hq)];simp only[hqb,↓Z0,↓Xp,↓Xt,Xq,Xc,Nae,Naa,rB,rC,rD,rE,reduceIte];refine Ndv (st:={ sto:=st4.sto,cnt:=st4.cnt+16 }) (kw:=c2+64) (ln:=ln) (w:=[.i .u8 (.ofNat 4),.s s,.i .i64 (.ofNat 0),.i .i64 ln,.i .i64 a,.i .i64 (e:Nat)]) ?_ ?_ ?_ pw2 rfl p1 p9 ?_ (n1 64) (n9 64) ?_ ?_ ?_
      ·simp[Yad]
      ·simp[Yad]
      ·simp[Yad]
      ·intro j hj;refine pf j ?_;simp only[pc]at hj;omega
      ·simp only[pc];omega
      ·simp only[pc];omega
      ·exact⟨nofun,_,NeM Zah Zah,rfl⟩
     ·have hqb:(s==[61])=false:=(by simpa using hq);rw[if_pos ⟨h5c,hq⟩];simp only[hqb,↓Z0,↓Xp,↓Xt,Xq,Xc,Nae,Naa,rB,rC,rD,rE,reduceIte];rw[Nbq (n:=6) (st:={ sto:=st4.sto,cnt:=st4.cnt+48 }) pw2 rfl];simp only[Zx,Nbi,map_some];exact Nd4 Zah Zah (w:=[.i .u8 (.ofNat 4),.s s,.i .i64 (.ofNat 0),.i .i64 ln,.i .i64 a,.i .i64 (e:Nat)]) (f:=[.i .i64 (.ofNat 0),.i .i64 (.ofNat 0)]) (st:={ sto:=st4.sto,cnt:=st4.cnt+48 }) p1 p9 rfl rfl rfl rfl rfl rfl rfl
    ·rw[if_neg (fun h=>h5c h.1)];simp only[hld,↓Z0,↓Xp,↓Xt,Xq,Xc,Nae,Naa,rB,rC,rD,rE,reduceIte,no 3 h3c,no 4 h4c,no 5 h5c,unP,Bool.not_false];refine Ndv (st:={ sto:=st3.sto,cnt:=c3+176 }) (kw:=c2+64) (ln:=ln) (w:=[.i .u8 (.ofNat 5),.s [],.i .i64 (.ofNat 0),.i .i64 ln,.i .i64 a,.i .i64 (e:Nat)]) ?_ ?_ ?_ kw rfl k1 k9 ?_ (n1 64) (n9 64) ?_ ?_ ?_
     ·simp[Yad]
     ·simp[Yad]
     ·simp[Yad]
     ·intro j hj;refine fr3 j ?_;simp only[]at hj;omega
     ·simp only[];omega
     ·simp only[];omega
     ·exact⟨nofun,_,NeM Zah Zah,rfl⟩
end Go.Pe
