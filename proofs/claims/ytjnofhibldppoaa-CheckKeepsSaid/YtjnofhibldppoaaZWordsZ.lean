/-
 Words: the token at a place, by the interpreter of plain data: the whole. No condition.
-/
import Derived.Test.YtjnofhibldppoaaZWordsY
set_option linter.unusedVariables false
set_option linter.unusedSimpArgs false
set_option maxHeartbeats 4000000
set_option maxRecDepth 100000
open Nat renaming reduceAdd → rA,reduceMul → rB,reduceLT → rC,reduceEqDiff → rD,reduceLeDiff → rE
namespace Go.Pe
open Go Go.Am Go.RowKit
theorem Nl6{M:Nat}{text:List UInt8}{at0:Nat}(hM:text.length<M)(hlen:text.length≤16384)(hat:at0≤text.length) :
 ∃ r st',NaI cfgW (M+60+1) 64 [.s text,.i .i64 at0] { sto:=.leaf,cnt:=1 }=some (r,st')∧r=Ndl text at0:=by
 refine Naz Ni7 ?_;delta m64 Qa Qr Qg Ql Qt Qn Qs Qk Qm Qh Qi Qw;have h1:¬ (((text.length:Nat):Int) > Int.ofNat 16384):=by show ¬ (((text.length:Nat):Int) > 16384);omega
 have h2:¬ (((at0:Nat):Int)<Int.ofNat 0):=by show ¬ (((at0:Nat):Int)<0);omega
 have h3:¬ (((at0:Nat):Int) > ((text.length:Nat):Int)):=by omega
 simp only[Naj,↓Z0,↓Xp,↓Xt,Xq,Xc,Nae,Naa,rA,rB,rC,rD,reduceIte,h1,h2,h3];have e1:=Yaf ((({ sto:=.leaf,cnt:=17 }:St).put 1 (some (.cells [.i .u8 (.ofNat 0),.s [],.i .i64 (.ofNat 0),.i .i64 (.ofNat 0),.i .i64 (.ofNat 0),.i .i64 (.ofNat 0)] false)))) 9 (some (.cells [.i .i64 (.ofNat 0),.i .i64 (.ofNat 0)] false));have e2:((({ sto:=.leaf,cnt:=17 }:St).put 1 (some (.cells [.i .u8 (.ofNat 0),.s [],.i .i64 (.ofNat 0),.i .i64 (.ofNat 0),.i .i64 (.ofNat 0),.i .i64 (.ofNat 0)] false))).put 9 (some (.cells [.i .i64 (.ofNat 0),.i .i64 (.ofNat 0)] false))).get 1=some (.cells [.i .u8 (.ofNat 0),.s [],.i .i64 (.ofNat 0),.i .i64 (.ofNat 0),.i .i64 (.ofNat 0),.i .i64 (.ofNat 0)] false):=by
  rw[Yae Zai,Yaf]
 have e3:((({ sto:=.leaf,cnt:=17 }:St).put 1 (some (.cells [.i .u8 (.ofNat 0),.s [],.i .i64 (.ofNat 0),.i .i64 (.ofNat 0),.i .i64 (.ofNat 0),.i .i64 (.ofNat 0)] false))).put 9 (some (.cells [.i .i64 (.ofNat 0),.i .i64 (.ofNat 0)] false))).cnt=17:=rfl;have fr0:∀ j,17≤j→((({ sto:=.leaf,cnt:=17 }:St).put 1 (some (.cells [.i .u8 (.ofNat 0),.s [],.i .i64 (.ofNat 0),.i .i64 (.ofNat 0),.i .i64 (.ofNat 0),.i .i64 (.ofNat 0)] false))).put 9 (some (.cells [.i .i64 (.ofNat 0),.i .i64 (.ofNat 0)] false))).get j=none:=by
  intro j hj;rw[Yae Zaa,Yae Zaa];rfl
 generalize ((({ sto:=.leaf,cnt:=17 }:St).put 1 (some (.cells [.i .u8 (.ofNat 0),.s [],.i .i64 (.ofNat 0),.i .i64 (.ofNat 0),.i .i64 (.ofNat 0),.i .i64 (.ofNat 0)] false))).put 9 (some (.cells [.i .i64 (.ofNat 0),.i .i64 (.ofNat 0)] false)))=st0 at *;rw[Naq (r:=.agg clsCells) rfl (Nez M) rfl];rw[Zx,e3];rw[Nbs (v:=.agg clsCells) (cs:=List.replicate 256 (.i .u8 (.ofNat 0))) (Yaf _ _ _) NeY Zaf NeZ,St.put_put];simp only[map_some,Zx,PV.cells,rA];have f1:(({ sto:=st0.sto,cnt:=145 }:St).put 129 (some (.cells clsCells false))).get 1=some (.cells [.i .u8 (.ofNat 0),.s [],.i .i64 (.ofNat 0),.i .i64 (.ofNat 0),.i .i64 (.ofNat 0),.i .i64 (.ofNat 0)] false):=by
  rw[Yae Zai];exact e2
 have f9:(({ sto:=st0.sto,cnt:=145 }:St).put 129 (some (.cells clsCells false))).get 9=some (.cells [.i .i64 (.ofNat 0),.i .i64 (.ofNat 0)] false):=by
  rw[Yae Zai];exact e1
 have f129:=Yaf { sto:=st0.sto,cnt:=145 } 129 (some (.cells clsCells false));have fr1:∀ j,145≤j→(({ sto:=st0.sto,cnt:=145 }:St).put 129 (some (.cells clsCells false))).get j=none:=by
  intro j hj;rw[Yae Zaa];exact fr0 j Zaa
 have fc:(({ sto:=st0.sto,cnt:=145 }:St).put 129 (some (.cells clsCells false))).cnt=145:=rfl;generalize (({ sto:=st0.sto,cnt:=145 }:St).put 129 (some (.cells clsCells false)))=st1 at *;simp only[NnH,fc,rA];refine Ncc (Nho (fuel:=M+59) NnE NnL (k:=129) (fz:=false) hat hlen Zaa (st:={ sto:=st1.sto,cnt:=177 }) f129) ?_;rintro _ ⟨s2,c2⟩ ⟨rfl,hs2,hc2⟩;simp only at hs2 hc2;subst hs2;have hpl:=NdS false (text.drop at0);simp only[List.length_drop]at hpl;generalize ha:at0+NcJ false (text.drop at0)=a at *;have hal:a≤text.length:=by omega
 simp only[↓Z0,↓Xp,↓Xt,Xq,Xc,Nae,Naa,rA,rB,rC,rD,reduceIte];rw[Ncq ⟨by omega,by omega⟩];simp only[↓Z0,↓Xp,↓Xt,Xq,Xc,Nae,Naa,rA,rB,rC,rD,reduceIte,List.drop_zero,Nat.sub_zero];rw[Naq (r:=.i .i64 (NgO 10 (text.take a) 0)) rfl (by rw[Nbr NnJ];rfl) rfl];have hcl:NgO 10 (text.take a) 0≤text.length:=by
  rw[NfH];have:=List.count_le_length (a:=(10:UInt8)) (l:=text.take a);simp only[List.length_take]at this;omega
 have hwl:IntKind.i64.wrap (((NgO 10 (text.take a) 0:Nat):Int)+Int.ofNat 1)=((NgO 10 (text.take a) 0:Nat):Int)+1:=NaZ _ ⟨by show _≤((NgO 10 (text.take a) 0:Nat):Int)+1;omega,by show((NgO 10 (text.take a) 0:Nat):Int)+1<_;omega⟩;have hfill:∀ ln x y:Int,Na7 [.i .u8 (.ofNat 0),.s [],.i .i64 (.ofNat 0),.i .i64 (.ofNat 0),.i .i64 (.ofNat 0),.i .i64 (.ofNat 0)] [(0,1,.i .u8 (.ofNat 5)),(3,1,.i .i64 ln),(4,1,.i .i64 x),(5,1,.i .i64 y)]=some [.i .u8 (.ofNat 5),.s [],.i .i64 (.ofNat 0),.i .i64 ln,.i .i64 x,.i .i64 y]:=fun _ _ _=>rfl;simp only[↓Z0,↓Xp,↓Xt,Xq,Xc,Nae,Naa,rA,rB,rC,rD,reduceIte,hwl,hfill];generalize hln:((NgO 10 (text.take a) 0:Nat):Int)+1=ln at *;rw[Nbs (n:=6) (v:=.agg [.i .u8 (.ofNat 5),.s [],.i .i64 (.ofNat 0),.i .i64 ln,.i .i64 a,.i .i64 a]) (cs:=[.i .u8 (.ofNat 0),.s [],.i .i64 (.ofNat 0),.i .i64 (.ofNat 0),.i .i64 (.ofNat 0),.i .i64 (.ofNat 0)]) (Yaf _ _ _) rfl rfl rfl,St.put_put];simp only[map_some,Zx,PV.cells];have n1:∀ j,c2+j≠1:=fun j=>by omega
 have n9:∀ j,c2+j≠9:=fun j=>by omega
 have n129:∀ j,c2+j≠129:=fun j=>by omega
 have gw:=Yaf ({ sto:=st1.sto,cnt:=c2+80 }:St) (c2+64) (some (.cells [.i .u8 (.ofNat 5),.s [],.i .i64 (.ofNat 0),.i .i64 ln,.i .i64 a,.i .i64 a] false));have g1:(({ sto:=st1.sto,cnt:=c2+80 }:St).put (c2+64) (some (.cells [.i .u8 (.ofNat 5),.s [],.i .i64 (.ofNat 0),.i .i64 ln,.i .i64 a,.i .i64 a] false))).get 1=some (.cells [.i .u8 (.ofNat 0),.s [],.i .i64 (.ofNat 0),.i .i64 (.ofNat 0),.i .i64 (.ofNat 0),.i .i64 (.ofNat 0)] false):=by
  rw[Yae (n1 64)];exact f1
 have g9:(({ sto:=st1.sto,cnt:=c2+80 }:St).put (c2+64) (some (.cells [.i .u8 (.ofNat 5),.s [],.i .i64 (.ofNat 0),.i .i64 ln,.i .i64 a,.i .i64 a] false))).get 9=some (.cells [.i .i64 (.ofNat 0),.i .i64 (.ofNat 0)] false):=by
  rw[Yae (n9 64)];exact f9
 have g129:(({ sto:=st1.sto,cnt:=c2+80 }:St).put (c2+64) (some (.cells [.i .u8 (.ofNat 5),.s [],.i .i64 (.ofNat 0),.i .i64 ln,.i .i64 a,.i .i64 a] false))).get 129=some (.cells clsCells false):=by
  rw[Yae (n129 64)];exact f129
 have fr2:∀ j,c2+65≤j→(({ sto:=st1.sto,cnt:=c2+80 }:St).put (c2+64) (some (.cells [.i .u8 (.ofNat 5),.s [],.i .i64 (.ofNat 0),.i .i64 ln,.i .i64 a,.i .i64 a] false))).get j=none:=by
  intro j hj;rw[Yae Zaa];exact fr1 j Zaa
 have gc:(({ sto:=st1.sto,cnt:=c2+80 }:St).put (c2+64) (some (.cells [.i .u8 (.ofNat 5),.s [],.i .i64 (.ofNat 0),.i .i64 ln,.i .i64 a,.i .i64 a] false))).cnt=c2+80:=rfl;generalize (({ sto:=st1.sto,cnt:=c2+80 }:St).put (c2+64) (some (.cells [.i .u8 (.ofNat 5),.s [],.i .i64 (.ofNat 0),.i .i64 ln,.i .i64 a,.i .i64 a] false)))=st2 at *;simp only[gc,Nat.add_assoc,rA];have hend:Ndl text at0=if a=text.length then Nd4 5 [] 0 ln a a else Ndl text at0:=by
  split
  ·rename_i h;unfold Ndl;simp only[ha,h,if_true];rw[←hln,h]
  ·rfl
 by_cases hae:a=text.length
 ·have hb:(((a:Nat):Int)==((text.length:Nat):Int))=true:=by rw[hae];simp
  simp only[hb,↓Z0,↓Xp,↓Xt,Xq,Xc,Nae,Naa,rA,rB,rC,rD,reduceIte];rw[Nbc (n:=6) (st:={ sto:=st2.sto,cnt:=c2+144 }) gw rfl];simp only[Zx,Na7,map_some];rw[hend,if_pos hae];refine Ndb ?_ ?_ (w:=[.i .u8 (.ofNat 5),.s [],.i .i64 (.ofNat 0),.i .i64 ln,.i .i64 a,.i .i64 a]) (f:=[.i .i64 (.ofNat 0),.i .i64 (.ofNat 0)]) (st:={ sto:=st2.sto,cnt:=c2+144 }) g1 g9 rfl rfl rfl rfl rfl rfl rfl
  ·simp[Yad]
  ·simp[Yad]
 ·have hb:(((a:Nat):Int)==((text.length:Nat):Int))=false:=by
   simp only[beq_eq_false_iff_ne,ne_eq];omega
  simp only[hb,↓Z0,↓Xp,↓Xt,Xq,Xc,Nae,Naa,rA,rB,rC,rD,reduceIte,NnK];refine Ncc (Nkn (fuel:=M+59) NnF (k:=129) (fz:=false) (text:=text) (at0:=a) Zaa hlen Zaa (st:={ sto:=st2.sto,cnt:=c2+152 }) g129) ?_;rintro _ ⟨s3,c3⟩ ⟨rfl,hs3,hc3⟩;simp only at hs3 hc3;subst hs3;generalize he:a+Nhc (text.drop a)=e at *;rw[NbG (st:={ sto:=st2.sto,cnt:=c3 }) gw Zaf rfl rfl];simp only[map_some,Zx,List.set];have hel:0<Nhc (text.drop a)∧e≤text.length:=by
   rw[NbT (show a<text.length by omega)]at he ⊢;simp only[Nhc]at he ⊢;have hr:=Nik (cls (text.getD a 0)) (text.drop (a+1));simp only[List.length_drop]at hr;split
   ·rename_i h5;rw[if_pos h5]at he;split
    ·rename_i ht;rw[if_pos ht]at he;have:((text.getD a 0::text.drop (a+1)).take 2).length=2:=(by rcases ht with h|h<;>rw[h]<;>rfl);simp only[List.length_take,List.length_cons,List.length_drop]at this;omega
    ·rename_i ht;rw[if_neg ht]at he;omega
   ·rename_i h5;rw[if_neg h5]at he;omega
  have m1:∀ j,c2+j≠1:=fun j=>by omega
  have kw:=Yaf ({ sto:=st2.sto,cnt:=c3 }:St) (c2+64) (some (.cells [.i .u8 (.ofNat 5),.s [],.i .i64 (.ofNat 0),.i .i64 ln,.i .i64 a,.i .i64 (e:Nat)] false));have k1:(({ sto:=st2.sto,cnt:=c3 }:St).put (c2+64) (some (.cells [.i .u8 (.ofNat 5),.s [],.i .i64 (.ofNat 0),.i .i64 ln,.i .i64 a,.i .i64 (e:Nat)] false))).get 1=some (.cells [.i .u8 (.ofNat 0),.s [],.i .i64 (.ofNat 0),.i .i64 (.ofNat 0),.i .i64 (.ofNat 0),.i .i64 (.ofNat 0)] false):=by
   rw[Yae (n1 64)];exact g1
  have k9:(({ sto:=st2.sto,cnt:=c3 }:St).put (c2+64) (some (.cells [.i .u8 (.ofNat 5),.s [],.i .i64 (.ofNat 0),.i .i64 ln,.i .i64 a,.i .i64 (e:Nat)] false))).get 9=some (.cells [.i .i64 (.ofNat 0),.i .i64 (.ofNat 0)] false):=by
   rw[Yae (n9 64)];exact g9
  have k129:(({ sto:=st2.sto,cnt:=c3 }:St).put (c2+64) (some (.cells [.i .u8 (.ofNat 5),.s [],.i .i64 (.ofNat 0),.i .i64 ln,.i .i64 a,.i .i64 (e:Nat)] false))).get 129=some (.cells clsCells false):=by
   rw[Yae (n129 64)];exact g129
  have fr3:∀ j,c2+65≤j→(({ sto:=st2.sto,cnt:=c3 }:St).put (c2+64) (some (.cells [.i .u8 (.ofNat 5),.s [],.i .i64 (.ofNat 0),.i .i64 ln,.i .i64 a,.i .i64 (e:Nat)] false))).get j=none:=by
   intro j hj;rw[Yae Zaa];exact fr2 j hj
  have kc:(({ sto:=st2.sto,cnt:=c3 }:St).put (c2+64) (some (.cells [.i .u8 (.ofNat 5),.s [],.i .i64 (.ofNat 0),.i .i64 ln,.i .i64 a,.i .i64 (e:Nat)] false))).cnt=c3:=rfl;generalize (({ sto:=st2.sto,cnt:=c3 }:St).put (c2+64) (some (.cells [.i .u8 (.ofNat 5),.s [],.i .i64 (.ofNat 0),.i .i64 ln,.i .i64 a,.i .i64 (e:Nat)] false)))=st3 at *;have hlw:∀ c,NaS { sto:=st3.sto,cnt:=c } 1 (.ptr (c2+64) 5)=some [.i .i64 (e:Nat)]:=by
   intro c;unfold NaS;have:St.get { sto:=st3.sto,cnt:=c } (c2+64)=_:=kw;simp only[this];rfl
  simp only[kc,hlw,↓Z0,↓Xp,↓Xt,Xq,Xc,Nae,Naa,rA,rB,rC,rD,reduceIte];rw[Ncq ⟨by omega,by omega⟩];simp only[↓Z0,↓Xp,↓Xt,Xq,Xc,Nae,Naa,rA,rB,rC,rD,reduceIte];rw[Ncq ⟨by omega,by omega⟩];simp only[↓Z0,↓Xp,↓Xt,Xq,Xc,Nae,Naa,rA,rB,rC,rD,reduceIte];have hda:=NbT (show a<text.length by omega);have hs:List.take (e - a) (text.drop a)=List.take (Nhc (text.drop a)) (text.drop a):=by
   congr 1;omega
  have hs0:(List.take (e - a) (text.drop a)).getD 0 0=text.getD a 0:=by
   rw[hda,show e - a=(e - a - 1)+1 by omega];rfl
  have hsl:(List.take (e - a) (text.drop a)).length=e - a:=by
   simp only[List.length_take,List.length_drop];omega
  have hnx:Ndl text at0=(let s:=List.take (e - a) (text.drop a)
   if cls (text.getD a 0)=3 then match NhZ 0 s with
    |some n=>Nd4 1 [] n ln a e
    |none=>NbJ 100 ln
   else if cls (text.getD a 0)=4 then Nd4 (if NhI (32::s++[32]) Nc2 then 3 else 2) s 0 ln a e
   else if cls (text.getD a 0)=5∧s≠[61]then Nd4 4 s 0 ln a e
   else NbJ 100 ln):=by
   unfold Ndl;simp only[ha,hae,if_false,he,hln,hs];rfl
  rw[hnx];simp only[show(Int.ofNat 0).toNat=0 from rfl,hs0];generalize List.take (e - a) (text.drop a)=s at *;refine⟨by decide,by omega,⟨by omega,by have:=(text.getD a 0).toNat_lt;omega⟩,?_⟩;generalize text.getD a 0=c at *;have hld:=fun(q:Nat)=>Ndr (st:={ sto:=st3.sto,cnt:=q }) k129 c;have yes:∀ m:Nat,cls c=m→(((cls c:Nat):Int)==Int.ofNat m)=true:=by
   intro m h;rw[h];simp
  have no:∀ m:Nat,cls c≠m→(((cls c:Nat):Int)==Int.ofNat m)=false:=by
   intro m h;simp only[beq_eq_false_iff_ne,ne_eq];show ¬ ((cls c:Nat):Int)=(m:Int);omega
  have st0K:∀ (q:Nat) (v:PV),v.cells=[v]→v.one=true→NaQ { sto:=st3.sto,cnt:=q } 1 (.ptr (c2+64) 0) v=some (St.put { sto:=st3.sto,cnt:=q } (c2+64) (some (.cells [v,.s [],.i .i64 (.ofNat 0),.i .i64 ln,.i .i64 a,.i .i64 (e:Nat)] false))):=by
   intro q v hv h1;rw[NbG (st:={ sto:=st3.sto,cnt:=q }) kw Zaf hv h1];rfl
  have keep1:∀ (q:Nat) (o:Option PObj),(St.put { sto:=st3.sto,cnt:=q } (c2+64) o).get 1=some (.cells [.i .u8 (.ofNat 0),.s [],.i .i64 (.ofNat 0),.i .i64 (.ofNat 0),.i .i64 (.ofNat 0),.i .i64 (.ofNat 0)] false):=by
   intro q o;rw[Yae (n1 64)];exact k1
  have keep9:∀ (q:Nat) (o:Option PObj),(St.put { sto:=st3.sto,cnt:=q } (c2+64) o).get 9=some (.cells [.i .i64 (.ofNat 0),.i .i64 (.ofNat 0)] false):=by
   intro q o;rw[Yae (n9 64)];exact k9
  by_cases h3c:cls c=3
  ·rw[if_pos h3c];simp only[hld,↓Z0,↓Xp,↓Xt,Xq,Xc,Nae,Naa,rA,rB,rC,rD,reduceIte,yes 3 h3c];rw[st0K _ _ rfl rfl];simp only[map_some,Zx];have p1:=keep1 (c3+136) (some (.cells [.i .u8 (.ofNat 1),.s [],.i .i64 (.ofNat 0),.i .i64 ln,.i .i64 a,.i .i64 (e:Nat)] false));have p9:=keep9 (c3+136) (some (.cells [.i .u8 (.ofNat 1),.s [],.i .i64 (.ofNat 0),.i .i64 ln,.i .i64 a,.i .i64 (e:Nat)] false));have pc:(St.put { sto:=st3.sto,cnt:=c3+136 } (c2+64) (some (.cells [.i .u8 (.ofNat 1),.s [],.i .i64 (.ofNat 0),.i .i64 ln,.i .i64 a,.i .i64 (e:Nat)] false))).cnt=c3+136:=rfl;have pf:∀ j,c2+65≤j→(St.put { sto:=st3.sto,cnt:=c3+136 } (c2+64) (some (.cells [.i .u8 (.ofNat 1),.s [],.i .i64 (.ofNat 0),.i .i64 ln,.i .i64 a,.i .i64 (e:Nat)] false))).get j=none:=by
    intro j hj;rw[Yae Zaa];exact fr3 j hj
   have pw:=Yaf { sto:=st3.sto,cnt:=c3+136 } (c2+64) (some (.cells [.i .u8 (.ofNat 1),.s [],.i .i64 (.ofNat 0),.i .i64 ln,.i .i64 a,.i .i64 (e:Nat)] false));generalize (St.put { sto:=st3.sto,cnt:=c3+136 } (c2+64) (some (.cells [.i .u8 (.ofNat 1),.s [],.i .i64 (.ofNat 0),.i .i64 ln,.i .i64 a,.i .i64 (e:Nat)] false)))=st4 at *;have hrec:∀ (st:St) (key:Nat),Nav st key (numR s)=some (numR s,st):=by
    intro st key;unfold numR;split<;>rfl
   rw[Naq (r:=numR s) rfl (Njl Zaa Zaa) (hrec _ _)];cases hnum:NhZ 0 s with
   |some n =>
     have hR:numR s=.tup [.i .i64 n,.b true]:=(by unfold numR;rw[hnum]);rw[hR];simp only[↓Z0,↓Xp,↓Xt,Xq,Xc,Nae,Naa,rA,rB,rC,rD,reduceIte,List.getElem?_cons_zero,List.getElem?_cons_succ];rw[NbG (st:={ sto:=st4.sto,cnt:=st4.cnt+64 }) pw Zaf rfl rfl];simp only[map_some,Zx,List.set,unP,Bool.not_true,↓Z0,↓Xp,↓Xt,Xq,Xc,Nae,Naa,rA,rB,rC,rD,reduceIte];have r1:(St.put { sto:=st4.sto,cnt:=st4.cnt+64 } (c2+64) (some (.cells [.i .u8 (.ofNat 1),.s [],.i .i64 n,.i .i64 ln,.i .i64 a,.i .i64 (e:Nat)] false))).get 1=some (.cells [.i .u8 (.ofNat 0),.s [],.i .i64 (.ofNat 0),.i .i64 (.ofNat 0),.i .i64 (.ofNat 0),.i .i64 (.ofNat 0)] false):=by
      rw[Yae (n1 64)];exact p1
     have r9:(St.put { sto:=st4.sto,cnt:=st4.cnt+64 } (c2+64) (some (.cells [.i .u8 (.ofNat 1),.s [],.i .i64 n,.i .i64 ln,.i .i64 a,.i .i64 (e:Nat)] false))).get 9=some (.cells [.i .i64 (.ofNat 0),.i .i64 (.ofNat 0)] false):=by
      rw[Yae (n9 64)];exact p9
     have rw':=Yaf { sto:=st4.sto,cnt:=st4.cnt+64 } (c2+64) (some (.cells [.i .u8 (.ofNat 1),.s [],.i .i64 n,.i .i64 ln,.i .i64 a,.i .i64 (e:Nat)] false));generalize (St.put { sto:=st4.sto,cnt:=st4.cnt+64 } (c2+64) (some (.cells [.i .u8 (.ofNat 1),.s [],.i .i64 n,.i .i64 ln,.i .i64 a,.i .i64 (e:Nat)] false)))=st5 at *;rw[Nbc (n:=6) (st:={ sto:=st5.sto,cnt:=st5.cnt+48 }) rw' rfl];simp only[Zx,Na7,map_some];exact Ndb Zag Zag (w:=[.i .u8 (.ofNat 1),.s [],.i .i64 n,.i .i64 ln,.i .i64 a,.i .i64 (e:Nat)]) (f:=[.i .i64 (.ofNat 0),.i .i64 (.ofNat 0)]) (st:={ sto:=st5.sto,cnt:=st5.cnt+48 }) r1 r9 rfl rfl rfl rfl rfl rfl rfl
   |none =>
     have hR:numR s=.tup [.i .i64 0,.b false]:=(by unfold numR;rw[hnum]);rw[hR];simp only[↓Z0,↓Xp,↓Xt,Xq,Xc,Nae,Naa,rA,rB,rC,rD,reduceIte,List.getElem?_cons_zero,List.getElem?_cons_succ];rw[NbG (st:={ sto:=st4.sto,cnt:=st4.cnt+64 }) pw Zaf rfl rfl];simp only[map_some,Zx,List.set,unP,Bool.not_false,↓Z0,↓Xp,↓Xt,Xq,Xc,Nae,Naa,rA,rB,rC,rD,reduceIte];have r1:(St.put { sto:=st4.sto,cnt:=st4.cnt+64 } (c2+64) (some (.cells [.i .u8 (.ofNat 1),.s [],.i .i64 0,.i .i64 ln,.i .i64 a,.i .i64 (e:Nat)] false))).get 1=some (.cells zW false):=by
      rw[Yae (n1 64)];exact p1
     have r9:(St.put { sto:=st4.sto,cnt:=st4.cnt+64 } (c2+64) (some (.cells [.i .u8 (.ofNat 1),.s [],.i .i64 0,.i .i64 ln,.i .i64 a,.i .i64 (e:Nat)] false))).get 9=some (.cells [.i .i64 (.ofNat 0),.i .i64 (.ofNat 0)] false):=by
      rw[Yae (n9 64)];exact p9
     have rf:∀ j,c2+65≤j→(St.put { sto:=st4.sto,cnt:=st4.cnt+64 } (c2+64) (some (.cells [.i .u8 (.ofNat 1),.s [],.i .i64 0,.i .i64 ln,.i .i64 a,.i .i64 (e:Nat)] false))).get j=none:=by
      intro j hj;rw[Yae Zaa];exact pf j hj
     have rc:(St.put { sto:=st4.sto,cnt:=st4.cnt+64 } (c2+64) (some (.cells [.i .u8 (.ofNat 1),.s [],.i .i64 0,.i .i64 ln,.i .i64 a,.i .i64 (e:Nat)] false))).cnt=st4.cnt+64:=rfl;have rw':=Yaf { sto:=st4.sto,cnt:=st4.cnt+64 } (c2+64) (some (.cells [.i .u8 (.ofNat 1),.s [],.i .i64 0,.i .i64 ln,.i .i64 a,.i .i64 (e:Nat)] false));generalize (St.put { sto:=st4.sto,cnt:=st4.cnt+64 } (c2+64) (some (.cells [.i .u8 (.ofNat 1),.s [],.i .i64 0,.i .i64 ln,.i .i64 a,.i .i64 (e:Nat)] false)))=st5 at *;refine NcG (st:={ sto:=st5.sto,cnt:=st5.cnt+16 }) (kw:=c2+64) (ln:=ln) (w:=[.i .u8 (.ofNat 1),.s [],.i .i64 0,.i .i64 ln,.i .i64 a,.i .i64 (e:Nat)]) ?_ ?_ ?_ rw' rfl r1 r9 ?_ (n1 64) (n9 64) ?_ ?_ ?_
     ·simp[Yad]
     ·simp[Yad]
     ·simp[Yad]
     ·intro j hj;refine rf j ?_;simp only[rc,pc]at hj;omega
     ·simp only[rc,pc];omega
     ·simp only[rc,pc];omega
     ·exact⟨nofun,_,NdC Zag Zag,rfl⟩
  ·by_cases h4c:cls c=4
   ·rw[if_neg h3c,if_pos h4c];simp only[hld,↓Z0,↓Xp,↓Xt,Xq,Xc,Nae,Naa,rA,rB,rC,rD,reduceIte,no 3 h3c,yes 4 h4c];rw[st0K _ _ rfl rfl];simp only[map_some,Zx];have pw:=Yaf { sto:=st3.sto,cnt:=c3+176 } (c2+64) (some (.cells [.i .u8 (.ofNat 2),.s [],.i .i64 (.ofNat 0),.i .i64 ln,.i .i64 a,.i .i64 (e:Nat)] false));rw[NbG (v:=.s s) pw Zaf rfl rfl,St.put_put];simp only[map_some,Zx,List.set,↓Z0,↓Xp,↓Xt,Xq,Xc,Nae,Naa,rA,rB,rC,rD,reduceIte];simp only[List.length_append,↓Z0,↓Xp,↓Xt,Xq,Xc,Nae,Naa,rA,rB,rC,rD,reduceIte];refine⟨by omega,by omega,?_⟩;have p1:=keep1 (c3+176) (some (.cells [.i .u8 (.ofNat 2),.s s,.i .i64 (.ofNat 0),.i .i64 ln,.i .i64 a,.i .i64 (e:Nat)] false));have p9:=keep9 (c3+176) (some (.cells [.i .u8 (.ofNat 2),.s s,.i .i64 (.ofNat 0),.i .i64 ln,.i .i64 a,.i .i64 (e:Nat)] false));have pw2:=Yaf { sto:=st3.sto,cnt:=c3+176 } (c2+64) (some (.cells [.i .u8 (.ofNat 2),.s s,.i .i64 (.ofNat 0),.i .i64 ln,.i .i64 a,.i .i64 (e:Nat)] false));generalize (St.put { sto:=st3.sto,cnt:=c3+176 } (c2+64) (some (.cells [.i .u8 (.ofNat 2),.s s,.i .i64 (.ofNat 0),.i .i64 ln,.i .i64 a,.i .i64 (e:Nat)] false)))=st4 at *;rw[Naq (r:=.b (NhI ([32]++s++[32]) Nc2)) rfl (by rw[Nbr NnI];rfl) rfl];rw[Zx];have hq:s≠[61]:=by
     intro h;rw[h]at hs0;have:c=61:=(by rw[←hs0];rfl);rw[this]at h4c;exact absurd h4c Zai
    have hqb:(s==[61])=false:=(by simpa using hq);cases hk:NhI ([32]++s++[32]) Nc2 with
    |true =>
      have hk':NhI (32::s++[32]) Nc2=true:=hk;simp only[hk',if_true,Zm];rw[NbG (st:={ sto:=st4.sto,cnt:=st4.cnt+32+16 }) (v:=.i .u8 (.ofNat 3)) pw2 Zaf rfl rfl];simp only[map_some,Zx,List.set,unP,Bool.not_not,hqb,↓Z0,↓Xp,↓Xt,Xq,Xc,Nae,Naa,rA,rB,rC,rD,reduceIte];have r1:(St.put { sto:=st4.sto,cnt:=st4.cnt+48 } (c2+64) (some (.cells [.i .u8 (.ofNat 3),.s s,.i .i64 (.ofNat 0),.i .i64 ln,.i .i64 a,.i .i64 (e:Nat)] false))).get 1=some (.cells [.i .u8 (.ofNat 0),.s [],.i .i64 (.ofNat 0),.i .i64 (.ofNat 0),.i .i64 (.ofNat 0),.i .i64 (.ofNat 0)] false):=by
       rw[Yae (n1 64)];exact p1
      have r9:(St.put { sto:=st4.sto,cnt:=st4.cnt+48 } (c2+64) (some (.cells [.i .u8 (.ofNat 3),.s s,.i .i64 (.ofNat 0),.i .i64 ln,.i .i64 a,.i .i64 (e:Nat)] false))).get 9=some (.cells [.i .i64 (.ofNat 0),.i .i64 (.ofNat 0)] false):=by
       rw[Yae (n9 64)];exact p9
      have rw':=Yaf { sto:=st4.sto,cnt:=st4.cnt+48 } (c2+64) (some (.cells [.i .u8 (.ofNat 3),.s s,.i .i64 (.ofNat 0),.i .i64 ln,.i .i64 a,.i .i64 (e:Nat)] false));generalize (St.put { sto:=st4.sto,cnt:=st4.cnt+48 } (c2+64) (some (.cells [.i .u8 (.ofNat 3),.s s,.i .i64 (.ofNat 0),.i .i64 ln,.i .i64 a,.i .i64 (e:Nat)] false)))=st5 at *;rw[Nbc (n:=6) (st:={ sto:=st5.sto,cnt:=st5.cnt+48 }) rw' rfl];simp only[Zx,Na7,map_some];exact Ndb Zag Zag (w:=[.i .u8 (.ofNat 3),.s s,.i .i64 (.ofNat 0),.i .i64 ln,.i .i64 a,.i .i64 (e:Nat)]) (f:=[.i .i64 (.ofNat 0),.i .i64 (.ofNat 0)]) (st:={ sto:=st5.sto,cnt:=st5.cnt+48 }) r1 r9 rfl rfl rfl rfl rfl rfl rfl
    |false =>
      have hk':NhI (32::s++[32]) Nc2=false:=hk;simp only[hk',Zn,unP,Bool.not_not,hqb,↓Z0,↓Xp,↓Xt,Xq,Xc,Nae,Naa,rA,rB,rC,rD,reduceIte];rw[Nbc (n:=6) (st:={ sto:=st4.sto,cnt:=st4.cnt+32+48 }) pw2 rfl];simp only[Zx,Na7,map_some];exact Ndb Zag Zag (w:=[.i .u8 (.ofNat 2),.s s,.i .i64 (.ofNat 0),.i .i64 ln,.i .i64 a,.i .i64 (e:Nat)]) (f:=[.i .i64 (.ofNat 0),.i .i64 (.ofNat 0)]) (st:={ sto:=st4.sto,cnt:=st4.cnt+32+48 }) p1 p9 rfl rfl rfl rfl rfl rfl rfl
   ·rw[if_neg h3c,if_neg h4c];by_cases h5c:cls c=5
    ·simp only[hld,↓Z0,↓Xp,↓Xt,Xq,Xc,Nae,Naa,rA,rB,rC,rD,reduceIte,no 3 h3c,no 4 h4c,yes 5 h5c];rw[st0K _ _ rfl rfl];simp only[map_some,Zx];have pw:=Yaf { sto:=st3.sto,cnt:=c3+192 } (c2+64) (some (.cells [.i .u8 (.ofNat 4),.s [],.i .i64 (.ofNat 0),.i .i64 ln,.i .i64 a,.i .i64 (e:Nat)] false));rw[NbG (v:=.s s) pw Zaf rfl rfl,St.put_put];simp only[map_some,Zx,List.set,unP,Bool.not_not];have p1:=keep1 (c3+192) (some (.cells [.i .u8 (.ofNat 4),.s s,.i .i64 (.ofNat 0),.i .i64 ln,.i .i64 a,.i .i64 (e:Nat)] false));have p9:=keep9 (c3+192) (some (.cells [.i .u8 (.ofNat 4),.s s,.i .i64 (.ofNat 0),.i .i64 ln,.i .i64 a,.i .i64 (e:Nat)] false));have pw2:=Yaf { sto:=st3.sto,cnt:=c3+192 } (c2+64) (some (.cells [.i .u8 (.ofNat 4),.s s,.i .i64 (.ofNat 0),.i .i64 ln,.i .i64 a,.i .i64 (e:Nat)] false));have pf:∀ j,c2+65≤j→(St.put { sto:=st3.sto,cnt:=c3+192 } (c2+64) (some (.cells [.i .u8 (.ofNat 4),.s s,.i .i64 (.ofNat 0),.i .i64 ln,.i .i64 a,.i .i64 (e:Nat)] false))).get j=none:=by
      intro j hj;rw[Yae Zaa];exact fr3 j hj
     have pc:(St.put { sto:=st3.sto,cnt:=c3+192 } (c2+64) (some (.cells [.i .u8 (.ofNat 4),.s s,.i .i64 (.ofNat 0),.i .i64 ln,.i .i64 a,.i .i64 (e:Nat)] false))).cnt=c3+192:=rfl;generalize (St.put { sto:=st3.sto,cnt:=c3+192 } (c2+64) (some (.cells [.i .u8 (.ofNat 4),.s s,.i .i64 (.ofNat 0),.i .i64 ln,.i .i64 a,.i .i64 (e:Nat)] false)))=st4 at *;by_cases hq:s=[61]
     ·have hqb:(s==[61])=true:=(by simpa using hq);rw[if_neg (fun h=>h.2 hq)];simp only[hqb,↓Z0,↓Xp,↓Xt,Xq,Xc,Nae,Naa,rA,rB,rC,rD,reduceIte];refine NcG (st:={ sto:=st4.sto,cnt:=st4.cnt+16 }) (kw:=c2+64) (ln:=ln) (w:=[.i .u8 (.ofNat 4),.s s,.i .i64 (.ofNat 0),.i .i64 ln,.i .i64 a,.i .i64 (e:Nat)]) ?_ ?_ ?_ pw2 rfl p1 p9 ?_ (n1 64) (n9 64) ?_ ?_ ?_
      ·simp[Yad]
      ·simp[Yad]
      ·simp[Yad]
      ·intro j hj;refine pf j ?_;simp only[pc]at hj;omega
      ·simp only[pc];omega
      ·simp only[pc];omega
      ·exact⟨nofun,_,NdC Zag Zag,rfl⟩
     ·have hqb:(s==[61])=false:=(by simpa using hq);rw[if_pos ⟨h5c,hq⟩];simp only[hqb,↓Z0,↓Xp,↓Xt,Xq,Xc,Nae,Naa,rA,rB,rC,rD,reduceIte];rw[Nbc (n:=6) (st:={ sto:=st4.sto,cnt:=st4.cnt+48 }) pw2 rfl];simp only[Zx,Na7,map_some];exact Ndb Zag Zag (w:=[.i .u8 (.ofNat 4),.s s,.i .i64 (.ofNat 0),.i .i64 ln,.i .i64 a,.i .i64 (e:Nat)]) (f:=[.i .i64 (.ofNat 0),.i .i64 (.ofNat 0)]) (st:={ sto:=st4.sto,cnt:=st4.cnt+48 }) p1 p9 rfl rfl rfl rfl rfl rfl rfl
    ·rw[if_neg (fun h=>h5c h.1)];simp only[hld,↓Z0,↓Xp,↓Xt,Xq,Xc,Nae,Naa,rA,rB,rC,rD,reduceIte,no 3 h3c,no 4 h4c,no 5 h5c,unP,Bool.not_false];refine NcG (st:={ sto:=st3.sto,cnt:=c3+176 }) (kw:=c2+64) (ln:=ln) (w:=[.i .u8 (.ofNat 5),.s [],.i .i64 (.ofNat 0),.i .i64 ln,.i .i64 a,.i .i64 (e:Nat)]) ?_ ?_ ?_ kw rfl k1 k9 ?_ (n1 64) (n9 64) ?_ ?_ ?_
     ·simp[Yad]
     ·simp[Yad]
     ·simp[Yad]
     ·intro j hj;refine fr3 j ?_;simp only[]at hj;omega
     ·simp only[];omega
     ·simp only[];omega
     ·exact⟨nofun,_,NdC Zag Zag,rfl⟩
end Go.Pe
