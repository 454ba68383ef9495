/-
 CheckTells: the document's checker: exprs: walked. No condition.
-/
import Derived.Test.YtjnofhibldppoaaGreatZTelB
set_option linter.unusedVariables false
set_option linter.unusedSimpArgs false
set_option maxHeartbeats 8000000
open Nat renaming reduceAdd → rB,reduceMul → rC,reduceLT → rD,reduceEqDiff → rE,reduceLeDiff → rF
namespace Go.Pe
open Go Go.Am Go.RowKit
section
variable {v a b:PV}{st s0:St}{C c0 fuel n:Nat}{kv:List Nat}{cfg:Cfg}{s:List UInt8}{z:Bool}{cs:List PV}
theorem Nm5{P:Program}{Gl:Gmap}(hok:CfgOK P Gl cfg){f:FuncId}{args:List PV}{Q:PV→St→Prop}(ht:Top st)(h:∃ r st',NaC cfg fuel f args st=some (r,st')∧Q r st'):∃ r st',NaC cfg fuel f args st=some (r,st')∧(Q r st'∧Top st'):=by
 obtain⟨r,st',h1,h2⟩:=h;exact⟨r,st',h1,h2,Nf4 hok fuel _ _ _ _ _ h1 ht⟩
theorem NkM{sz:Nat}(h:Own st sz v n cs)(hf:cs.all PV.flat=true):∃ z,Go.Pe.deep st 12 v=some (slV z n cs):=by
 rcases h.deep hf with⟨rfl,h0,h1,h2⟩|h2
 ·exact⟨true,by rw[h2];unfold slV;rw[if_pos ⟨rfl,h0⟩]⟩
 ·exact⟨false,by rw[h2,Nk3]⟩
theorem Nk7(ls:List (List UInt8)):(stC ls).all PV.flat=true:=by
 rw[List.all_eq_true];intro p hp;obtain⟨e,-,rfl⟩:=List.mem_map.1 hp;rfl
theorem NmG{m:Nat}:NaH [.s s,slV z m cs]=([.s s,slV z m cs],{ sto:=.leaf,cnt:=1 }):=by
 unfold slV;split<;>rfl
theorem NmF{m:Nat}:NaH [slV z m cs,.s s]=([slV z m cs,.s s],{ sto:=.leaf,cnt:=1 }):=by
 unfold slV;split<;>rfl
structure Cfg10(cfg:Cfg):Prop where
 f1:cfg.fn 18=some m18
 f2:cfg.fn 35=some m35
 f3:cfg.fn 36=some m36
 f4:cfg.fn 33=some m33
 f5:cfg.fn 19=some m19
 f6:cfg.fn 34=some m34
 f7:cfg.fn 20=some m20
 f8:cfg.fn 21=some m21
 f9:cfg.fn 8=some m8
 x1:cfg.ext 18=none
 x2:cfg.ext 35=none
 x3:cfg.ext 36=none
 x4:cfg.ext 33=none
 x5:cfg.ext 19=none
 x6:cfg.ext 34=none
 x7:cfg.ext 20=none
 x8:cfg.ext 21=none
theorem NeE(hc:Cfg10 cfg){q:Nat}{D:List Dc}(hl:D.length<1000000000000000)(hfu:D.length+2≤q):Naj cfg (NaC cfg (q+1)) 18 [slV z D.length (D.flatMap Dc.cs),.s s]=some (.i .i64 (NjC s D 0)) :=
 Naq hc.x1 NmF (fun _=>rfl) (Noi hc.f1 hl hfu)
theorem NkZ(hc:Cfg10 cfg){q:Nat}{ls:List (List UInt8)}(hl:ls.length<1000000000000000)(hfu:ls.length+2≤q):Naj cfg (NaC cfg (q+1)) 35 [.s s,slV z ls.length (stC ls)]=some (.b (NbN s ls)) :=
 Naq hc.x2 NmG (fun _=>rfl) (Nl8 hc.f2 hl hfu)
theorem Noh(hc:Cfg10 cfg){w:Int×Int}{e r:Int}(hlt:C<st.cnt)(hk:st.get C=some (.cells [a,b,.i .i64 w.1,.i .i64 w.2,v] false)) :
 ∃ r' st',NaC cfg (fuel+1) 19 [.ptr C 0,.i .i64 e,.i .i64 r] st=some (r',st')∧(r'=.tup []∧st'.get C=some (.cells [a,b,.i .i64 (fI w e r).1,.i .i64 (fI w e r).2,v] false)∧(∀ j,j<st.cnt→j≠C→st'.get j=st.get j)∧st.cnt≤st'.cnt):=by
 refine NaA hc.f5 ?_;delta m19 Qa Qr Qf Qc Ql Qt Qn Qk Qi;obtain⟨w1,w2⟩:=w;obtain⟨sto,c⟩:=st;simp only at hlt;have kC:∀ n',St.get ⟨sto,n'⟩ C=some (.cells [a,b,.i .i64 w1,.i .i64 w2,v] false):=fun _=>hk;simp only[Nai];unfold fI;by_cases h:w1=0
 ·rw[if_pos h];have h0:(w1==Int.ofNat 0)=true:=by rw[h];rfl
  iterate 4
   (try rw[Z0]);(try simp(maxSteps:=9^7)(disch:=first|omega|rfl|assumption)only[↓Yaa,Yab,Nae,Naa,rB,rC,rD,rE,reduceIte,unP,rF,h0,kC])
  refine⟨nofun,[],rfl,?_⟩
  repeat' apply And.intro
  all_goals first|rfl|(rw[Yaf];done)|(intro j hj hm;simp(disch:=omega)only[NaP,NaV];first|done|rfl)
 ·rw[if_neg h];have h0:(w1==Int.ofNat 0)=false:=by simpa using h
  iterate 4
   (try rw[Z0]);(try simp(maxSteps:=9^7)(disch:=first|omega|rfl|assumption)only[↓Yaa,Yab,Nae,Naa,rB,rC,rD,rE,reduceIte,unP,rF,h0,kC])
  refine⟨nofun,[],rfl,?_⟩
  repeat' apply And.intro
  all_goals first|rfl|exact hk|(intro j hj hm;rfl)|(simp only;omega)|omega
structure St10(c0 C:Nat)(kv:List Nat)(s0:St)(a b:PV)(w:(Int×Int)×List (List UInt8))(v:PV)(st:St):Prop where
 lt:C<c0
 le:c0≤st.cnt
 kC:st.get C=some (.cells [a,b,.i .i64 w.1.1,.i .i64 w.1.2,v] false)
 ow:Own st 1 v w.2.length (stC w.2)
 nC:C∉keyOf v
 kk:∀ k,k∈keyOf v→k∈kv∨c0≤k
 ko:∀ j,j<c0→j≠C→j∉kv→st.get j=s0.get j
 top:Top st
theorem St10.trans{w w':(Int×Int)×List (List UInt8)}{v':PV}{st':St}(h:St10 c0 C kv s0 a b w v st)(h2:St10 st.cnt C (keyOf v) st a b w' v' st'):St10 c0 C kv s0 a b w' v' st' where
 lt:=h.lt
 le:=Nat.le_trans h.le h2.le
 kC:=h2.kC
 ow:=h2.ow
 nC:=h2.nC
 kk:=fun k hk=>(h2.kk k hk).elim (h.kk k) (fun h3=>.inr (Nat.le_trans h.le h3))
 ko:=fun j h1 h3 h4=>(h2.ko j (Nat.lt_of_lt_of_le h1 h.le) h3 (fun h5=>(h.kk j h5).elim h4 (fun h6=>by omega))).trans (h.ko j h1 h3 h4)
 top:=h2.top
theorem St10.cnt{w:(Int×Int)×List (List UInt8)}{sto:Trie PObj}{n':Nat}(h:St10 c0 C kv s0 a b w v ⟨sto,n⟩)(hn:n≤n'):St10 c0 C kv s0 a b w v ⟨sto,n'⟩ where
 lt:=h.lt
 le:=Nat.le_trans h.le hn
 kC:=h.kC
 ow:=h.ow.cnt hn
 nC:=h.nC
 kk:=h.kk
 ko:=h.ko
 top:=h.top.le hn
theorem St10.put{w:(Int×Int)×List (List UInt8)}{sto:Trie PObj}(h:St10 c0 C kv s0 a b w v ⟨sto,n⟩){B n2 n':Nat}{o:Option PObj}(hBC:B≠C)(hBv:B∉keyOf v)(hB0:c0≤B)(hBn:B<n')(hn:n≤n'):St10 c0 C kv s0 a b w v ⟨(St.put ⟨sto,n2⟩ B o).sto,n'⟩ where
 lt:=h.lt
 le:=Nat.le_trans h.le hn
 kC:=(Yae (st:=⟨sto,n2⟩) hBC).trans h.kC
 ow:=h.ow.move hn fun k hk _=>Yae (st:=⟨sto,n2⟩) (fun e=>hBv (e▸hk))
 nC:=h.nC
 kk:=h.kk
 ko:=fun j h1 h3 h4=>(Yae (st:=⟨sto,n2⟩) Zaa).trans (h.ko j h1 h3 h4)
 top:=h.top.putN hBn hn
theorem St10.new{w:(Int×Int)×List (List UInt8)}(h:St10 c0 C kv s0 a b w v st){B:Nat}(hB:st.cnt≤B):B≠C∧B∉keyOf v∧c0≤B:=⟨by have:=h.lt;have:=h.le;omega,fun hk=>by have:=h.ow.lt _ hk;omega,Nat.le_trans h.le hB⟩
theorem St10.bad{w:(Int×Int)×List (List UInt8)}{st':St}(h:St10 c0 C kv s0 a b w v st){x:Int×Int}(h1:st'.get C=some (.cells [a,b,.i .i64 x.1,.i .i64 x.2,v] false))(h2:∀ j,j<st.cnt→j≠C→st'.get j=st.get j)(h3:st.cnt≤st'.cnt)(h4:Top st'):St10 c0 C kv s0 a b (x,w.2) v st' where
 lt:=h.lt
 le:=Nat.le_trans h.le h3
 kC:=h1
 ow:=h.ow.move h3 fun k hk hlt=>h2 k hlt (fun e=>h.nC (e▸hk))
 nC:=h.nC
 kk:=h.kk
 ko:=fun j a1 a2 a3=>(h2 j (Nat.lt_of_lt_of_le a1 h.le) a2).trans (h.ko j a1 a2 a3)
 top:=h4
theorem St10.self{w:(Int×Int)×List (List UInt8)}(h:St10 c0 C kv s0 a b w v st):St10 st.cnt C (keyOf v) st a b w v st:=⟨Nat.lt_of_lt_of_le h.lt h.le,Nat.le_refl _,h.kC,h.ow,h.nC,fun _ hk=>.inl hk,fun _ _ _ _=>rfl,h.top⟩
theorem Na6{P:Program}{Gl:Gmap}(hok:CfgOK P Gl cfg)(hc:Cfg10 cfg){w:(Int×Int)×List (List UInt8)}{e r:Int}(hs:St10 st.cnt C (keyOf v) st a b w v st) :
 ∃ r' st',NaC cfg (fuel+1) 19 [.ptr C 0,.i .i64 e,.i .i64 r] st=some (r',st')∧(r'=.tup []∧St10 st.cnt C (keyOf v) st a b (fI w.1 e r,w.2) v st'):=by
 obtain⟨r',st',h1,⟨h2,h3,h4,h5⟩,h6⟩:=Nm5 hok hs.top (Noh hc (fuel:=fuel) (w:=w.1) (e:=e) (r:=r) hs.lt hs.kC);exact⟨r',st',h1,h2,hs.bad h3 h4 h5 h6⟩
end
end Go.Pe
set_option maxHeartbeats 8000000
namespace Go.Pe
open Go Go.Am Go.RowKit
theorem Nkm{st:St}{l:List Ex}{i:Nat}(h:i<l.length) :
 NaY st 1 (.fptr ((Exs.cs l).drop (i * 4)))=some [.i .u8 (l[i].K.toNat:Int)]∧NaY st 1 (.fptr (((Exs.cs l).drop (i * 4)).drop 1))=some [.s l[i].S]∧NaY st 1 (.fptr (((Exs.cs l).drop (i * 4)).drop 3))=some [slV l[i].z l[i].L.length (Exs.cs l[i].L)]:=by
 have hd:(Exs.cs l).drop (i * 4)=l[i].cs++(Exs.cs l).drop ((i+1) * 4):=by rw[Exs.flat];exact Nbj Ex.cs_len h
 rw[hd,Ex.cs_eq];exact⟨rfl,rfl,rfl⟩
theorem Nf7{w:Int×Int}{e r:Int}(he:e≠0):fI (fI w e r) e r=fI w e r:=by
 have:=Nrw (b:=w) (e:=e) (r:=r) he;exact Nb1 this _ _
def Nh0(ls:List (List UInt8))(l:List Ex)(w:Int×Int)(r:Int):Int×Int:=if Exs.told (NbN · ls) l=true then w else fI w 110 r
theorem Njz{ls:List (List UInt8)}{e:Ex}{l:List Ex}{w:Int×Int}{r:Int}:Nh0 ls (e::l) w r=Nh0 ls l (Nh0 ls e.L (if e.K.toNat=2∧NbN e.S ls=false then fI w 110 r else w) r) r:=by
 unfold Nh0;rw[Exs.told,Ex.told_eq];by_cases h1:e.K.toNat=2∧NbN e.S ls=false
 ·rw[if_pos h1,if_pos h1];simp only[Bool.false_and,Bool.false_eq_true,if_false]
  repeat' split
  all_goals simp only[Nf7 (show(110:Int)≠0 by decide)]
 ·rw[if_neg h1,if_neg h1];cases Exs.told (NbN · ls) e.L<;>cases Exs.told (NbN · ls) l<;>simp[Nf7 (show(110:Int)≠0 by decide)]
set_option pp.deepTerms false
set_option pp.deepTerms.threshold 6
theorem Ni9{P:Program}{Gl:Gmap}{cfg:Cfg}(hok:CfgOK P Gl cfg)(hc:Cfg10 cfg){C:Nat}{a b v:PV}{ls:List (List UInt8)}{r:Int}(hls:ls.length<100000000):∀ (fuel:Nat) (l:List Ex) (z:Bool) (w:Int×Int) (st:St),Exs.size l+ls.length+10≤fuel→Exs.size l<1000000000000000→St10 st.cnt C (keyOf v) st a b (w,ls) v st →
 ∃ r' st',NaC cfg (fuel+1) 34 [.ptr C 0,slV z l.length (Exs.cs l),.i .i64 r] st=some (r',st')∧(r'=.tup []∧St10 st.cnt C (keyOf v) st a b (Nh0 ls l w r,ls) v st'):=by
 intro fuel
 induction fuel with
 |zero=>intro l z w st h;omega
 |succ q ih =>
   intro l z w st hfu hn hs0;refine NaA hc.f6 ?_;delta m34 Qa Qr Qf Ql Qt Qs Qk Qm Qh Qi Qv Qo;have hlv:=NaD z l.length (Exs.cs l);have hsz:=Exs.len l;have hlle:=Exs.len_le l;obtain⟨R,hR⟩:∃ R,Nh0 ls l w r=R:=⟨_,rfl⟩;rw[hR];obtain⟨sto0,c0⟩:=st;obtain⟨kv,hkv⟩:∃ kv,keyOf v=kv:=⟨_,rfl⟩;rw[hkv]at hs0 ⊢;simp only at hs0 ⊢;obtain⟨Y,hY⟩:∃ Y:St→Prop,Y=fun st'=>St10 c0 C kv ⟨sto0,c0⟩ a b (R,ls) v st':=⟨_,rfl⟩
   simp only[show ∀ st',St10 c0 C kv ⟨sto0,c0⟩ a b (R,ls) v st'=Y st' from fun st'=>by rw[hY]];simp only[Nai]
   iterate 3
    (try rw[Z0]);(try simp(maxSteps:=9^7)(disch:=first|omega|rfl|assumption)only[↓Yaa,Yab,Nae,Naa,rB,rC,rD,rE,reduceIte,unP,rF])
   refine Z9 (k:=l.length - 0) (fun m x=>∃ (i:Nat) (w1:Int×Int),m=l.length - i∧x.env.get 0=.ptr C 0∧x.env.get 1=slV z l.length (Exs.cs l)∧x.env.get 2=.i .i64 r∧x.env.get 6=.i .i64 (i:Int)∧(St10 c0 C kv ⟨sto0,c0⟩ a b (w1,ls) v x.st)∧(i≤l.length)∧(Nh0 ls (l.drop i) w1 r=R)) ?_ ?_ Zaa
   ·skip
    rintro m ⟨env,⟨sto,c⟩⟩ ⟨i,w1,rfl,g0,g1,g2,g6,hs,hi,hob⟩;try simp only at g0 g1 g2 g6 hs
    by_cases hil:i<l.length
    ·rw[Nan hil]at g1 hlv;obtain⟨e,he⟩:∃ e,l[i]=e:=⟨_,rfl⟩;have hF:=fun st=>Nkm (st:=st) hil;simp only[he]at hF;have f0:=fun st=>(hF st).1;have f1:=fun st=>(hF st).2.1;have f3:=fun st=>(hF st).2.2;rw[List.drop_eq_getElem_cons hil,he,Njz]at hob;have hel:e.size≤Exs.size l:=Exs.size_mem (he▸List.getElem_mem hil);have hes:=Ex.size_eq e;obtain⟨k,hkk⟩:∃ k,e.K.toNat=k:=⟨_,rfl⟩;obtain⟨w2,hw2⟩:∃ w2,(if e.K.toNat=2∧NbN e.S ls=false then fI w1 110 r else w1)=w2:=⟨_,rfl⟩;rw[hw2]at hob;rw[hkk]at hw2;simp only[hkk]at f0;have kC:∀ n',St.get ⟨sto,n'⟩ C=some (.cells [a,b,.i .i64 w1.1,.i .i64 w1.2,v] false):=fun _=>hs.kC;have hs1:∀ d,St10 c0 C kv ⟨sto0,c0⟩ a b (w1,ls) v ⟨sto,c+d⟩:=fun d=>hs.cnt Zaa
     iterate 2
      (try rw[Z0]);(try simp(maxSteps:=9^7)(disch:=first|omega|rfl|assumption)only[↓Yaa,Yab,Nae,Naa,rB,rC,rD,rE,reduceIte,unP,rF,g0,g1,g2,g6,hlv])
     refine Nbn fun K9 hK9=>?_;(try rw[Z0]);(try simp(maxSteps:=9^7)(disch:=first|omega|rfl|assumption)only[↓Yaa,Yab,Nae,Naa,rB,rC,rD,rE,reduceIte,unP,rF,g0,g1,g2,g6]);refine NaQ (fun x=>x.env.get 0=.ptr C 0∧x.env.get 1=.fsl l.length (Exs.cs l)∧x.env.get 2=.i .i64 r∧x.env.get 6=.i .i64 (i:Int)∧(St10 c0 C kv ⟨sto0,c0⟩ a b (w2,ls) v x.st)) ?_ ?_
     ·intro K1 hK1;by_cases h2:k=2
      ·have b2:((k:Int)==Int.ofNat 2)=true:=(by subst h2;rfl);(try rw[Z0]);(try simp(maxSteps:=9^7)(disch:=first|omega|rfl|assumption)only[↓Yaa,Yab,Nae,Naa,rB,rC,rD,rE,reduceIte,unP,rF,g0,g1,g2,g6,hlv,hsz,f0,f1,b2,kC]);obtain⟨z1,hz1⟩:=NkM (hs1 32).ow (Nk7 ls);refine NaS (NbL rfl hz1) (NkZ (q:=q) (ls:=ls) hc Zaa Zaa) rfl rfl ?_;cases hh:NbN e.S ls with
       |true =>
         rw[if_neg (fun h=>by rw[hh]at h;cases h.2)]at hw2;subst hw2
         iterate 2
          (try rw[Z0]);(try simp(maxSteps:=9^7)(disch:=first|omega|rfl|assumption)only[↓Yaa,Yab,Nae,Naa,rB,rC,rD,rE,reduceIte,unP,rF,g0,g1,g2,g6,Bool.not_true])
         refine hK1 _ ⟨?_,?_,?_,?_,(hs1 184)⟩<;>first|with_reducible rfl|with_reducible assumption|(simp[Yad,g0,g1,g2,g6]<;>omega)
       |false =>
         rw[if_pos ⟨h2,hh⟩]at hw2
         iterate 2
          (try rw[Z0]);(try simp(maxSteps:=9^7)(disch:=first|omega|rfl|assumption)only[↓Yaa,Yab,Nae,Naa,rB,rC,rD,rE,reduceIte,unP,rF,g0,g1,g2,g6,Bool.not_false,hc.x5])
         refine Ncf (Na6 hok hc (hs1 208).self) ?_;rintro r1 ⟨sto1,c1⟩ ⟨rfl,h2'⟩;subst hw2;refine hK1 _ ⟨?_,?_,?_,?_,((hs1 208).trans h2')⟩<;>first|with_reducible rfl|with_reducible assumption|(simp[Yad,g0,g1,g2,g6]<;>omega)
      ·have b2:((k:Int)==Int.ofNat 2)=false:=(by simp;omega);rw[if_neg (fun h=>h2 h.1)]at hw2;subst hw2
       iterate 2
        (try rw[Z0]);(try simp(maxSteps:=9^7)(disch:=first|omega|rfl|assumption)only[↓Yaa,Yab,Nae,Naa,rB,rC,rD,rE,reduceIte,unP,rF,g0,g1,g2,g6,hlv,hsz,f0,b2])
       refine hK1 _ ⟨?_,?_,?_,?_,(hs1 184)⟩<;>first|with_reducible rfl|with_reducible assumption|(simp[Yad,g0,g1,g2,g6]<;>omega)
     clear g0 g1 g2 g6 hs;rintro⟨env,⟨sto,c⟩⟩ ⟨g0,g1,g2,g6,hs⟩;try simp only at g0 g1 g2 g6 hs
     (try rw[Z0]);(try simp(maxSteps:=9^7)(disch:=first|omega|rfl|assumption)only[↓Yaa,Yab,Nae,Naa,rB,rC,rD,rE,reduceIte,unP,rF,g0,g1,g2,g6,hlv,hsz,f3,hc.x6]);have hs2:St10 c0 C kv ⟨sto0,c0⟩ a b (w2,ls) v ⟨sto,c+64⟩:=hs.cnt Zag;refine Ncf (ih e.L e.z w2 ⟨sto,c+64⟩ Zaa Zaa hs2.self) ?_;rintro r1 ⟨sto1,c1⟩ ⟨rfl,h2'⟩;refine hK9 _ ?_;have hs3:=hs2.trans h2'
     iterate 2
      (try rw[Z0]);(try simp(maxSteps:=9^7)(disch:=first|omega|rfl|assumption)only[↓Yaa,Yab,Nae,Naa,rB,rC,rD,rE,reduceIte,unP,rF,g0,g1,g2,g6])
     exact⟨l.length - (i+1),by omega,i+1,_,rfl,(Nan hil).symm,rfl,hs3.cnt Zaa,by omega,hob⟩
    ·have h0:l.drop i=[]:=List.drop_of_length_le Zaa;rw[h0]at hob;have hob':w1=R:=hob
     iterate 6
      (try rw[Z0]);(try simp(maxSteps:=9^7)(disch:=first|omega|rfl|assumption)only[↓Yaa,Yab,Nae,Naa,rB,rC,rD,rE,reduceIte,unP,rF,g0,g1,g2,g6,hlv])
     exact⟨nofun,[],rfl,rfl,by rw[hY,←hob'];exact hs.cnt Zag⟩
   ·skip
    exact⟨0,w,rfl,Zac,Zac,Zac,Zac,(hs0.cnt Zag),Zad,(by rw[List.drop_zero];exact hR)⟩
end Go.Pe
