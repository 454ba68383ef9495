/-
 Join and Tick of clocks as functions of plain data. Condition: lists that are short.
-/
import Derived.Test.YtafdphmhbnjfaaaGreatDoorZClkT
import Derived.Test.YtafdphmhbnjfaaaGreatDoorZPe9
set_option linter.unusedVariables false
namespace Go.Pe
open Go Go.Am Go.RowKit
def NaI(xs:List Int):List PV:=xs.map (.i .i64 ·)
theorem NaH(xs:List Int):(NaI xs).length=xs.length:=by simp[NaI]
def NeU?:List PV→Option (List Int)
 |[]=>some []
 |.i .i64 n::r=>(NeU? r).map (n::·)
 |_=>none
theorem NeV:∀ {l:List PV}{xs:List Int},NeU? l=some xs→l=NaI xs
 |[],xs,h=>by simp only[NeU?,Sj]at h;subst h;rfl
 |p::r,xs,h=>by
   unfold NeU? at h;split at h
   ·rename_i h1;cases h1
   ·rename_i n r' heq;cases heq;simp only[Option.map_eq_some_iff]at h;obtain⟨ys,hy,rfl⟩:=h;rw[NeV hy];rfl
   ·cases h
theorem NhD(xs:List Int):NeU? (NaI xs)=some xs:=by
 induction xs with
 |nil=>rfl
 |cons x r ih=>show(NeU? (NaI r)).map (x::·)=_;rw[ih];rfl
def inNs:PV→Option (List Int)
 |.nsl=>some []
 |.fsl n cs=>match NeU? cs with
   |some l=>if n=l.length∧l≠[]then some l else none
   |none=>none
 |_=>none
theorem NlT{xs:List Int}(h:xs≠[]):inNs (.fsl xs.length (NaI xs))=some xs:=by
 simp only[inNs,NhD];simp[h]
def NaW(xs:List Int):Bool:=Nat.blt xs.length 1000&&xs.all fun x=>decide (0≤x)&&decide (x≤9223372036854775807)
def gJoin:List PV→Option PV
 |[a,b]=>match inNs a,inNs b with
   |some xs,some ys=>if NaW xs=true∧NaW ys=true∧NbD xs ys≠[]then some (.osl 1 (NbD xs ys).length (NaI (NbD xs ys)))else none
   |_,_=>none
 |_=>none
def gTick:List PV→Option PV
 |[a,.i .i64 t]=>match inNs a with
   |some xs=>if NaW xs=true∧Nb8 xs t≠[]then some (.osl 1 (Nb8 xs t).length (NaI (Nb8 xs t)))else none
   |none=>none
 |_=>none
theorem NcD{xs:List Int}(h:NaW xs=true):xs.length<1000∧wf64 xs:=by
 unfold NaW at h;simp only[Bool.and_eq_true,List.all_eq_true,decide_eq_true_eq]at h;refine⟨by have:=h.1;simp[Nat.blt]at this;omega,fun x hx=>?_⟩;have:=h.2 x hx;unfold NqB;omega
theorem Noo{F:Nat→Nat→Option Value}{w:World}(hF:∀ b o u,F b o=some u→w.cell? ⟨b,o,none⟩=some u){u:Value}{p:PV}{xs:List Int}(hp:inNs p=some xs)(h:FRel F u p):∃ ao cap,u=.slice ao xs.length cap∧Rd w 1 ao xs.length cap (ints .i64 xs):=by
 unfold inNs at hp;split at hp
 ·simp only[Sj]at hp;subst hp;cases h;exact⟨none,0,rfl,{ len:=by simp,nil:=fun _=>⟨rfl,rfl⟩,spot:=fun h=>by simp at h,lecap:=by simp,lemax:=by omega,lt:=fun h=>by simp at h,cell:=fun j h=>by simp at h }⟩
 ·rename_i n cs;split at hp
  ·rename_i l hl;split at hp
   ·rename_i hn;simp only[Sj]at hp;subst hp;have hcs:=NeV hl;subst hcs;obtain⟨hn1,h0⟩:=hn;obtain⟨cs,hcs⟩:∃ cs,NaI l=cs:=⟨_,rfl⟩;rw[hcs]at h;cases h with
    |fsl b o n cap ps f hc hm hF2 hh =>
      subst hcs;subst hn1;refine⟨some ⟨b,o,none⟩,cap,rfl,⟨by simp,by simp,fun _=>rfl,hc,by unfold maxLen at hm;omega,fun hl0=>?_,fun j hj=>?_⟩⟩
      ·have:=hF _ _ _ (hF2 0 (by rw[NaH];simpa using hl0));exact World.block_lt_of_cell? w _ this
      ·have hj2:j<(NaI l).length:=(by rw[NaH];simpa using hj);have h1:=hF _ _ _ (hF2 j hj2);have hj3:j<l.length:=(by simpa using hj);have h2:=hh j (.i .i64 l[j]) (by simp[NaI,hj3]);have h3:f j=.int .i64 l[j]:=by
        generalize f j=x at h2;cases h2;rfl
       show w.cell? ⟨b,o+j,none⟩=_;rw[h1,h3];simp[ints]
    |fnull a cap hm=>exact absurd (List.eq_nil_of_length_eq_zero hn1.symm) h0
   ·cases hp
  ·cases hp
 ·cases hp
theorem Niw{F:Nat→Nat→Option Value}{w w':World}{base n cap:Nat}{ao:Option Addr}{ty:TypeId}{xs:List Int}(hF:∀ b o u,F b o=some u→w.cell? ⟨b,o,none⟩=some u)(hbase:base≤w.heap.size)(hne:xs≠[])(ho:w'.ownsRow w.heap.size ty 1 (.slice ao n cap) n (ints .i64 xs)) :
 NoG F w' base (fun b=>w.heap.size≤b∨some b=(none:Option Nat)) (.slice ao n cap) (.osl 1 xs.length (NaI xs)):=by
 have hl:=ho.1;simp only[NhE,Nat.mul_one]at hl;rcases ho.2 with⟨h,h2⟩|⟨g,cap',cur,h,h2,h3,h4,h5,h6,h7⟩
 ·exfalso;subst h2;exact hne (List.eq_nil_of_length_eq_zero hl)
 ·simp only[Value.slice.injEq,true_and]at h;obtain⟨rfl,rfl⟩:=h;subst hl;refine⟨g,.inl h2,cur.size,cap,cur,ty,(0,0),rfl,h4,h5,by omega,by omega,h3,.inl rfl,rfl,?_,?_,?_,by omega⟩
  ·rw[NaH];omega
  ·have h8:cur.toList.take (NaI xs).length=ints .i64 xs:=(by rw[NaH,←h7,Nat.mul_one]);rw[h8];refine⟨by simp[NaH],fun i v p hv hp=>?_⟩;simp only[ints,NaI,List.getElem?_map,Option.map_eq_some_iff]at hv hp;obtain⟨a,ha,rfl⟩:=hv;obtain⟨b,hb,rfl⟩:=hp;rw[ha]at hb;simp only[Sj]at hb;subst hb;exact .i _ _
  ·intro o;cases hFo:F g o with
   |none=>rfl
   |some x =>
     have h1:=hF _ _ _ hFo;have hlt:=World.block_lt_of_cell? w _ h1;simp at hlt;omega
theorem NnW{Gl:Gmap}:NbH Go.Proofs.Tryz.prog Gl 87 gJoin:=by
 intro args r hr F w base vs gv hF hG hbase ha;unfold gJoin at hr;split at hr
 ·rename_i a b;split at hr
  ·rename_i xs ys hx hy;split at hr
   ·rename_i hcond;obtain⟨s1,s2,hne⟩:=hcond;simp only[Sj]at hr;subst hr;have hab:∀ sz n cs,a≠.osl sz n cs:=(by rintro sz n cs rfl;simp[inNs]at hx);have ha1:FC F vs [a,b]∧gv=none:=by
     cases a<;>first|exact ha|(exact absurd rfl (hab _ _ _))
    obtain⟨ha1,rfl⟩:=ha1;obtain⟨u,v,rfl,hu,hv⟩:=FC.two ha1;obtain⟨ao,c1,rfl,r1⟩:=Noo hF hx hu;obtain⟨bo,c2,rfl,r2⟩:=Noo hF hy hv;have l1:=(NcD s1).1;have l2:=(NcD s2).1;refine(Go.Proofs.YtafdphmhbnjfaaaGreatDoor.join_any ao bo _ _ c1 c2 xs ys w r1 r2 Zaa).mono ?_;rintro e w' ⟨hb,ao',n',cap',rfl,ho⟩;have keep:∀ b o x,F b o=some x→w'.cell? ⟨b,o,none⟩=some x:=by
     intro b o x hx;have h1:=hF b o x hx;have hlt:=World.block_lt_of_cell? w _ h1;rw[hb.cell (by simpa using hlt)];exact h1
    exact⟨_,F,rfl,fun b o x hx=>hx,keep,hb.os,hb.tape,hb.output,hb.size,fun j hj _=>hb.block j hj,fun b o x hx=>.inl hx,Niw hF hbase hne ho⟩
   ·cases hr
  ·cases hr
 ·cases hr
theorem NoC{Gl:Gmap}:NbH Go.Proofs.Tryz.prog Gl 56 gTick:=by
 intro args r hr F w base vs gv hF hG hbase ha;unfold gTick at hr;split at hr
 ·rename_i a t;split at hr
  ·rename_i xs hx;split at hr
   ·rename_i hcond;obtain⟨s1,hne⟩:=hcond;simp only[Sj]at hr;subst hr;have hab:∀ sz n cs,a≠.osl sz n cs:=(by rintro sz n cs rfl;simp[inNs]at hx);have ha1:FC F vs [a,.i .i64 t]∧gv=none:=by
     cases a<;>first|exact ha|(exact absurd rfl (hab _ _ _))
    obtain⟨ha1,rfl⟩:=ha1;obtain⟨u,v,rfl,hu,hv⟩:=FC.two ha1;have:=hv.i_inv;subst this;obtain⟨ao,c1,rfl,r1⟩:=Noo hF hx hu;obtain⟨l1,w1⟩:=NcD s1;refine(Go.Proofs.YtafdphmhbnjfaaaGreatDoor.tick_any ao _ c1 xs t w r1 w1 Zaa).mono ?_;rintro e w' ⟨hb,ao',n',cap',rfl,ho⟩;have keep:∀ b o x,F b o=some x→w'.cell? ⟨b,o,none⟩=some x:=by
     intro b o x hx;have h1:=hF b o x hx;have hlt:=World.block_lt_of_cell? w _ h1;rw[hb.cell (by simpa using hlt)];exact h1
    exact⟨_,F,rfl,fun b o x hx=>hx,keep,hb.os,hb.tape,hb.output,hb.size,fun j hj _=>hb.block j hj,fun b o x hx=>.inl hx,Niw hF hbase hne ho⟩
   ·cases hr
  ·cases hr
 ·cases hr
end Go.Pe
