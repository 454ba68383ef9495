/-
 What the functions of package clock compute: Join, Leq, Tick, Clone, each, and the two closures. Condition: the lists' bytes are within 2^47.
-/
import Derived.Test.YtafdphmhbnjfaaaGreatDoorZClockM
set_option linter.unusedVariables false
set_option maxHeartbeats 400000
namespace Go.Proofs.YtafdphmhbnjfaaaGreatDoor
open Go.RowKit Go.Am
theorem el_i64:Elem Tryz.prog 31 2 (.int .i64 0) 1 8:=⟨Tryz.underlying31,by kernel_rfl,rfl,by decide,by decide⟩
theorem Nlu(ao bo:Option Addr)(n m c1 c2:Nat)(xs ys:List Int)(w:World)(I:Nat→World→Prop)(go:Nat→Bool)(c:FuncId)(cap:Array Value)
 (hx:Rd w 1 ao n c1 (ints .i64 xs)) (hy:Rd w 1 bo m c2 (ints .i64 ys)) (hen:∀ args w,(callFunc c args).run Tryz.prog w=.ok (.enter c args) w)
 (hcl:∀ k wk,k<max n m→I k wk→Calls Tryz.prog c (#[.int .i64 (gi xs k),.int .i64 (gi ys k)]++cap) wk fun e w'=>e=.returned (.bool (go k))∧I (k+1) w')
 (hI:∀ k wk,I k wk→Rd wk 1 ao n c1 (ints .i64 xs)∧Rd wk 1 bo m c2 (ints .i64 ys)) (h0:I 0 w) :
 Calls Tryz.prog 118 #[.slice ao n c1,.slice bo m c2,.func (.func c) #[] cap] w fun e w'=>e=.returned (.tuple #[]) ∧
  ∃ k,k≤max n m∧I k w'∧(∀ j,j+1<k→go j=true)∧(k=max n m∧(∀ j,j<k→go j=true)∨(0<k∧go (k - 1)=false)):=by
 have Hcl:=Lib.hid hcl;clear hcl;have HI:=Lib.hid hI;clear hI;have H0:=Lib.hid h0;clear h0;have hl1:=hx.lecap;have hl2:=hx.lemax;have hl3:=hy.lecap;have hl4:=hy.lemax;have hix:=NhC (P:=Tryz.prog) hx Tryz.underlying31 el_i64.sz .i64;have hiy:=NhC (P:=Tryz.prog) hy Tryz.underlying31 el_i64.sz .i64;have hlx:=Lib.hid hx.intLen;have hly:=Lib.hid hy.intLen;obtain⟨N,hN⟩:∃ N,N=max n m:=⟨_,rfl⟩;have hmx:(if n<m then(m:Int)else(n:Int))=(N:Int):=by split<;>omega
 have HN:=Lib.hid hN;clear hN;clear hx hy
 go_enter Tryz.func118,Tryz.ntmps118
 go_wp2_with fail
 clear hmx
 go_loopw [14] (fun i wr=>∃ k:Nat,k≤N∧i=.int .i64 k∧Hid (I k wr)∧Hid (∀ j,j<k→go j=true)) (fun i _=>N - (intOf i).toNat)
 case atStart=>exact⟨0,by omega,rfl,H0,fun j h=>absurd h (by omega)⟩
 case round =>
  obtain⟨k,hk,rfl,hs,hg⟩:=hrel;have hN1:N≤9223372036854775807:=by have:=HN.out;omega
  by_cases hlt:k<N
  ·have hnx:n≤k→gi xs k=0:=fun h=>NdF (by have:=hlx.out;omega);have hny:m≤k→gi ys k=0:=fun h=>NdF (by have:=hly.out;omega);have hcx:=(HI.out k wr hs.out).1.intCell;have hcy:=(HI.out k wr hs.out).2.intCell
   go_wp2_with fail
   all_goals
    have hc:=Hcl.out k wr (by have:=HN.out;omega) hs.out;(try rw[hnx (by omega)]at hc);(try rw[hny (by omega)]at hc);clear hcx hcy hnx hny hix hiy;cases hgo:go k
    ·rw[hgo]at hc;refine hc.mono ?_;rintro e w' ⟨rfl,hi⟩;have Hi:=Lib.hid hi;clear hi;have Hgo:=Lib.hid hgo;clear hgo
     go_wp2_with fail
     refine bodyPost_ret (results_none rfl _ _ _) rfl ?_;exact⟨rfl,k+1,by have:=HN.out;omega,Hi.out,fun j hj=>hg.out j (by omega),.inr ⟨by omega,Hgo.out⟩⟩
    ·rw[hgo]at hc;refine hc.mono ?_;rintro e w' ⟨rfl,hi⟩;have Hi:=Lib.hid hi;clear hi;have Hgo:=Lib.hid hgo;clear hgo
     go_wp2_with fail
     go_roundw
     case rel=>exact⟨k+1,by omega,by go_num,Hi.out,fun j hj=>by
      by_cases e:j=k
      ·subst e;exact Hgo.out
      ·exact hg.out j (by omega)⟩
     case measure=>simp[intOf];omega
  ·go_wp2_with fail
   go_end0
   exact⟨rfl,k,by have:=HN.out;omega,hs.out,fun j hj=>hg.out j (by omega),.inl ⟨by have:=HN.out;omega,hg.out⟩⟩
theorem Nj1(x y:Int)(ob:Nat)(w:World)(ao:Option Addr)(n cap:Nat)(L:List Int)(hob:w.heap[ob]? = some (.cells #[.slice ao n cap] 31 (0,0)))
 (hown:w.ownsRow (ob+1) 2 1 (.slice ao n cap) n (ints .i64 L)) (hb:(n+1) * 8≤140737488355328) :
 Calls Tryz.prog 119 #[.int .i64 x,.int .i64 y,.pointer (some ⟨ob,0,none⟩)] w fun e w'=>e=.returned (.bool true) ∧
  Below ob w w'∧∃ ao' cap',w'.heap[ob]? = some (.cells #[.slice ao' (n+1) cap'] 31 (0,0))∧w'.ownsRow (ob+1) 2 1 (.slice ao' (n+1) cap') (n+1) (ints .i64 (L++[max x y])):=by
 have hc:=cell_of_one hob;have hlt:=lt_of_block hob;obtain⟨z,hz⟩:∃ z,z=max x y:=⟨_,rfl⟩;have hmx:(if x<y then y else x)=z:=by split<;>omega
 rw[←hz];have Hob:=Lib.hid hob;clear hob hz
 go_enter Tryz.func119,Tryz.ntmps119
 go_wp2_with (at_builtin;refine NdV el_i64 rfl (.tmp 6) (.tmp 10) rfl rfl (hown.alloc _) rfl (Rd.new w 1 1 #[.int .i64 z] _ rfl (by omega)) (by intro u hu;simp at hu;subst hu;rfl) hb (by simp;omega) ?_)
 intro ao' cap' w1 hown1 hg;have hr:∀ k,(Value.slice ao n cap).ownBlock=some k→ob+1≤k:=fun k hk=>(hown.lt k hk).1;have hb1:Below (ob+1) w w1:=((Below.refl _ w).alloc (by omega) _).grown hg (by simp;omega) hr;have hob1:w1.heap[ob]? = some (.cells #[.slice ao n cap] 31 (0,0)):=by rw[hb1.block ob (by omega)];exact Hob.out
 have hc1:=cell_of_one hob1;have hf1:=free_of_one hob1;have Hob1:=Lib.hid hob1;clear hob1
 go_wp2_with fail
 go_ret
 have hob1:=Hob1.out;refine⟨rfl,(hb1.mono (show ob≤ob+1 by omega)).setCell (p:=⟨ob,0,none⟩) (Nat.le_refl _) _,ao',cap',one_setCell hob1,?_⟩;rw[NeW];exact ownsRow_setCell_below hown1 (a:=⟨ob,0,none⟩) (by simp) _
theorem join_any(ao bo:Option Addr)(n m c1 c2:Nat)(xs ys:List Int)(w:World)(hx:Rd w 1 ao n c1 (ints .i64 xs))(hy:Rd w 1 bo m c2 (ints .i64 ys))(hb:(max n m+1) * 8≤140737488355328) :
 Calls Tryz.prog 87 #[.slice ao n c1,.slice bo m c2] w fun e w'=>Below w.heap.size w w' ∧
  ∃ ao' n' cap',e=.returned (.slice ao' n' cap')∧w'.ownsRow w.heap.size 2 1 (.slice ao' n' cap') n' (ints .i64 (NbD xs ys)):=by
 have hlx:=Lib.hid hx.intLen;have hly:=Lib.hid hy.intLen;have HB:=Lib.hid hb;clear hb
 go_enter Tryz.func87,Tryz.ntmps87
 go_wp2_with fail
 refine(Nlu ao bo n m c1 c2 xs ys _ (fun k wr=>Below w.heap.size w wr∧∃ ao' cap',wr.heap[w.heap.size]? = some (.cells #[.slice ao' k cap'] 31 (0,0))∧wr.ownsRow (w.heap.size+1) 2 1 (.slice ao' k cap') k (ints .i64 ((NbD xs ys).take k)))
  (fun _=>true) 119 _ (hx.keep (Holds.of_below ((Below.refl _ _).alloc (Nat.le_refl _) _))) (hy.keep (Holds.of_below ((Below.refl _ _).alloc (Nat.le_refl _) _))) (Nfe Tryz.func119 (by kernel_rfl) (by kernel_rfl)) ?_ ?_ ?_).mono ?_
 ·rintro k wk hk ⟨hbl,ao',cap',hcell,hown⟩;refine(Nj1 _ _ _ wk ao' k cap' _ hcell hown (by have:=HB.out;omega)).mono ?_;rintro e w' ⟨rfl,hb1,ao2,cap2,hc2,hown2⟩;refine⟨rfl,hbl.trans hb1,ao2,cap2,hc2,?_⟩;rw[NeY _ _ _ (by have:=hlx.out;have:=hly.out;omega)];exact hown2
 ·rintro k wk ⟨hbl,_⟩;exact⟨hx.keep (Holds.of_below hbl),hy.keep (Holds.of_below hbl)⟩
 ·exact⟨(Below.refl _ _).alloc (Nat.le_refl _) _,none,0,heap_alloc_new w _,World.ownsRow_nil _ _ _ _⟩
 ·rintro e w' ⟨rfl,k,hk,⟨hbl,ao',cap',hcell,hown⟩,_,hend⟩;have hk2:k=max xs.length ys.length:=by
   rcases hend with h|h
   ·have:=hlx.out;have:=hly.out;omega
   ·exact absurd h.2 (by simp)
  rw[hk2,Nfs,←hk2]at hown;have hc1:=cell_of_one hcell;have Hr:=Lib.hid (And.intro hbl hown);clear hbl hown hcell hend hk2
  go_wp2_with fail
  go_ret
  exact⟨Hr.out.1,ao',k,cap',rfl,Nmg Hr.out.2 (by omega)⟩
end Go.Proofs.YtafdphmhbnjfaaaGreatDoor
