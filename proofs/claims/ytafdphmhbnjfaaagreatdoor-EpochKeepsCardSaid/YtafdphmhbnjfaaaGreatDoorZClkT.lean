/-
 What slices.Clone (of numbers) and clock.Tick compute. Condition: the lists' bytes are within 2^47.
-/
import Derived.Test.YtafdphmhbnjfaaaGreatDoorZClkW
import Derived.Lib.SliceRun
set_option linter.unusedVariables false
set_option maxHeartbeats 400000
namespace Go.Proofs.YtafdphmhbnjfaaaGreatDoor
open Go.RowKit Go.Am
def slen:Value→Nat|.slice _ n _=>n|_=>0
theorem NeA(ao:Option Addr)(n cap:Nat)(xs:List Int)(w:World)(hx:Rd w 1 ao n cap (ints .i64 xs))(hb:n * 8≤140737488355328) :
 Calls Tryz.prog 24 #[.slice ao n cap] w fun e w'=>Below w.heap.size w w' ∧
  ∃ ao' cap',e=.returned (.slice ao' n cap')∧w'.ownsRow w.heap.size 2 1 (.slice ao' n cap') n (ints .i64 xs):=by
 have hnil:=fun w=>Lib.run_eql_slice_nil (P:=Tryz.prog) w 31 2 ao n cap 0 0 Tryz.underlying31;cases ao with
 |none =>
   obtain⟨rfl,rfl⟩:=hx.nil rfl;have hl:ints .i64 xs=[]:=List.eq_nil_of_length_eq_zero (by simpa using hx.len);have Hl:=Lib.hid hl;clear hl;clear hx
   go_enter Tryz.func24,Tryz.ntmps24
   go_wp2_with fail
   go_ret
   refine⟨Below.refl _ _,none,0,rfl,?_⟩;rw[Hl.out];exact World.ownsRow_nil _ _ _ _
 |some ad =>
   go_enter Tryz.func24,Tryz.ntmps24
   go_wp2_with (at_builtin;refine NdV el_i64 rfl (.tmp 5) (.tmp 6) rfl rfl (World.ownsRow_lit w #[] 0 (Nat.le_refl _) (by decide) rfl) rfl (hx.keep (Holds.of_below ((Below.refl _ _).alloc (Nat.le_refl _) _))) (NlW _ _) (by omega) (by simp) ?_)
   intro ao' cap' w1 hown1 hg;have hb1:Below w.heap.size w w1:=((Below.refl _ w).alloc (Nat.le_refl _) _).grown hg (by simp) (fun k hk=>by simp[Value.ownBlock]at hk;omega);have Hr:=Lib.hid (And.intro hb1 hown1);clear hb1 hown1 hg
   go_wp2_with fail
   go_ret
   refine⟨Hr.out.1,ao',cap',by simp,?_⟩;simpa using Hr.out.2
theorem Nmx(ao:Option Addr)(n cap:Nat)(xs:List Int)(t:Int)(w:World)(hx:Rd w 1 ao n cap (ints .i64 xs))(hb:n * 8≤140737488355328)(ht:t<0∨63<t) :
 Calls Tryz.prog 56 #[.slice ao n cap,.int .i64 t] w fun e w'=>Below w.heap.size w w' ∧
  ∃ ao' n' cap',e=.returned (.slice ao' n' cap')∧w'.ownsRow w.heap.size 2 1 (.slice ao' n' cap') n' (ints .i64 (Nb8 xs t)):=by
 rw[NkS ht];rcases Int.lt_or_le t 0 with h0|h0
 ·clear ht
  go_enter Tryz.func56,Tryz.ntmps56
  go_wp2_with fail
  refine(NeA ao n cap xs w hx hb).mono ?_;rintro e w1 ⟨hb1,ao',cap',rfl,hown⟩;have Hr:=Lib.hid (And.intro hb1 hown);clear hb1 hown
  go_wp2_with fail
  go_ret
  exact⟨Hr.out.1,ao',n,cap',rfl,Hr.out.2⟩
 ·have h1:63<t:=by omega
  clear ht
  go_enter Tryz.func56,Tryz.ntmps56
  go_wp2_with fail
  refine(NeA ao n cap xs w hx hb).mono ?_;rintro e w1 ⟨hb1,ao',cap',rfl,hown⟩;have Hr:=Lib.hid (And.intro hb1 hown);clear hb1 hown
  go_wp2_with fail
  go_ret
  exact⟨Hr.out.1,ao',n,cap',rfl,Hr.out.2⟩
theorem NoB(ao:Option Addr)(n cap:Nat)(xs:List Int)(t:Nat)(w:World)(hx:Rd w 1 ao n cap (ints .i64 xs))(hw:wf64 xs)(hb:(n+64) * 8≤140737488355328)(ht:t≤63) :
 Calls Tryz.prog 56 #[.slice ao n cap,.int .i64 t] w fun e w'=>Below w.heap.size w w' ∧
  ∃ ao' n' cap',e=.returned (.slice ao' n' cap')∧w'.ownsRow w.heap.size 2 1 (.slice ao' n' cap') n' (ints .i64 (Nb8 xs t)):=by
 rw[Nc9 (by omega) (by omega),Int.toNat_natCast];have hl:=Lib.hid hx.intLen
 go_enter Tryz.func56,Tryz.ntmps56
 go_wp2_with fail
 refine(NeA ao n cap xs w hx (by omega)).mono ?_;rintro e w1 ⟨hb1,ao',cap',rfl,hown⟩;have Hr:=Lib.hid (And.intro hb1 hown);clear hb1 hown
 go_wp2_with fail
 go_loopw [5] (fun v wr=>∃ k ao2 cap2,v=.slice ao2 k cap2∧n≤k∧k≤max n (t+1)∧Hid (Below w.heap.size w wr∧wr.ownsRow w.heap.size 2 1 (.slice ao2 k cap2) k (ints .i64 (xs++List.replicate (k - n) 0)))) (fun v _=>t+1 - slen v)
 case atStart=>exact⟨n,ao',cap',rfl,by omega,by omega,by have:=Hr.out;rw[Nat.sub_self,List.replicate_zero,List.append_nil];exact this⟩
 case round =>
  obtain⟨k,ao2,cap2,rfl,hk1,hk2,H⟩:=hrel;by_cases hlt:k≤t
  ·have hbw:=H.out.1.size
   go_wp2_with (at_builtin;refine NdV el_i64 rfl (.tmp 19) (.tmp 20) rfl rfl (H.out.2.alloc _) rfl (Rd.new wr 1 1 #[.int .i64 0] _ rfl (by omega)) (by intro u hu;simp at hu;subst hu;rfl) (by omega) (by simp;omega) ?_)
   intro ao3 cap3 w2 hown2 hg;have hb2:Below w.heap.size w w2:=(H.out.1.alloc (by omega) _).grown hg (by simp;omega) (fun b hb=>(H.out.2.lt b hb).1);have H2:=Lib.hid (And.intro hb2 hown2);clear hb2 hown2 hg
   go_wp2_with fail
   go_roundw
   case rel =>
    refine⟨k+1,ao3,cap3,rfl,by omega,by omega,H2.out.1,?_⟩;have e:ints .i64 (xs++List.replicate (k - n) 0)++[Value.int .i64 0]=ints .i64 (xs++List.replicate (k+1 - n) 0):=by
     rw[show k+1 - n=(k - n)+1 by omega,List.replicate_succ',←List.append_assoc,NeW (ys:=[0])];rfl
    rw[←e];exact H2.out.2
   case measure=>simp[slen];omega
  ·have hke:k=max n (t+1):=(by omega);have hL:xs++List.replicate (k - n) 0=Ndu xs t:=(by unfold Ndu;rw[hl.out,hke];congr 2;omega);have hown:=H.out.2;rw[hL]at hown;obtain⟨g,rfl,hg1,hg2⟩:=Nmh hown (by omega);have hrd:=NpA hown;have hix:=NhC (P:=Tryz.prog) hrd Tryz.underlying31 el_i64.sz .i64;have hcx:=hrd.intCell t (by omega);have hfz:=World.ownsRow.frozenAt hown t;have Hown:=Lib.hid hown;clear hown;have Hb:=Lib.hid H.out.1;clear H hL hke;have hl3:=hrd.lemax;have hl4:=hrd.lecap;have Hrd:=Lib.hid hrd;clear hrd;simp only[NhY,Nir,Nat.zero_add]at hcx;by_cases hm:gi (Ndu xs t) t<9223372036854775807
   ·obtain⟨x,hxe⟩:∃ x,x=gi (Ndu xs t) t:=⟨_,rfl⟩;have Hm:Hid (Nde xs t=(Ndu xs t).set t (gi (Ndu xs t) t+1)):=(by unfold Nde;exact if_pos hm);rw[←hxe]at hcx hm Hm;have hmin:-9223372036854775808≤x:=(by have:=(hw.gi t).1;rw[hxe,Nee];exact this);clear hxe
    go_wp2_with fail
    go_ret
    refine⟨Hb.out.setCell (p:=⟨g,t,none⟩) hg1 _,_,k,_,rfl,?_⟩;rw[Hm.out];have:=(World.ownsRow.stored Hown.out t (.int .i64 (x+1))).1;simpa[ints]using this
   ·have Hm:Hid (Nde xs t=Ndu xs t):=by unfold Nde;exact if_neg hm
    go_wp2_with fail
    go_ret
    refine⟨Hb.out,_,k,_,rfl,?_⟩;rw[Hm.out];exact Hown.out
theorem tick_any(ao:Option Addr)(n cap:Nat)(xs:List Int)(t:Int)(w:World)(hx:Rd w 1 ao n cap (ints .i64 xs))(hw:wf64 xs)(hb:(n+64) * 8≤140737488355328) :
 Calls Tryz.prog 56 #[.slice ao n cap,.int .i64 t] w fun e w'=>Below w.heap.size w w' ∧
  ∃ ao' n' cap',e=.returned (.slice ao' n' cap')∧w'.ownsRow w.heap.size 2 1 (.slice ao' n' cap') n' (ints .i64 (Nb8 xs t)):=by
 by_cases h:t<0∨63<t
 ·exact Nmx ao n cap xs t w hx (by omega) h
 ·obtain⟨k,rfl⟩:=Int.eq_ofNat_of_zero_le (show 0≤t by omega);exact NoB ao n cap xs k w hx hw hb (by omega)
end Go.Proofs.YtafdphmhbnjfaaaGreatDoor
