/-
 The statement EpochSame: for every input the law returns true, and each argument reads as it did. No condition.
-/
import Derived.SizedLaws
import Derived.LaidMore
import Derived.LaidHandle
import Derived.LaidLaws
import Derived.HandedShaped
import Derived.SevenTiedAt
import Derived.Test.YtafdphmhbnjfaaaGreatDoorZEpoU
import Derived.Test.YtafdphmhbnjfaaaGreatDoorZView
import Derived.Test.YtafdphmhbnjfaaaGreatDoorCards
import Derived.Test.YtafdphmhbnjfaaaGreatDoorTie
set_option linter.unusedVariables false
namespace Go.Pe
open Go
variable {H : Type}{enc : TypeId×Value→H}
theorem NlK{a : Assume}{C : Checked}{os : Os}{f : FuncId}{fn : Func}{s : ChangeSpec}{conds : List PathCond}{apart fresh handsOn again : Bool}{X : World→Array Value→Prop}
 (hX : ∀ (w w' : World) (args : Array Value),w.heap=w'.heap→X w args→X w' args)
 (own : ownKnob C.prog.godebug=none) (started : os.Started) (noInit : C.prog.inits.idxOf? f=none) (hfn : C.prog.funcs[f]? = some fn)
 (witness : ∃ (w : World) (tape : Tape) (i : Input),w.os=os∧(w.forCall tape i).Shaped C.prog∧i.vars=[]∧Input.okWide C.prog (w.forCall tape i) .any w.heap.size f i ∧
  ((s.pre enc C.prog fn conds apart (w.forCall tape i).memory i.args∧X (w.forCall tape i).memory i.args)∧sizedMet enc C.prog fn (OpenSpec.ofChange s) apart (w.forCall tape i).memory i.args)∧a.holds C.prog (lone (Frame.enter C.prog f i.args .normal) [] (w.forCall tape i)))
 (contract : ∀ (W : World) (base : Nat) (args : Array Value) (ds gs : List (DataW H)) (before : List MemPlace),
  (∀ (j : Nat) t v,fn.params[j]? = some t→args[j]? = some v→Value.okWide C.prog W .any base t v) →
  DataW.Whole enc C.prog fn.params.toList s.vars apart W args.toList ds gs before →
  conds.all (PathCond.test C.prog ⟨fn.params.toList,ds,s.plain.varTypes C.prog,gs⟩)=true →
  (DataW.weightsEach C.prog (fn.params.toList++s.plain.varTypes C.prog) (ds++gs)).all (·≤reachBytes)=true→X W args →
  W.ShapedOpen C.prog →
  a.holds C.prog (lone (Frame.enter C.prog f args .normal) [] W) →
  Calls C.prog f args W fun e W'=>∃ v,e=.returned v∧s.post enc C.prog fn apart fresh handsOn again W args v W') :
 ReturnsInHanded a C os f .any (fun w args=>(s.pre enc C.prog fn conds apart w args∧X w args)∧sizedMet enc C.prog fn (OpenSpec.ofChange s) apart w args) (s.post enc C.prog fn apart fresh handsOn again):=by
 refine returnsInHanded_of_calls own started noInit witness ?_;intro w tape i _ hsh _ hok hpre hholds;obtain⟨_,_,_,fn',hfn',_,_,_,_,hval⟩:=hok;have e : fn'=fn:=Option.some.inj (hfn'.symm.trans hfn);subst e;obtain⟨⟨⟨ds,gs,before,hw,hc⟩,hx⟩,hz⟩:=hpre;have hw':=DataW.Whole.of_heap (w':=w.forCall tape i) (by rfl) hw;refine(contract (w.forCall tape i) w.heap.size i.args ds gs before hval hw' hc (hz.weights hw) (hX _ _ _ (by rfl) hx) hsh hholds).mono fun e W' ⟨v,he,hp⟩=>?_;subst he;exact ChangeSpec.post_blind hp
end Go.Pe
set_option maxRecDepth 100000
namespace Go.Proofs.YtafdphmhbnjfaaaGreatDoor.epochSame
open Go.ChangeShapes Go.WideShapes Go.ChangeAt Go.RowKit Go.Am Go.Pe
open Go.ChangeMaps (open_string shut_string)
theorem own : ownKnob Tryz.prog.godebug=none:=by kernel_rfl
theorem door_met(os : Os)(args : Array Value) : laidMetH Tryz.prog Rows.epochSameRow.laid ((World.doorLaid Tryz.prog 24 os).forCall (fun _ _=>0) ⟨#[],args,[]⟩).memory :=
 laidMetH_of_parts3 (fuel:=8) (laidMet_of_run' 8 (by kernel_rfl) (by kernel_rfl)) (by kernel_rfl) (by kernel_rfl)
theorem laidOut : laidOutB Tryz.prog=true:=by kernel_rfl
theorem lifted(os : Os)(started : os.Started)(H : Type)(enc : TypeId×Value→H) :
 ReturnsInHanded {} Tryz.checked os 4 .any (fun w args=>(Rows.epochSameSpec.pre enc Tryz.prog Tryz.f4 [] false w args∧laidMetH Tryz.prog Rows.epochSameRow.laid w)∧sizedMet enc Tryz.prog Tryz.f4 (OpenSpec.ofChange Rows.epochSameSpec) false w args) (Rows.epochSameSpec.post enc Tryz.prog Tryz.f4 false true false false):=by
 refine NlK (C:=Tryz.checked) (X:=fun w _=>laidMetH Tryz.prog Rows.epochSameRow.laid w) (fun _ _ _ hh h=>h.of_heap hh) own started (by kernel_rfl) Tryz.func4
  (ChangeSpec.witness_shaped (enc:=enc) (C:=Tryz.checked) (os:=os) (X:=fun w _=>laidMetH Tryz.prog Rows.epochSameRow.laid w) false (World.doorLaid Tryz.prog 24 os) #[.agg #[.slice none 0 0,.slice none 0 0],.slice none 0 0] 8 rfl (World.shaped_of_RefB (by kernel_rfl) (by kernel_rfl)) (by kernel_rfl) (by kernel_rfl) (by kernel_rfl) (door_met os _)) ?_
 intro W base args ds gs before hval0 hW hcnd hsz0 hL hsh _;have hsz : (DataW.weightsEach Tryz.prog (Tryz.f4.params.toList++Rows.epochSameSpec.plain.varTypes Tryz.prog) (ds++gs)).all (·≤reachBytes)=true:=hsz0;clear hsz0;have hval : ∀ (j : Nat) t v,Tryz.f4.params[j]? = some t→args[j]? = some v→Value.okWide Tryz.prog W .any base t v:=hval0;have hW':=hW;obtain⟨p,q,hA0,hV,rfl,hfz,hnd⟩:=hW;have hA : DataW.TrodAll enc Tryz.prog W 0 (fun _=>true) true Tryz.f4.params.toList args.toList ds p:=hA0;rw[Tryz.params4]at hA hval hsz;obtain⟨v0,vs0,d0,ds0,p0,q0,hargs,rfl,rfl,h0,r0⟩:=trodAll_cons hA;obtain⟨v1,vs1,d1,ds1,p1,q1,rfl,rfl,rfl,h1,r1⟩:=trodAll_cons r0;obtain⟨rfl,rfl,rfl⟩:=trodAll_nil r1;obtain rfl : args=#[v0,v1]:=by cases args;simp_all
 obtain⟨rfl,rfl⟩:=trodVars_none hV;have k0:=h0;have lt0 : ∀ x∈p0,x.block<W.heap.size:=by obtain⟨m,hm⟩:=k0;exact DataW.trod_lt m _ _ _ hm
 have sm0 : Small Tryz.prog 25 d0:=Nhc hsz 0 rfl (by simp);obtain⟨f0,z0,fr0,i0⟩:=NmR (E:=NjI) Tryz.underlying25 (fun f=>by rw[Npb];kernel_rfl) (fun f=>Nlv f f (Nat.le_refl f)) (fun f=>Nnu Tryz.underlying25 (by kernel_rfl) Tryz.underlying22 Tryz.underlying23 (by kernel_rfl) (by kernel_rfl) (by kernel_rfl) (by kernel_rfl) (by kernel_rfl) (of_decide_eq_true (by kernel_rfl)) (of_decide_eq_true (by kernel_rfl)) (NnF Tryz.underlying94 (by kernel_rfl) Tryz.underlying92 Tryz.underlying9 Tryz.underlying2 Tryz.underlying3 (by kernel_rfl) (by kernel_rfl) (by kernel_rfl) (by kernel_rfl) (by kernel_rfl)) (fun n=>NoQ Tryz.underlying57 (by kernel_rfl) Tryz.underlying9 Tryz.underlying54 Tryz.underlying55 (by kernel_rfl) (by kernel_rfl) (by kernel_rfl) (by kernel_rfl) (by kernel_rfl) (of_decide_eq_true (by kernel_rfl)) (of_decide_eq_true (by kernel_rfl)) (fun n=>Nn6 Tryz.underlying61 (by kernel_rfl) Tryz.underlying58 Tryz.underlying36 Tryz.underlying3 Tryz.underlying2 Tryz.underlying59 (by kernel_rfl) (by kernel_rfl) (by kernel_rfl) (by kernel_rfl) (by kernel_rfl) (by kernel_rfl) (by kernel_rfl) (of_decide_eq_true (by kernel_rfl)) (fun n=>NjY Tryz.underlying64 (by kernel_rfl) Tryz.underlying62 Tryz.underlying9 Tryz.underlying2 Tryz.underlying59 (by kernel_rfl) (by kernel_rfl) (by kernel_rfl) (by kernel_rfl) (by kernel_rfl) (of_decide_eq_true (by kernel_rfl)) n) n) n) f) (hval 0 25 v0 rfl rfl) h0 sm0;have k1:=h1;have lt1 : ∀ x∈p1,x.block<W.heap.size:=by obtain⟨m,hm⟩:=k1;exact DataW.trod_lt m _ _ _ hm
 have sm1 : Small Tryz.prog 26 d1:=Nhc hsz 1 rfl (by simp);obtain⟨n1,z1,fr1,l1,b1,i1⟩:=NoR (e:=etSh) Tryz.underlying26 (by kernel_rfl) (hval 1 26 v1 rfl rfl) h1 sm1;clear hA0 hval0;obtain⟨m,hm⟩:=NhM hsh;obtain⟨cd,hwf,fuel,hev⟩:=NmD (f0) (z0) (i0) (n1) (z1) (l1) (b1) (i1);refine(Nmf (Gl:=NqX 0 0 (.int .i64 m)) (F:=Njs W) (NjX (Nh5 (cd:=cd) (hwf:=hwf) (m:=m) (by simp[NqX])) fuel 4) (fun _ _ _ h=>h) (Non hm) (FC.cons fr0 (FC.cons fr1 FC.nil)) hev).mono fun e W' ⟨he,bel⟩=>?_;subst he;exact⟨_,rfl,_,_,_,[],_,[],hW',trodAll_mk1 (shut_bool Tryz.underlying4 _),(trodAll_cons_mk (Below.trod laidOut (by kernel_rfl) (of_decide_eq_true (by kernel_rfl)) k0 bel lt0) (trodAll_cons_mk (Below.trod laidOut (by kernel_rfl) (of_decide_eq_true (by kernel_rfl)) k1 bel lt1) trodAll_mk0)),rfl,bel.frame _,fun h=>by cases h⟩
theorem over : Rows.epochSameRow.holds Tryz.pinned (OpenSpec.ofChange Rows.epochSameSpec) :=
 OpenClaim.holds_of_wide 4 Tryz.f4 rfl rfl rfl rfl rfl rfl rfl ⟨rfl,rfl,rfl,rfl,rfl⟩ rfl rfl rfl rfl rfl (by kernel_rfl) Tryz.func4 (by kernel_rfl)
  (of_decide_eq_true (by kernel_rfl)) (by unfold Func.isWrapper;first|(rw[if_pos (by decide +kernel)];kernel_rfl)|(rw[if_neg (by decide +kernel)];exact⟨rfl,rfl⟩))
  (fun os started H enc _=>lifted os started H enc)
theorem proved : Rows.EpochSameCardSaid :=
 Claim7.holds_tied_plain_at .later [] [.data,.data,.data] true Rows.epochSameCard.stood.harness false
  over (fun _ h=>by cases h) (by kernel_rfl) (fun _ h=>by cases h) epochSame_row_tie rfl ⟨rfl,rfl⟩ (by kernel_rfl) rfl
  (fun f fn hf hfn=>by
   obtain rfl : f = 4 := Option.some.inj ((show Tryz.prog.funcNamed "amanuensis/amanuensislaw23.EpochSame" = some 4 by kernel_rfl).symm.trans hf) |>.symm
   obtain rfl : fn=Tryz.f4:=(Option.some.inj (Tryz.func4.symm.trans hfn)).symm;exact⟨by kernel_rfl,fun j t ht=>by
    rw[Tryz.params4]at ht;have hm : t∈[25,26]:=(by simpa using Array.mem_of_getElem? ht);have hall : ([25,26].all fun u=>!Tryz.prog.wantsStandIn u)=true:=(by kernel_rfl);exact(show Tryz.prog.wantsStandIn t=false by simpa using List.all_eq_true.1 hall t hm)⟩)
  (by kernel_rfl)
#print axioms proved
end Go.Proofs.YtafdphmhbnjfaaaGreatDoor.epochSame
