/-
 The statement EpochKeeps: for every input the law returns true, and each argument reads as it did. No condition.
-/
import Derived.SizedLaws
import Derived.LaidMore
import Derived.LaidHandle
import Derived.LaidLaws
import Derived.HandedShaped
import Derived.SevenTiedAt
import Derived.Test.YtafdphmhbnjfaaaGreatDoorZEpoY
import Derived.Test.YtafdphmhbnjfaaaGreatDoorZView
import Derived.Test.YtafdphmhbnjfaaaGreatDoorCards
import Derived.Test.YtafdphmhbnjfaaaGreatDoorTie
set_option linter.unusedVariables false
namespace Go.Pe
open Go
variable {H : Type}{enc : TypeId×Value→H}
theorem Nlt{a : Assume}{C : Checked}{os : Os}{f : FuncId}{fn : Func}{s : ChangeSpec}{conds : List PathCond}{apart fresh handsOn again : Bool}{X : World→Array Value→Prop}
 (hX : ∀ (w w' : World) (args : Array Value),w.heap=w'.heap→X w args→X w' args)
 (own : ownKnob C.prog.godebug=none) (started : os.Started) (noInit : C.prog.inits.idxOf? f=none) (hfn : C.prog.funcs[f]? = some fn)
 (witness : ∃ (w : World) (tape : Tape) (i : Input),w.os=os∧(w.forCall tape i).Shaped C.prog∧i.vars=[]∧Input.okWide C.prog (w.forCall tape i) .any w.heap.size f i ∧
  ((s.pre enc C.prog fn conds apart (w.forCall tape i).memory i.args∧X (w.forCall tape i).memory i.args)∧sizedMet enc C.prog fn (OpenSpec.ofChange s) apart (w.forCall tape i).memory i.args)∧a.holds C.prog (lone (Frame.enter C.prog f i.args .normal) [] (w.forCall tape i)))
 (contract : ∀ (W : World) (base : Nat) (args : Array Value) (ds gs : List (DataW H)) (before : List MemPlace),
  (∀ (j : Nat) t v,fn.params[j]? = some t→args[j]? = some v→Value.okWide C.prog W .any base t v) →
  DataW.Whole enc C.prog fn.params.toList s.vars apart W args.toList ds gs before →
  conds.all (PathCond.test C.prog ⟨fn.params.toList,ds,s.plain.varTypes C.prog,gs⟩)=true →
  (DataW.weightsEach C.prog (fn.params.toList++s.plain.varTypes C.prog) (ds++gs)).all (·≤reachBytes)=true→X W args →
  W.ShapedOpen C.prog →
  a.holds C.prog (lone (Frame.enter C.prog f args .normal) [] W) →
  Calls C.prog f args W fun e W'=>∃ v,e=.returned v∧s.post enc C.prog fn apart fresh handsOn again W args v W') :
 ReturnsInHanded a C os f .any (fun w args=>(s.pre enc C.prog fn conds apart w args∧X w args)∧sizedMet enc C.prog fn (OpenSpec.ofChange s) apart w args) (s.post enc C.prog fn apart fresh handsOn again):=by
 refine returnsInHanded_of_calls own started noInit witness ?_;intro w tape i _ hsh _ hok hpre hholds;obtain⟨_,_,_,fn',hfn',_,_,_,_,hval⟩:=hok;have e : fn'=fn:=Option.some.inj (hfn'.symm.trans hfn);subst e;obtain⟨⟨⟨ds,gs,before,hw,hc⟩,hx⟩,hz⟩:=hpre;have hw':=DataW.Whole.of_heap (w':=w.forCall tape i) (by rfl) hw;refine(contract (w.forCall tape i) w.heap.size i.args ds gs before hval hw' hc (hz.weights hw) (hX _ _ _ (by rfl) hx) hsh hholds).mono fun e W' ⟨v,he,hp⟩=>?_;subst he;exact ChangeSpec.post_blind hp
end Go.Pe
set_option maxRecDepth 100000
namespace Go.Proofs.YtafdphmhbnjfaaaGreatDoor.epochKeeps
open Go.ChangeShapes Go.WideShapes Go.ChangeAt Go.RowKit Go.Am Go.Pe
open Go.ChangeMaps (open_string shut_string)
theorem own : ownKnob Tryz.prog.godebug=none:=by kernel_rfl
theorem door_met(os : Os)(args : Array Value) : laidMetH Tryz.prog Rows.epochKeepsRow.laid ((World.doorLaid Tryz.prog 24 os).forCall (fun _ _=>0) ⟨#[],args,[]⟩).memory :=
 laidMetH_of_parts3 (fuel:=8) (laidMet_of_run' 8 (by kernel_rfl) (by kernel_rfl)) (by kernel_rfl) (by kernel_rfl)
theorem laidOut : laidOutB Tryz.prog=true:=by kernel_rfl
theorem lifted(os : Os)(started : os.Started)(H : Type)(enc : TypeId×Value→H) :
 ReturnsInHanded {} Tryz.checked os 3 .any (fun w args=>(Rows.epochKeepsSpec.pre enc Tryz.prog Tryz.f3 [] false w args∧laidMetH Tryz.prog Rows.epochKeepsRow.laid w)∧sizedMet enc Tryz.prog Tryz.f3 (OpenSpec.ofChange Rows.epochKeepsSpec) false w args) (Rows.epochKeepsSpec.post enc Tryz.prog Tryz.f3 false true false false):=by
 refine Nlt (C:=Tryz.checked) (X:=fun w _=>laidMetH Tryz.prog Rows.epochKeepsRow.laid w) (fun _ _ _ hh h=>h.of_heap hh) own started (by kernel_rfl) Tryz.func3
  (ChangeSpec.witness_shaped (enc:=enc) (C:=Tryz.checked) (os:=os) (X:=fun w _=>laidMetH Tryz.prog Rows.epochKeepsRow.laid w) false (World.doorLaid Tryz.prog 24 os) #[.agg #[.slice none 0 0,.slice none 0 0],.slice none 0 0,.slice none 0 0] 8 rfl (World.shaped_of_RefB (by kernel_rfl) (by kernel_rfl)) (by kernel_rfl) (by kernel_rfl) (by kernel_rfl) (door_met os _)) ?_
 intro W base args ds gs before hval0 hW hcnd hsz0 hL hsh _;have hsz : (DataW.weightsEach Tryz.prog (Tryz.f3.params.toList++Rows.epochKeepsSpec.plain.varTypes Tryz.prog) (ds++gs)).all (·≤reachBytes)=true:=hsz0;clear hsz0;have hval : ∀ (j : Nat) t v,Tryz.f3.params[j]? = some t→args[j]? = some v→Value.okWide Tryz.prog W .any base t v:=hval0;have hW':=hW;obtain⟨p,q,hA0,hV,rfl,hfz,hnd⟩:=hW;have hA : DataW.TrodAll enc Tryz.prog W 0 (fun _=>true) true Tryz.f3.params.toList args.toList ds p:=hA0;rw[Tryz.params3]at hA hval hsz;obtain⟨v0,vs0,d0,ds0,p0,q0,hargs,rfl,rfl,h0,r0⟩:=trodAll_cons hA;obtain⟨v1,vs1,d1,ds1,p1,q1,rfl,rfl,rfl,h1,r1⟩:=trodAll_cons r0;obtain⟨v2,vs2,d2,ds2,p2,q2,rfl,rfl,rfl,h2,r2⟩:=trodAll_cons r1;obtain⟨rfl,rfl,rfl⟩:=trodAll_nil r2;obtain rfl : args=#[v0,v1,v2]:=by cases args;simp_all
 obtain⟨rfl,rfl⟩:=trodVars_none hV;have k0:=h0;have lt0 : ∀ x∈p0,x.block<W.heap.size:=by obtain⟨m,hm⟩:=k0;exact DataW.trod_lt m _ _ _ hm
 have sm0 : Small Tryz.prog 25 d0:=Nfi hsz 0 rfl (by simp);obtain⟨f0,z0,fr0,i0⟩:=NmA (E:=Njw) Tryz.underlying25 (fun f=>by rw[NoX];kernel_rfl) (fun f=>Nle f f (Nat.le_refl f)) (fun f=>Nnh Tryz.underlying25 (by kernel_rfl) Tryz.underlying22 Tryz.underlying23 (by kernel_rfl) (by kernel_rfl) (by kernel_rfl) (by kernel_rfl) (by kernel_rfl) (of_decide_eq_true (by kernel_rfl)) (of_decide_eq_true (by kernel_rfl)) (Nnr Tryz.underlying94 (by kernel_rfl) Tryz.underlying92 Tryz.underlying9 Tryz.underlying2 Tryz.underlying3 (by kernel_rfl) (by kernel_rfl) (by kernel_rfl) (by kernel_rfl) (by kernel_rfl)) (fun n=>NoE Tryz.underlying57 (by kernel_rfl) Tryz.underlying9 Tryz.underlying54 Tryz.underlying55 (by kernel_rfl) (by kernel_rfl) (by kernel_rfl) (by kernel_rfl) (by kernel_rfl) (of_decide_eq_true (by kernel_rfl)) (of_decide_eq_true (by kernel_rfl)) (fun n=>NnS Tryz.underlying61 (by kernel_rfl) Tryz.underlying58 Tryz.underlying36 Tryz.underlying3 Tryz.underlying2 Tryz.underlying59 (by kernel_rfl) (by kernel_rfl) (by kernel_rfl) (by kernel_rfl) (by kernel_rfl) (by kernel_rfl) (by kernel_rfl) (of_decide_eq_true (by kernel_rfl)) (fun n=>NjM Tryz.underlying64 (by kernel_rfl) Tryz.underlying62 Tryz.underlying9 Tryz.underlying2 Tryz.underlying59 (by kernel_rfl) (by kernel_rfl) (by kernel_rfl) (by kernel_rfl) (by kernel_rfl) (of_decide_eq_true (by kernel_rfl)) n) n) n) f) (hval 0 25 v0 rfl rfl) h0 sm0;have k1:=h1;have lt1 : ∀ x∈p1,x.block<W.heap.size:=by obtain⟨m,hm⟩:=k1;exact DataW.trod_lt m _ _ _ hm
 have sm1 : Small Tryz.prog 26 d1:=Nfi hsz 1 rfl (by simp);obtain⟨n1,z1,fr1,l1,b1,i1⟩:=NkY (e:=etSh) Tryz.underlying26 (by kernel_rfl) (hval 1 26 v1 rfl rfl) h1 sm1;have k2:=h2;have lt2 : ∀ x∈p2,x.block<W.heap.size:=by obtain⟨m,hm⟩:=k2;exact DataW.trod_lt m _ _ _ hm
 have sm2 : Small Tryz.prog 27 d2:=Nfi hsz 2 rfl (by simp);obtain⟨n2,z2,fr2,l2,b2,i2⟩:=NkY (e:=Sh.b) Tryz.underlying27 (by kernel_rfl) (hval 2 27 v2 rfl rfl) h2 sm2;clear hA0 hval0;obtain⟨m,hm⟩:=NhH hsh;obtain⟨cd,hwf,fuel,hev⟩:=Nj3 (f0) (z0) (i0) (n1) (z1) (l1) (b1) (i1) (n2) (z2) (l2) (b2) (i2);refine(Nl2 (Gl:=NqD 0 0 (.int .i64 m)) (F:=Njg W) (NjL (NhZ (cd:=cd) (hwf:=hwf) (m:=m) (by simp[NqD])) fuel 3) (fun _ _ _ h=>h) (Nod hm) (FC.cons fr0 (FC.cons fr1 (FC.cons fr2 FC.nil))) hev).mono fun e W' ⟨he,bel⟩=>?_;subst he;exact⟨_,rfl,_,_,_,[],_,[],hW',trodAll_mk1 (shut_bool Tryz.underlying4 _),(trodAll_cons_mk (Below.trod laidOut (by kernel_rfl) (of_decide_eq_true (by kernel_rfl)) k0 bel lt0) (trodAll_cons_mk (Below.trod laidOut (by kernel_rfl) (of_decide_eq_true (by kernel_rfl)) k1 bel lt1) (trodAll_cons_mk (Below.trod laidOut (by kernel_rfl) (of_decide_eq_true (by kernel_rfl)) k2 bel lt2) trodAll_mk0))),rfl,bel.frame _,fun h=>by cases h⟩
theorem over : Rows.epochKeepsRow.holds Tryz.pinned (OpenSpec.ofChange Rows.epochKeepsSpec) :=
 OpenClaim.holds_of_wide 3 Tryz.f3 rfl rfl rfl rfl rfl rfl rfl ⟨rfl,rfl,rfl,rfl,rfl⟩ rfl rfl rfl rfl rfl (by kernel_rfl) Tryz.func3 (by kernel_rfl)
  (of_decide_eq_true (by kernel_rfl)) (by unfold Func.isWrapper;first|(rw[if_pos (by decide +kernel)];kernel_rfl)|(rw[if_neg (by decide +kernel)];exact⟨rfl,rfl⟩))
  (fun os started H enc _=>lifted os started H enc)
theorem proved : Rows.EpochKeepsCardSaid :=
 Claim7.holds_tied_plain_at .later [] [.data,.data,.data] true Rows.epochKeepsCard.stood.harness false
  over (fun _ h=>by cases h) (by kernel_rfl) (fun _ h=>by cases h) epochKeeps_row_tie rfl ⟨rfl,rfl⟩ (by kernel_rfl) rfl
  (fun f fn hf hfn=>by
   obtain rfl : f = 3 := Option.some.inj ((show Tryz.prog.funcNamed "amanuensis/amanuensislaw23.EpochKeeps" = some 3 by kernel_rfl).symm.trans hf) |>.symm
   obtain rfl : fn=Tryz.f3:=(Option.some.inj (Tryz.func3.symm.trans hfn)).symm;exact⟨by kernel_rfl,fun j t ht=>by
    rw[Tryz.params3]at ht;have hm : t∈[25,26,27]:=(by simpa using Array.mem_of_getElem? ht);have hall : ([25,26,27].all fun u=>!Tryz.prog.wantsStandIn u)=true:=(by kernel_rfl);exact(show Tryz.prog.wantsStandIn t=false by simpa using List.all_eq_true.1 hall t hm)⟩)
  (by kernel_rfl)
#print axioms proved
end Go.Proofs.YtafdphmhbnjfaaaGreatDoor.epochKeeps
