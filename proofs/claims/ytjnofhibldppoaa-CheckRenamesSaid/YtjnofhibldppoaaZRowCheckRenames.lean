/-
 The statement CheckRenames: for every input the law returns true, and each argument reads as it did. No condition.
-/
import Derived.Test.YtjnofhibldppoaaZRnmI
import Derived.Test.YtjnofhibldppoaaZView
import Derived.HandedShaped
set_option linter.unusedVariables false
set_option maxRecDepth 100000
namespace Go.Proofs.Ytjnofhibldppoaa.checkRenames
open Go.ChangeShapes Go.WideShapes Go.ChangeAt Go.RowKit Go.Am Go.Pe
open Go.ChangeMaps (open_string shut_string)
theorem own : ownKnob Try.prog.godebug=none:=by kernel_rfl
theorem laidOut : laidOutB Try.prog=true:=by kernel_rfl
theorem lifted(os : Os)(started : os.Started)(H : Type)(enc : TypeId×Value→H) :
 ReturnsInHanded {} Try.checked os 7 .any (Rows.checkRenamesSpec.pre6 enc Try.prog Try.f7 Rows.checkRenamesRow.domain false) (Rows.checkRenamesSpec.post enc Try.prog Try.f7 false true false false):=by
 refine returnsInHanded_of_change_shaped (C:=Try.checked) own started (by kernel_rfl) Try.func7
  (ChangeSpec.witness6 (enc:=enc) (C:=Try.checked) false ⟨#[],#[.agg #[.slice none 0 0,.slice none 0 0],.int .u8 0],[]⟩ 8 (by kernel_rfl) (by kernel_rfl) (by kernel_rfl) (by kernel_rfl)) ?_
 intro W base args ds gs before hval0 hW hcnd hsz0 hsh _;have hsz : (DataW.weightsEach Try.prog (Try.f7.params.toList++Rows.checkRenamesSpec.plain.varTypes Try.prog) (ds++gs)).all (·≤reachBytes)=true:=hsz0;clear hsz0;have hval : ∀ (j : Nat) t v,Try.f7.params[j]? = some t→args[j]? = some v→Value.okWide Try.prog W .any base t v:=hval0;have hW':=hW;obtain⟨p,q,hA0,hV,rfl,hfz,hnd⟩:=hW;have hA : DataW.TrodAll enc Try.prog W 0 (fun _=>true) true Try.f7.params.toList args.toList ds p:=hA0;rw[Try.params7]at hA hval hsz;obtain⟨v0,vs0,d0,ds0,p0,q0,hargs,rfl,rfl,h0,r0⟩:=trodAll_cons hA;obtain⟨v1,vs1,d1,ds1,p1,q1,rfl,rfl,rfl,h1,r1⟩:=trodAll_cons r0;obtain⟨rfl,rfl,rfl⟩:=trodAll_nil r1;obtain rfl : args=#[v0,v1]:=by cases args;simp_all
 obtain⟨rfl,rfl⟩:=trodVars_none hV;have k0:=h0;have lt0 : ∀ x∈p0,x.block<W.heap.size:=by obtain⟨m,hm⟩:=k0;exact DataW.trod_lt m _ _ _ hm
 have sm0 : Small Try.prog 25 d0:=NkS hsz 0 rfl (by simp);obtain⟨f0,z0,fr0,i0⟩:=Nmw (E:=NkB) Try.underlying25 (fun f=>by rw[NpO];kernel_rfl) (fun f=>Nmf f f (Nat.le_refl f)) (fun f=>Nop Try.underlying25 (by kernel_rfl) Try.underlying22 Try.underlying23 (by kernel_rfl) (by kernel_rfl) (by kernel_rfl) (by kernel_rfl) (by kernel_rfl) (of_decide_eq_true (by kernel_rfl)) (of_decide_eq_true (by kernel_rfl)) (Nnn Try.underlying35 (by kernel_rfl) Try.underlying33 Try.underlying9 Try.underlying2 Try.underlying3 (by kernel_rfl) (by kernel_rfl) (by kernel_rfl) (by kernel_rfl) (by kernel_rfl)) (fun n=>NoA Try.underlying39 (by kernel_rfl) Try.underlying9 Try.underlying3 Try.underlying37 (by kernel_rfl) (by kernel_rfl) (by kernel_rfl) (by kernel_rfl) (by kernel_rfl) (of_decide_eq_true (by kernel_rfl)) (fun n=>NkR Try.underlying49 (by kernel_rfl) Try.underlying46 Try.underlying44 Try.underlying9 Try.underlying2 Try.underlying3 Try.underlying47 Try.underlying37 (by kernel_rfl) (by kernel_rfl) (by kernel_rfl) (by kernel_rfl) (by kernel_rfl) (by kernel_rfl) (by kernel_rfl) (by kernel_rfl) (by kernel_rfl) (of_decide_eq_true (by kernel_rfl)) (of_decide_eq_true (by kernel_rfl)) (fun n=>NjQ Try.underlying59 (by kernel_rfl) Try.underlying57 Try.underlying9 Try.underlying2 Try.underlying47 (by kernel_rfl) (by kernel_rfl) (by kernel_rfl) (by kernel_rfl) (by kernel_rfl) (of_decide_eq_true (by kernel_rfl)) n) n) n) f) (hval 0 25 v0 rfl rfl) h0 sm0;obtain⟨x1,rfl,rfl,rfl,w1⟩:=open_int Try.underlying5 (hval 1 5 v1 rfl rfl) h1;clear hA0 hval0;obtain⟨m,hm⟩:=Nhy hsh;obtain⟨fuel,hev⟩:=NhH (f0) (z0) (i0) (x1) (w1);refine(NlU (Gl:=NqP 0 0 (.int .i64 m)) (F:=Nk2 W) (NjP (NhU (m:=m) (by simp[NqP])) fuel 7) (fun _ _ _ h=>h) (Nob hm) (FC.cons fr0 (FC.cons (.i _ _) FC.nil)) hev).mono fun e W' ⟨he,bel⟩=>?_;subst he;exact⟨_,rfl,_,_,_,[],_,[],hW',trodAll_mk1 (shut_bool Try.underlying4 _),(trodAll_cons_mk (Below.trod laidOut (by kernel_rfl) (of_decide_eq_true (by kernel_rfl)) k0 bel lt0) (trodAll_cons_mk (shut_int Try.underlying5 w1) trodAll_mk0)),rfl,bel.frame _,fun h=>by cases h⟩
theorem over : Rows.checkRenamesRow.holds Try.pinned (OpenSpec.ofChange Rows.checkRenamesSpec) :=
 OpenClaim.holds_of_wide 7 Try.f7 rfl rfl rfl rfl rfl rfl rfl ⟨rfl,rfl,rfl,rfl,rfl⟩ rfl rfl rfl rfl rfl (by kernel_rfl) Try.func7 (by kernel_rfl)
  (of_decide_eq_true (by kernel_rfl)) (by unfold Func.isWrapper;first|(rw[if_pos (by decide +kernel)];kernel_rfl)|(rw[if_neg (by decide +kernel)];exact⟨rfl,rfl⟩))
  (fun os started H enc _=>lifted os started H enc)
theorem proved : Rows.CheckRenamesSaid:=over
#print axioms proved
end Go.Proofs.Ytjnofhibldppoaa.checkRenames
