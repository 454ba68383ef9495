/-
 The statement CheckTells: for every input the law returns true, and each argument reads as it did. No condition.
-/
import Derived.Test.YtjnofhibldppoaaGreatZTelL
import Derived.Test.YtjnofhibldppoaaGreatZView
import Derived.HandedShaped
set_option linter.unusedVariables false
set_option maxRecDepth 100000
namespace Go.Proofs.YtjnofhibldppoaaGreat.checkTells
open Go.ChangeShapes Go.WideShapes Go.ChangeAt Go.RowKit Go.Am Go.Pe
open Go.ChangeMaps (open_string shut_string)
theorem own : ownKnob Tryz.prog.godebug=none:=by kernel_rfl
theorem laidOut : laidOutB Tryz.prog=true:=by kernel_rfl
theorem lifted(os : Os)(started : os.Started)(H : Type)(enc : TypeId×Value→H) :
 ReturnsInHanded {} Tryz.checked os 3 .any (Rows.checkTellsSpec.pre6 enc Tryz.prog Tryz.f3 Rows.checkTellsRow.domain false) (Rows.checkTellsSpec.post enc Tryz.prog Tryz.f3 false true false false):=by
 refine returnsInHanded_of_change_shaped (C:=Tryz.checked) own started (by kernel_rfl) Tryz.func3
  (ChangeSpec.witness6 (enc:=enc) (C:=Tryz.checked) false ⟨#[],#[.agg #[.slice none 0 0,.slice none 0 0]],[]⟩ 8 (by kernel_rfl) (by kernel_rfl) (by kernel_rfl) (by kernel_rfl)) ?_
 intro W base args ds gs before hval0 hW hcnd hsz0 hsh _;have hsz : (DataW.weightsEach Tryz.prog (Tryz.f3.params.toList++Rows.checkTellsSpec.plain.varTypes Tryz.prog) (ds++gs)).all (·≤reachBytes)=true:=hsz0;clear hsz0;have hval : ∀ (j : Nat) t v,Tryz.f3.params[j]? = some t→args[j]? = some v→Value.okWide Tryz.prog W .any base t v:=hval0;have hW':=hW;obtain⟨p,q,hA0,hV,rfl,hfz,hnd⟩:=hW;have hA : DataW.TrodAll enc Tryz.prog W 0 (fun _=>true) true Tryz.f3.params.toList args.toList ds p:=hA0;rw[Tryz.params3]at hA hval hsz;obtain⟨v0,vs0,d0,ds0,p0,q0,hargs,rfl,rfl,h0,r0⟩:=trodAll_cons hA;obtain⟨rfl,rfl,rfl⟩:=trodAll_nil r0;obtain rfl : args=#[v0]:=by cases args;simp_all
 obtain⟨rfl,rfl⟩:=trodVars_none hV;have k0:=h0;have lt0 : ∀ x∈p0,x.block<W.heap.size:=by obtain⟨m,hm⟩:=k0;exact DataW.trod_lt m _ _ _ hm
 have sm0 : Small Tryz.prog 25 d0:=Nk6 hsz 0 rfl (by simp);obtain⟨f0,z0,fr0,i0⟩:=Nm4 (E:=NkN) Tryz.underlying25 (fun f=>by rw[Nqn];kernel_rfl) (fun f=>NmJ f f (Nat.le_refl f)) (fun f=>No1 Tryz.underlying25 (by kernel_rfl) Tryz.underlying22 Tryz.underlying23 (by kernel_rfl) (by kernel_rfl) (by kernel_rfl) (by kernel_rfl) (by kernel_rfl) (of_decide_eq_true (by kernel_rfl)) (of_decide_eq_true (by kernel_rfl)) (NnR Tryz.underlying37 (by kernel_rfl) Tryz.underlying35 Tryz.underlying9 Tryz.underlying2 Tryz.underlying3 (by kernel_rfl) (by kernel_rfl) (by kernel_rfl) (by kernel_rfl) (by kernel_rfl)) (fun n=>Npa Tryz.underlying40 (by kernel_rfl) Tryz.underlying9 Tryz.underlying3 Tryz.underlying38 (by kernel_rfl) (by kernel_rfl) (by kernel_rfl) (by kernel_rfl) (by kernel_rfl) (of_decide_eq_true (by kernel_rfl)) (fun n=>Nk4 Tryz.underlying66 (by kernel_rfl) Tryz.underlying62 Tryz.underlying63 Tryz.underlying9 Tryz.underlying2 Tryz.underlying3 Tryz.underlying64 Tryz.underlying38 (by kernel_rfl) (by kernel_rfl) (by kernel_rfl) (by kernel_rfl) (by kernel_rfl) (by kernel_rfl) (by kernel_rfl) (by kernel_rfl) (by kernel_rfl) (of_decide_eq_true (by kernel_rfl)) (of_decide_eq_true (by kernel_rfl)) (fun n=>Nj2 Tryz.underlying88 (by kernel_rfl) Tryz.underlying86 Tryz.underlying9 Tryz.underlying2 Tryz.underlying64 (by kernel_rfl) (by kernel_rfl) (by kernel_rfl) (by kernel_rfl) (by kernel_rfl) (of_decide_eq_true (by kernel_rfl)) n) n) n) f) (hval 0 25 v0 rfl rfl) h0 sm0;clear hA0 hval0;obtain⟨m,hm⟩:=NhH hsh;obtain⟨fuel,hev⟩:=Nlb (f0) (z0) (i0);refine(Nmj (Gl:=Nrj 0 0 (.int .i64 m)) (F:=Nlj W) (Nj1 (Nh4 (m:=m) (by simp[Nrj])) fuel 3) (fun _ _ _ h=>h) (NoN hm) (FC.cons fr0 FC.nil) hev).mono fun e W' ⟨he,bel⟩=>?_;subst he;exact⟨_,rfl,_,_,_,[],_,[],hW',trodAll_mk1 (shut_bool Tryz.underlying4 _),(trodAll_cons_mk (Below.trod laidOut (by kernel_rfl) (of_decide_eq_true (by kernel_rfl)) k0 bel lt0) trodAll_mk0),rfl,bel.frame _,fun h=>by cases h⟩
theorem over : Rows.checkTellsRow.holds Tryz.pinned (OpenSpec.ofChange Rows.checkTellsSpec) :=
 OpenClaim.holds_of_wide 3 Tryz.f3 rfl rfl rfl rfl rfl rfl rfl ⟨rfl,rfl,rfl,rfl,rfl⟩ rfl rfl rfl rfl rfl (by kernel_rfl) Tryz.func3 (by kernel_rfl)
  (of_decide_eq_true (by kernel_rfl)) (by unfold Func.isWrapper;first|(rw[if_pos (by decide +kernel)];kernel_rfl)|(rw[if_neg (by decide +kernel)];exact⟨rfl,rfl⟩))
  (fun os started H enc _=>lifted os started H enc)
theorem proved : Rows.CheckTellsSaid:=over
#print axioms proved
end Go.Proofs.YtjnofhibldppoaaGreat.checkTells
