/-
 Open-order regions in the logic: nothing hangs on when an operation runs that reads only what no other one writes. No condition; nothing of the program.
-/
import Derived.Test.YtgnmmphmkoaicaaGreatDoorZPe7
set_option linter.unusedVariables false
set_option linter.unusedSimpArgs false
set_option maxHeartbeats 4000000
namespace Go.Pe
open Go

def Neq:MOp → Bool
 | .mv _ | .pick .. | .bin .. | .eqb .. | .eqn .. | .eqs .. | .un .. | .field .. | .index .. | .extract .. | .len _ | .slen _ | .alen _ | .min .. | .max .. | .substr .. | .sindex .. | .fieldAddr .. | .build .. | .nilck _ | .indexAddr .. | .slice none .. => true
 | .conv (.int _) _ | .conv .same _ => true
 | _ => false
def Njj:MOp → Bool
 | .load .. => true
 | _ => false
theorem Ne2 {cfg:Cfg} {callE:CallE} {ρ:Arg → PV} {st:St} {key:Nat} {m:MOp} (hp:Neq m = true) {v:PV} {st':St} (h:Nap cfg callE ρ st key m = some (v,st')):st' = st ∧ ∀ st2 key2,Nap cfg callE ρ st2 key2 m = some (v,st2):=by
 cases m
 case conv c x =>
  cases c with
  | int k =>
    simp only [Nap] at h ⊢
    split at h <;> simp_all
  | same =>
    simp only [Nap] at h ⊢
    split at h <;> simp_all
  | _ => simp [Neq] at hp
 case slice len sz x lo hi =>
  cases len with
  | none =>
    simp only [Nap] at h ⊢
    obtain ⟨a,ha,he⟩:=Option.map_eq_some_iff.1 h
    cases he
    exact ⟨rfl,fun _ _ => by rw [ha]; rfl⟩
  | some N => simp [Neq] at hp
 case indexAddr arr sz x i =>
  cases arr <;> simp only [Nap] at h ⊢ <;> (repeat' split at h) <;> simp_all
 all_goals first
  | (simp [Neq] at hp; done)
  | (simp only [Nap] at h ⊢; simp only [Option.some.injEq,Prod.mk.injEq] at h; obtain ⟨rfl,rfl⟩:=h; exact ⟨rfl,fun _ _ => rfl⟩)
  | (simp only [Nap] at h ⊢; obtain ⟨a,ha,he⟩:=Option.map_eq_some_iff.1 h; cases he; exact ⟨rfl,fun _ _ => by rw [ha]; rfl⟩)
  | (simp only [Nap] at h ⊢; (repeat' split at h) <;> first | (simp at h; done) | (cases h; exact ⟨rfl,fun _ _ => by simp_all⟩) | (obtain ⟨a,ha,he⟩:=Option.map_eq_some_iff.1 h; cases he; exact ⟨rfl,fun _ _ => by simp_all⟩))
theorem NeX {cfg:Cfg} {callE:CallE} {ρ:Arg → PV} {st:St} {key:Nat} {agg:Bool} {n:Nat} {a:Arg} {v:PV} {st':St} (h:Nap cfg callE ρ st key (.load agg n a) = some (v,st')):st' = st ∧ ∀ st2 key2,(∀ k o,ρ a = .ptr k o → st2.get k = st.get k) → Nap cfg callE ρ st2 key2 (.load agg n a) = some (v,st2):=by
 simp only [Nap] at h ⊢
 have hl:∀ st2:St,(∀ k o,ρ a = .ptr k o → st2.get k = st.get k) → Nba st2 n (ρ a) = Nba st n (ρ a):=by
  intro st2 hk
  unfold Nba
  split
  ·rename_i k o e
   rw [hk _ _ e]
  ·rfl
  ·rfl
 split at h
 ·rename_i cs hcs
  simp only [Option.map_eq_some_iff,Prod.mk.injEq] at h
  obtain ⟨x,hx,rfl,rfl⟩:=h
  refine ⟨rfl,fun st2 key2 hk => ?_⟩
  rw [hl st2 hk,hcs]
  simp [hx]
 ·simp at h
theorem Nli {st:St} {key:Nat} {r v:PV} {st':St} (h:NaI st key r = some (v,st')) (st2:St):∃ st2',NaI st2 key r = some (v,st2') ∧ ((st2' = st2 ∧ st' = st) ∨ st2'.get key = st'.get key):=by
 unfold NaI at h ⊢
 split at h
 ·simp only [Option.some.injEq,Prod.mk.injEq] at h
  obtain ⟨rfl,rfl⟩:=h
  exact ⟨_,rfl,.inr (by rw [Yae,Yae])⟩
 ·split at h
  ·split at h
   ·rename_i hc
    simp only [Option.some.injEq,Prod.mk.injEq] at h
    obtain ⟨rfl,rfl⟩:=h
    simp only [hc,if_true]
    exact ⟨_,rfl,.inr (by rw [Yae,Yae])⟩
   ·simp at h
  ·simp only [Option.some.injEq,Prod.mk.injEq] at h
   obtain ⟨rfl,rfl⟩:=h
   exact ⟨_,rfl,.inl ⟨rfl,rfl⟩⟩
 ·simp only [Option.some.injEq,Prod.mk.injEq] at h
  obtain ⟨rfl,rfl⟩:=h
  exact ⟨_,rfl,.inl ⟨rfl,rfl⟩⟩
theorem NgE {cfg:Cfg} {callE:CallE} {ρ:Arg → PV} {st:St} {key:Nat} {f:FuncId} {args:List Arg} {l:List PV} (hp:∀ st,Nbf st (args.map ρ) = some l) {v:PV} {st':St} (h:Nap cfg callE ρ st key (.callq f args) = some (v,st')) (st2:St):∃ st2',Nap cfg callE ρ st2 key (.callq f args) = some (v,st2') ∧ ((st2' = st2 ∧ st' = st) ∨ st2'.get key = st'.get key):=by
 simp only [Nap,hp] at h ⊢
 split at h
 ·split at h
  ·rename_i hc
   simp only [hc,if_true]
   exact Nli h st2
  ·simp at h
 ·simp at h
def Njh (T:List Nat) (k0:Nat) (ρ:Arg → PV):MOp → Prop
 | .load _ _ a => ∀ k o,ρ a = .ptr k o → k < k0 ∧ k ∉ T
 | .callq _ args => ∃ l,∀ st,Nbf st (args.map ρ) = some l
 | m => Neq m = true
def Njx (nd:Bool) (T:List Nat) (k0 key:Nat) (ρ:Arg → PV) (st:St) (m:MOp):Prop :=
 NaO m = true → ((nd || Neq m || Njj m) = true → key ∉ T) ∧ (nd = true → Njh T k0 ρ m)
def Ne7 (nd:Bool) (key:Nat) (v:PV) (st':St):Prop:=nd = true → PV.same NbT v v = true ∧ PObj.same (st'.get key) (st'.get key) = true
def Ncm (nd:Bool) (T:List Nat) (key:Nat) (m:MOp) (st:St) (v:PV) (st':St):Prop:=if NaO m then Ne7 nd key v st' else ∀ k,k ≠ key → k ∉ T → st'.get k = st.get k
def WOC (cfg:Cfg) (callE:CallE) (T:List Nat) (k0:Nat):List Bool → List MOper → Nat → Loc → (Loc → Prop) → Prop
 | _,[],_,c,Q => Q c
 | [],_ :: _,_,_,_ => False
 | nd :: ns,o :: r,key,c,Q => match NaK c o.guard with
   | some true => Njx nd T k0 key c.rd c.st o.op ∧ WV (Nap cfg callE c.rd c.st key o.op) fun v st' => Ncm nd T key o.op c.st v st' ∧ WOC cfg callE T k0 ns r (key + 8) (({ c with st:=st' }:Loc).wr o.dst v) Q
   | some false => WOC cfg callE T k0 ns r (key + 8) (c.wr o.dst (.tup [])) Q
   | none => False
def Nnz (cfg:Cfg) (callE:CallE) (T:List Nat) (k0 key:Nat) (nd:Bool) (o:MOper) (c:Loc) (v:PV) (s1 s2:St):Prop :=
 c.st = s1 ∧ ((NaK c o.guard = some true ∧ Njx nd T k0 key c.rd s1 o.op ∧ Nap cfg callE c.rd s1 key o.op = some (v,s2) ∧ Ncm nd T key o.op s1 v s2) ∨ (NaK c o.guard = some false ∧ s2 = s1))
theorem Niz {cfg:Cfg} {callE:CallE} {T:List Nat} {k0:Nat} {Q:Loc → Prop}:∀ (ml:List MOper) (ns:List Bool) (key:Nat) (c:Loc),WOC cfg callE T k0 ns ml key c Q →
 ∃ tr c',NcO cfg callE ml key c = some (tr,c') ∧ Q c' ∧ tr.length = ml.length ∧ stAt tr c' 0 = c.st ∧ ∀ i o,ml[i]? = some o → ∃ ci vi nd,tr[i]? = some (ci,vi) ∧ ns[i]? = some nd ∧ Nnz cfg callE T k0 (key + 8 * i) nd o ci vi (stAt tr c' i) (stAt tr c' (i + 1))
 | [],ns,key,c,h => ⟨[],c,rfl,by cases ns <;> exact h,rfl,rfl,fun i o h => by simp at h⟩
 | o :: r,[],key,c,h => h.elim
 | o :: r,nd :: ns,key,c,h => by
   unfold WOC at h
   split at h
   ·rename_i hg
    obtain ⟨hok,v,st',hev,hself,hr⟩:=h
    obtain ⟨tr,c',h1,h2,h3,h4,h5⟩:=Niz r ns _ _ hr
    have e:stAt ((c,v) :: tr) c' 0 = c.st:=rfl
    have e':∀ i,stAt ((c,v) :: tr) c' (i + 1) = stAt tr c' i:=fun _ => rfl
    refine ⟨(c,v) :: tr,c',?_,h2,by rw [List.length_cons,List.length_cons,h3],rfl,?_⟩
    ·simp only [NcO,hg,hev,h1,Option.map_some]
    ·intro i o' hi
     cases i with
     | zero =>
       simp only [List.getElem?_cons_zero,Option.some.injEq] at hi
       subst hi
       refine ⟨c,v,nd,rfl,rfl,rfl,.inl ⟨hg,hok,?_,?_⟩⟩
       ·rw [e',h4,Nbm]; exact hev
       ·rw [e',h4,Nbm]; exact hself
     | succ i =>
       obtain ⟨ci,vi,nd',q1,q2,q3⟩:=h5 i o' (by simpa using hi)
       refine ⟨ci,vi,nd',by simpa using q1,by simpa using q2,?_⟩
       rw [e',e',show key + 8 * (i + 1) = key + 8 + 8 * i by omega]
       exact q3
   ·rename_i hg
    obtain ⟨tr,c',h1,h2,h3,h4,h5⟩:=Niz r ns _ _ h
    have e':∀ i,stAt ((c,PV.tup []) :: tr) c' (i + 1) = stAt tr c' i:=fun _ => rfl
    refine ⟨(c,.tup []) :: tr,c',?_,h2,by rw [List.length_cons,List.length_cons,h3],rfl,?_⟩
    ·simp only [NcO,hg,h1,Option.map_some]
    ·intro i o' hi
     cases i with
     | zero =>
       simp only [List.getElem?_cons_zero,Option.some.injEq] at hi
       subst hi
       refine ⟨c,.tup [],nd,rfl,rfl,rfl,.inr ⟨hg,?_⟩⟩
       rw [e',h4,Nbm]; rfl
     | succ i =>
       obtain ⟨ci,vi,nd',q1,q2,q3⟩:=h5 i o' (by simpa using hi)
       refine ⟨ci,vi,nd',by simpa using q1,by simpa using q2,?_⟩
       rw [e',e',show key + 8 * (i + 1) = key + 8 + 8 * i by omega]
       exact q3
   ·exact h.elim
def Nm6 (ml:List MOper) (masks:List Nat) (q:Nat):Bool:=Nai ml q && (List.range (ml.length + 1)).any fun t => !((decide (t < ml.length) && Nai ml t) || NeD ml q t || !NgZ ml masks q t)
def Njq (ml:List MOper) (masks:List Nat):List Bool:=(List.range ml.length).map (Nm6 ml masks)
def Ng4 (ml:List MOper) (masks:List Nat):Bool:=(List.range ml.length).all fun j => Nai ml j || (List.range ml.length).all fun m => !(decide (m < j) && Nai ml m) || NaQ masks j m || (match ml[m]? with
 | some o => Neq o.op || Njj o.op
 | none => false)
theorem Ne3 {ml:List MOper} {i:Nat} {o:MOper} (h:ml[i]? = some o):Nai ml i = NaO o.op:=by unfold Nai; rw [h]
theorem Nji {cfg:Cfg} {P:Program} {Gl:Gmap} {callE:CallE} (hC:Na6 P Gl callE) (hE:Ncj callE) {ml:List MOper} {masks:List Nat} {T:List Nat} {key:Nat} {c c':Loc} {tr:List (Loc × PV)} (hO:Ng4 ml masks = true)
 (h:NcO cfg callE ml key c = some (tr,c')) (hb:key + 8 * ml.length ≤ c.st.cnt) (hn:∀ k,key ≤ k → k < key + 8 * ml.length → c.st.get k = none) (h0:stAt tr c' 0 = c.st)
 (hst:∀ i o,ml[i]? = some o → ∃ ci vi nd,tr[i]? = some (ci,vi) ∧ (Njq ml masks)[i]? = some nd ∧ Nnz cfg callE T key (key + 8 * i) nd o ci vi (stAt tr c' i) (stAt tr c' (i + 1))):NbH cfg callE ml masks tr c' key = true:=by
 have ha:=Ndc hC hE ml key c c' tr h hb hn
 -- frames
 have g1:∀ i k,i < ml.length → k ∉ T → k ≠ key + 8 * i → (stAt tr c' (i + 1)).get k = (stAt tr c' i).get k:=by
  intro i k hi hk hne
  obtain ⟨ci,vi,nd,_,_,_,hs⟩:=hst i _ (List.getElem?_eq_getElem hi)
  rcases hs with ⟨_,hok,hev,hpo⟩ | ⟨_,e⟩
  ·unfold Ncm at hpo
   split at hpo
   ·rename_i hq
    rcases NbU hq hev with e | ⟨o,e⟩
    ·rw [e]
    ·rw [e]; exact Yad (fun e => hne e.symm)
   ·exact hpo k hne hk
  ·rw [e]
 have g2:∀ k,k ∉ T → k < key → ∀ i,i ≤ ml.length → (stAt tr c' i).get k = (stAt tr c' 0).get k:=by
  intro k hk hlt i
  induction i with
  | zero => intro _; rfl
  | succ i ih => intro hi; rw [g1 i k Zaa hk Zaa]; exact ih Zaa
 have g3:∀ q,key + 8 * q ∉ T → ∀ t,q + 1 ≤ t → t ≤ ml.length → (stAt tr c' t).get (key + 8 * q) = (stAt tr c' (q + 1)).get (key + 8 * q):=by
  intro q hq t
  induction t with
  | zero => intro h; omega
  | succ t ih =>
    intro h1 h2
    by_cases e:t = q
    ·rw [e]
    ·rw [g1 t _ Zaa hq Zaa]; exact ih Zaa Zaa
 have hcn:∀ i,i ≤ ml.length → key + 8 * ml.length ≤ (stAt tr c' i).cnt:=by
  intro i
  induction i with
  | zero => intro _; rw [h0]; exact hb
  | succ i ih =>
    intro hi
    have ih':=ih Zaa
    obtain ⟨ci,vi,nd,_,_,_,hs⟩:=hst i _ (List.getElem?_eq_getElem (show i < ml.length by omega))
    rcases hs with ⟨_,_,hev,_⟩ | ⟨_,e⟩
    ·have:=Nbs hC hev; omega
    ·rw [e]; exact ih'
 have g4:∀ q,q < ml.length → (stAt tr c' (q + 1)).get (key + 8 * q) = none → ∀ t,q + 1 ≤ t → t ≤ ml.length → (stAt tr c' t).get (key + 8 * q) = none:=by
  intro q hq hnq t
  induction t with
  | zero => intro h; omega
  | succ t ih =>
    intro h1 h2
    by_cases et:t = q
    ·rw [et]; exact hnq
    ·have ih':=ih Zaa Zaa
     have hct:=hcn t Zaa
     obtain ⟨ci,vi,nd,_,_,_,hs⟩:=hst t _ (List.getElem?_eq_getElem (show t < ml.length by omega))
     rcases hs with ⟨_,_,hev,_⟩ | ⟨_,e⟩
     ·exact NcX hE hev Zaa Zaa ih'
     ·rw [e]; exact ih'
 unfold NbH
 rw [List.all_eq_true]
 intro j hj
 have hjl:j < ml.length:=by simpa using hj
 obtain ⟨o,ho⟩:∃ o,ml[j]? = some o:=⟨_,List.getElem?_eq_getElem hjl⟩
 have hqa:=Ne3 ho
 split
 ·rename_i hq
  rw [List.all_eq_true]
  intro t ht
  have htl:t ≤ ml.length:=by have:=List.mem_range.1 ht; omega
  obtain ⟨ci,vi,nd,htr,hnd,hcs,hs⟩:=hst j o ho
  have hnd':Nm6 ml masks j = nd:=by
   unfold Njq at hnd
   rw [List.getElem?_map] at hnd
   simpa [hjl] using hnd
  cases nd with
  | false =>
    unfold Nm6 at hnd'
    rw [hq,Bool.true_and,List.any_eq_false] at hnd'
    have:=hnd' t ht
    simp only [Bool.not_eq_true',Bool.not_eq_false] at this
    rw [this,Bool.true_or]
  | true =>
    have hag:again cfg callE ml tr c' key j t = true:=by
     unfold again
     rw [ho,htr]
     simp only [Bool.and_eq_true,Bool.or_eq_true,decide_eq_true_eq]
     rcases hs with ⟨hg,hok,hev,hself⟩ | ⟨hg,e⟩
     ·obtain ⟨hkT,hli⟩:=hok (by rw [← hqa]; exact hq)
      unfold Ncm at hself
      rw [if_pos (by rw [← hqa]; exact hq)] at hself
      have hkT':=hkT Zag
      have hli':=hli rfl
      obtain ⟨hs1,hs2⟩:=hself rfl
      have hfr:(stAt tr c' j).get (key + 8 * j) = none:=ha j j (Nat.le_refl _) hjl
      refine ⟨?_,?_⟩
      ·by_cases htj:t ≤ j
       ·exact .inl htj
       ·right
        rw [g3 j hkT' t Zaa htl]; exact hs2
      ·rw [hg]
       simp only
       have hsp:((sig ml tr c' key t).put (key + 8 * j) none).get (key + 8 * j) = none:=Yae _ _ _
       have hlow:∀ k,k < key → k ∉ T → ((sig ml tr c' key t).put (key + 8 * j) none).get k = (stAt tr c' j).get k:=by
        intro k hk hkT
        rw [Yad Zaa]
        unfold sig
        rw [NcG _ _ _ (fun q _ _ _ => by omega),g2 k hkT hk t htl,g2 k hkT hk j Zaa]
       by_cases hp:Neq o.op = true
       ·obtain ⟨e1,e2⟩:=Ne2 hp hev
        rw [e2 _ _]
        simp only [hs1,Bool.true_and]
        rw [hsp,e1,hfr]; rfl
       ·cases hop:o.op with
        | load agg n a =>
          rw [hop] at hev hli'
          obtain ⟨e1,e2⟩:=NeX hev
          rw [e2 _ _ (fun k o e => hlow k (hli' k o e).1 (hli' k o e).2)]
          simp only [hs1,Bool.true_and]
          rw [hsp,e1,hfr]; rfl
        | callq f args =>
          rw [hop] at hev hli'
          obtain ⟨la,hla⟩:=hli'
          obtain ⟨st2,e1,e2⟩:=NgE hla hev ((sig ml tr c' key t).put (key + 8 * j) none)
          rw [e1]
          simp only [hs1,Bool.true_and]
          rcases e2 with ⟨e3,e4⟩ | e3
          ·rw [e3,hsp,e4,hfr]; rfl
          ·rw [e3]; exact hs2
        | _ => rw [hop] at hli' hp; exact absurd hli' hp
     ·refine ⟨?_,by rw [hg]⟩
      by_cases htj:t ≤ j
      ·exact .inl htj
      ·right
       have hns:=g4 j hjl (by rw [e]; exact ha j j (Nat.le_refl _) hjl)
       rw [hns t Zaa htl,hns (j + 1) (Nat.le_refl _) Zaa]; rfl
    rw [hag,Bool.or_true]
 ·rename_i hq
  rw [List.all_eq_true]
  intro m hm
  have hml:m < ml.length:=by simpa using hm
  by_cases hjm:j < m
  ·rw [if_pos hjm,ha (j + 1) m Zaa hml]; rfl
  ·rw [if_neg hjm]
   split
   ·rename_i hc
    simp only [Bool.and_eq_true,decide_eq_true_eq] at hc
    unfold Ng4 at hO
    rw [List.all_eq_true] at hO
    have h1:=hO j hj
    rw [Bool.or_eq_true] at h1
    rcases h1 with h1 | h1
    ·exact absurd h1 hq
    rw [List.all_eq_true] at h1
    have h2:=h1 m hm
    simp only [hc,decide_true,Bool.and_self,Bool.not_true,Bool.false_or,Bool.or_eq_true] at h2
    rcases h2 with h2 | h2
    ·rw [h2,Bool.true_or]
    ·obtain ⟨om,hom⟩:∃ o,ml[m]? = some o:=⟨_,List.getElem?_eq_getElem hml⟩
     rw [hom] at h2
     simp only [Bool.or_eq_true] at h2
     obtain ⟨ci,vi,nd,_,_,_,hs⟩:=hst m om hom
     have hqm:NaO om.op = true:=by rw [← Ne3 hom]; exact hc.2
     have hfr:(stAt tr c' m).get (key + 8 * m) = none:=ha m m (Nat.le_refl _) hml
     have hend:(stAt tr c' j).get (key + 8 * m) = none:=by
      rcases hs with ⟨_,hok,hev,_⟩ | ⟨_,e⟩
      ·have hkT:=(hok hqm).1 (by rcases h2 with h2 | h2 <;> simp [h2])
       rw [g3 m hkT j Zaa Zaa]
       rcases h2 with h2 | h2
       ·rw [(Ne2 h2 hev).1]; exact hfr
       ·cases hop:om.op <;> rw [hop] at h2 hev <;> first | (simp [Njj] at h2; done) | skip
        rw [(NeX hev).1]; exact hfr
      ·exact g4 m hml (by rw [e]; exact hfr) j Zaa Zaa
     rw [hend]; simp
   ·rfl
theorem NfG {cfg:Cfg} {P:Program} {Gl:Gmap} {callE:CallE} (hC:Na6 P Gl callE) (hE:Ncj callE) {n:Nat} {ml:List MOper} {masks:List Nat} {Q:MExit → Now → Prop} (T:List Nat) {ns:List Bool} (hO:Ng4 ml masks = true) (hN:Njq ml masks = ns) {env:Env} {st:St} (fr:∀ k,st.cnt ≤ k → st.get k = none)
 (h:WOC cfg callE T st.cnt ns ml st.cnt ⟨env,.leaf,⟨st.sto,st.cnt + 8 * ml.length⟩⟩ fun c => Q .nrm ⟨c.env,c.st⟩):WC cfg callE n (.chain ml masks none) ⟨env,st⟩ Q:=by
 subst hN
 obtain ⟨tr,c',h1,h2,h3,h4,h5⟩:=Niz ml _ _ _ h
 have hd:=Nji hC hE hO h1 (Nat.le_refl _) (fun k hk _ => fr k hk) h4 h5
 refine ⟨.nrm,⟨c'.env,c'.st⟩,?_,h2⟩
 simp only [Nan,Ncq,h1,hd,Ncy,Bool.and_self,if_true,Option.map_some]
theorem Niy (cfg:Cfg) (callE:CallE) (T:List Nat) (k0:Nat) (ns:List Bool) (key:Nat) (c:Loc) (Q:Loc → Prop):WOC cfg callE T k0 ns [] key c Q ↔ Q c:=by cases ns <;> exact Iff.rfl
theorem NaJ (cfg:Cfg) (callE:CallE) (T:List Nat) (k0:Nat) (nd:Bool) (ns:List Bool) (d:MDst) (op:MOp) (r:List MOper) (key:Nat) (env loc:Env) (st:St) (Q:Loc → Prop) :
 WOC cfg callE T k0 (nd :: ns) (⟨d,op,none⟩ :: r) key ⟨env,loc,st⟩ Q ↔ Njx nd T k0 key (Loc.rd ⟨env,loc,st⟩) st op ∧ WV (Nap cfg callE (Loc.rd ⟨env,loc,st⟩) st key op) fun v st' => Ncm nd T key op st v st' ∧ WOC cfg callE T k0 ns r (key + 8) (Loc.wr ⟨env,loc,st'⟩ d v) Q:=Iff.trans Iff.rfl Iff.rfl
theorem Nax (cfg:Cfg) (callE:CallE) (T:List Nat) (k0:Nat) (nd:Bool) (ns:List Bool) (d:MDst) (op:MOp) (x:Arg) (w:Bool) (r:List MOper) (key:Nat) (env loc:Env) (st:St) (Q:Loc → Prop) :
 WOC cfg callE T k0 (nd :: ns) (⟨d,op,some (x,w)⟩ :: r) key ⟨env,loc,st⟩ Q ↔ WG (Loc.rd ⟨env,loc,st⟩ x) w (Njx nd T k0 key (Loc.rd ⟨env,loc,st⟩) st op ∧ WV (Nap cfg callE (Loc.rd ⟨env,loc,st⟩) st key op) fun v st' => Ncm nd T key op st v st' ∧ WOC cfg callE T k0 ns r (key + 8) (Loc.wr ⟨env,loc,st'⟩ d v) Q) (WOC cfg callE T k0 ns r (key + 8) (Loc.wr ⟨env,loc,st⟩ d (.tup [])) Q):=by
 show (match NaK _ _ with | some true => _ | some false => _ | none => False) ↔ _
 unfold NaK WG
 simp only []
 cases Loc.rd ⟨env,loc,st⟩ x with
 | b y => cases y <;> cases w <;> simp
 | tup vs => cases vs <;> simp
 | _ => simp
@[congr] theorem NnC {cfg:Cfg} {callE:CallE} {T:List Nat} {k0:Nat} {ns:List Bool} {ml:List MOper} {key key':Nat} {c c':Loc} (h:key = key') (h2:c = c') (Q:Loc → Prop):WOC cfg callE T k0 ns ml key c Q = WOC cfg callE T k0 ns ml key' c' Q:=by rw [h,h2]
theorem NaG (key:Nat) (v:PV) (st:St):Ne7 false key v st = True:=by simp [Ne7]
theorem NaH (key:Nat) (v:PV) (st:St):Ne7 true key v st = (PV.same NbT v v = true ∧ PObj.same (st.get key) (st.get key) = true):=by simp [Ne7]
mutual
theorem PV.sm_rfl:∀ a:PV,PV.sm a a = true:=fun a => by
 cases a <;> simp only [PV.sm,PV.smL_rfl] <;> simp
theorem PV.smL_rfl:∀ x:List PV,PV.smL x x = true
 | [] => rfl
 | a :: x => by simp only [PV.smL,PV.sm_rfl a,PV.smL_rfl x,Bool.and_self]
end
theorem PV.same_fslR (n:Nat) (cs:List PV):PV.same NbT (.fsl n cs) (.fsl n cs) = true:=by
 show (n == n && PV.smL cs cs) = true
 simp [PV.smL_rfl]
def Njn:MOp → Bool
 | .calle .. | .callv .. => true
 | _ => false
theorem Nh9 {cfg:Cfg} {callE:CallE} {ρ:Arg → PV} {st:St} {key k:Nat} {m:MOp} (hl:Njn m = false) {r:PV} {st':St} (he:Nap cfg callE ρ st key m = some (r,st')) (hk:k ≠ key) (hn:st.get k = none):st'.get k = none:=by
 cases m with
 | call => simp only [Nap] at he; exact NcT hk hn he
 | calle => simp [Njn] at hl
 | callv => simp [Njn] at hl
 | callq =>
   simp only [Nap] at he
   repeat' split at he
   all_goals first | (simp at he; done) | exact Ncw hk hn he
 | slice arr sz x lo hi =>
   cases arr <;> simp only [Nap] at he
   ·obtain ⟨_,_,h⟩:=Option.map_eq_some_iff.1 he; cases h; exact hn
   ·repeat' split at he
    all_goals first | (simp at he; done) | (cases he; exact hn)
 | indexAddr arr sz x i =>
   cases arr <;> simp only [Nap] at he
   all_goals (repeat' split at he)
   all_goals first | (simp at he; done) | (cases he; exact hn)
 | conv c x =>
   simp only [Nap] at he
   repeat' split at he
   all_goals first | (simp at he; done) | (cases he; exact hn) | (cases he; exact NbP hn (fun e => hk e.symm)) | (obtain ⟨_,_,h⟩:=Option.map_eq_some_iff.1 he; cases h; exact hn)
 | store n a x =>
   simp only [Nap] at he
   obtain ⟨_,h1,h⟩:=Option.map_eq_some_iff.1 he; cases h; exact NeC hn h1
 | append =>
   simp only [Nap] at he
   repeat' split at he
   all_goals first | (simp at he; done) | exact NbW hk hn he
 | appstr =>
   simp only [Nap] at he
   repeat' split at he
   all_goals first | (simp at he; done) | exact NbW hk hn he
 | copy =>
   simp only [Nap] at he
   repeat' split at he
   all_goals first | (simp at he; done) | exact NeQ hn he
 | mapup ck m k' v =>
   simp only [Nap] at he
   split at he
   ·split at he
    ·rename_i hg
     obtain ⟨_,_,h⟩:=Option.map_eq_some_iff.1 he; cases h; exact Ncd hn hg
    ·simp at he
   ·simp at he
 | snext x =>
   simp only [Nap] at he
   split at he
   ·split at he
    ·rename_i hg
     split at he <;> cases he
     ·exact Ncd hn hg
     ·exact hn
    ·simp at he
   ·simp at he
 | _ =>
   simp only [Nap] at he
   repeat' split at he
   all_goals first | (simp at he; done) | (cases he; exact hn) | (cases he; exact NbP hn (fun e => hk e.symm)) | (obtain ⟨_,_,h⟩:=Option.map_eq_some_iff.1 he; cases h; exact hn)
def Top (st:St):Prop:=∀ k,st.cnt ≤ k → st.get k = none
def NnA (callE:CallE):Prop:=∀ f args st r st',callE f args st = some (r,st') → Top st → Top st'
theorem Top.le {sto:Trie PObj} {c c':Nat} (h:Top ⟨sto,c⟩) (hc:c ≤ c'):Top ⟨sto,c'⟩:=fun k hk => h k (by simp only at hk ⊢; omega)
theorem Nhs {cfg:Cfg} {P:Program} {Gl:Gmap} {callE:CallE} (hC:Na6 P Gl callE) (hT:NnA callE) {ρ:Arg → PV} {st:St} {key:Nat} {m:MOp} {r:PV} {st':St} (he:Nap cfg callE ρ st key m = some (r,st')) (hk:key < st.cnt) (ht:Top st):Top st':=by
 by_cases hl:Njn m = true
 ·cases m with
  | calle =>
    simp only [Nap] at he
    split at he
    ·simp at he
    ·exact hT _ _ _ _ _ he ht
  | callv =>
    simp only [Nap] at he
    split at he
    ·split at he
     ·simp at he
     ·exact hT _ _ _ _ _ he ht
    ·split at he
     ·simp at he
     ·exact hT _ _ _ _ _ he ht
    ·simp at he
  | _ => simp [Njn] at hl
 ·have hc:=Nbs hC he
  intro k hk2
  exact Nh9 (by simpa using hl) he Zaa (ht k Zaa)
theorem NdY {cfg:Cfg} {P:Program} {Gl:Gmap} {callE:CallE} (hC:Na6 P Gl callE) (hT:NnA callE):∀ (ml:List MOper) (key:Nat) (c c':Loc),Nbi cfg callE ml key c = some c' → key + 8 * ml.length ≤ c.st.cnt → Top c.st → Top c'.st
 | [],key,c,c',h,_,ht => by simp [Nbi] at h; subst h; exact ht
 | o :: ml,key,c,c',h,hk,ht => by
   simp only [List.length_cons] at hk
   simp only [Nbi] at h
   split at h
   ·split at h
    ·rename_i v st hev
     have h1:=Nbs hC hev
     refine NdY hC hT ml _ _ _ h (by rw [Nbm]; simp only []; omega) ?_
     rw [Nbm]
     exact Nhs hC hT hev Zaa ht
    ·simp at h
   ·exact NdY hC hT ml _ _ _ h (by rw [Nbm]; omega) (by rw [Nbm]; exact ht)
   ·simp at h
theorem Nfn {cfg:Cfg} {P:Program} {Gl:Gmap} {callE:CallE} (hC:Na6 P Gl callE) (hT:NnA callE):∀ (ml:List MOper) (key:Nat) (c c':Loc) (tr:List (Loc × PV)),NcO cfg callE ml key c = some (tr,c') → key + 8 * ml.length ≤ c.st.cnt → Top c.st → Top c'.st
 | [],key,c,c',tr,h,_,ht => by simp [NcO] at h; obtain ⟨_,rfl⟩:=h; exact ht
 | o :: ml,key,c,c',tr,h,hk,ht => by
   simp only [List.length_cons] at hk
   simp only [NcO] at h
   split at h
   ·split at h
    ·rename_i v st hev
     simp only [Option.map_eq_some_iff,Prod.mk.injEq] at h
     obtain ⟨⟨tr',c2⟩,he,rfl,rfl⟩:=h
     have h1:=Nbs hC hev
     refine Nfn hC hT ml _ _ _ _ he (by rw [Nbm]; simp only []; omega) ?_
     rw [Nbm]
     exact Nhs hC hT hev Zaa ht
    ·simp at h
   ·simp only [Option.map_eq_some_iff,Prod.mk.injEq] at h
    obtain ⟨⟨tr',c2⟩,he,rfl,rfl⟩:=h
    exact Nfn hC hT ml _ _ _ _ he (by rw [Nbm]; omega) (by rw [Nbm]; exact ht)
   ·simp at h
def NnB (ev:Now → Option (MExit × Now)):Prop:=∀ x e x',ev x = some (e,x') → Top x.st → Top x'.st
theorem Nf8 {ev:Now → Option (MExit × Now)} (h:NnB ev):∀ (fuel:Nat) (x:Now) (e:MExit) (x':Now),Nb3 ev fuel x = some (e,x') → Top x.st → Top x'.st
 | 0,x,e,x',he,_ => by simp [Nb3] at he
 | fuel + 1,x,e,x',he,ht => by
   simp only [Nb3] at he
   split at he
   ·rename_i x1 h1
    exact Nf8 h fuel _ _ _ he (h _ _ _ h1 ht)
   ·rename_i e1 x1 hne h1
    simp only [Option.some.injEq,Prod.mk.injEq] at he
    obtain ⟨rfl,rfl⟩:=he
    exact h _ _ _ h1 ht
   ·simp at he
theorem Nbe {cfg:Cfg} {P:Program} {Gl:Gmap} {callE:CallE} (hC:Na6 P Gl callE) (hT:NnA callE) (fuel:Nat):∀ m:MCode,NnB (Nan cfg callE fuel m)
 | .skip => fun x e x' h ht => by simp [Nan] at h; obtain ⟨_,rfl⟩:=h; exact ht
 | .region ops => fun x e x' h ht => by
   simp only [Nan,NbB,Option.map_eq_some_iff,Prod.mk.injEq] at h
   obtain ⟨y,⟨z,hz,rfl⟩,_,rfl⟩:=h
   exact NdY hC hT _ _ _ _ hz (Nat.le_refl _) (fun k hk => ht k (by simp only at hk; omega))
 | .chain ops masks sw => fun x e x' h ht => by
   simp only [Nan,Ncq,Option.map_eq_some_iff,Prod.mk.injEq] at h
   obtain ⟨y,hy,_,rfl⟩:=h
   split at hy
   ·rename_i tr z hz
    split at hy
    ·simp only [Option.some.injEq] at hy
     subst hy
     exact Nfn hC hT _ _ _ _ _ hz (Nat.le_refl _) (fun k hk => ht k (by simp only at hk; omega))
    ·simp at hy
   ·simp at hy
 | .seq a b => fun x e x' h ht => by
   simp only [Nan] at h
   split at h
   ·rename_i x1 h1
    exact Nbe hC hT fuel b _ _ _ h (Nbe hC hT fuel a _ _ _ h1 ht)
   ·exact Nbe hC hT fuel a _ _ _ h ht
 | .cond c a b => fun x e x' h ht => by
   simp only [Nan] at h
   split at h
   ·split at h
    ·exact Nbe hC hT fuel a _ _ _ h ht
    ·exact Nbe hC hT fuel b _ _ _ h ht
   ·simp at h
 | .block id a => fun x e x' h ht => by
   simp only [Nan] at h
   split at h
   ·rename_i j x1 h1
    split at h <;> (simp only [Option.some.injEq,Prod.mk.injEq] at h; obtain ⟨_,rfl⟩:=h; exact Nbe hC hT fuel a _ _ _ h1 ht)
   ·exact Nbe hC hT fuel a _ _ _ h ht
 | .loop a => fun x e x' h ht => by
   simp only [Nan] at h
   split at h
   ·simp at h
   ·exact Nf8 (Nbe hC hT fuel a) _ _ _ _ h ht
 | .exit id => fun x e x' h ht => by simp [Nan] at h; obtain ⟨_,rfl⟩:=h; exact ht
 | .scope a => fun x e x' h ht => by simp only [Nan] at h; exact Nbe hC hT fuel a _ _ _ h ht
 | .ret => fun x e x' h ht => by simp [Nan] at h; obtain ⟨_,rfl⟩:=h; exact ht
theorem Nhq {P:Program} {Gl:Gmap} {cfg:Cfg} (hcfg:CfgOK P Gl cfg):∀ fuel,NnA (NaE cfg fuel)
 | 0 => fun f args st r st' h _ => by simp [NaE] at h
 | fuel + 1 => by
   have hT:=Nhq hcfg fuel
   have hC:=NdW hcfg fuel
   intro f args st r st' h ht
   simp only [NaE] at h
   split at h
   ·rename_i m hm
    unfold NcW at h
    split at h
    ·simp at h
    ·rename_i e c' hne hev
     have:=Nbe hC hT _ _ _ _ _ hev ht
     split at h <;> simp only [Option.some.injEq,Prod.mk.injEq,reduceCtorEq] at h
     ·obtain ⟨_,rfl⟩:=h; exact this
     ·obtain ⟨_,rfl⟩:=h; exact this
    ·simp at h
   ·simp at h
theorem Nix {P:Program} {Gl:Gmap} {cfg:Cfg} (hcfg:CfgOK P Gl cfg) {fuel n:Nat} {a:MCode} {x:Now} (ht:Top x.st) {Q:MExit → Now → Prop} (h:WC cfg (NaE cfg fuel) n a x fun e x' => Top x'.st → Q e x'):WC cfg (NaE cfg fuel) n a x Q:=by
 obtain ⟨e,x',hev,hr⟩:=h
 exact ⟨e,x',hev,hr (Nbe (NdW hcfg fuel) (Nhq hcfg fuel) n a _ _ _ hev ht)⟩
theorem NaF (nd:Bool) (T:List Nat) (key:Nat) (m:MOp) (st:St) (v:PV) (st':St) (h:NaO m = true):Ncm nd T key m st v st' = Ne7 nd key v st':=by unfold Ncm; rw [if_pos h]
theorem Naz (nd:Bool) (T:List Nat) (key:Nat) (m:MOp) (st:St) (v:PV) (st':St) (h:NaO m = false):Ncm nd T key m st v st' = ∀ k,k ≠ key → k ∉ T → st'.get k = st.get k:=by unfold Ncm; rw [if_neg (by rw [h]; simp)]
theorem NaZ (nd:Bool) (T:List Nat) (k0 key:Nat) (ρ:Arg → PV) (st:St) (m:MOp) (h:NaO m = false):Njx nd T k0 key ρ st m = True:=by unfold Njx; simp [h]
theorem NaU (nd:Bool) (T:List Nat) (k0 key:Nat) (ρ:Arg → PV) (st:St) (m:MOp) (h:Neq m = true) (hq:NaO m = true):Njx nd T k0 key ρ st m = (key ∉ T):=by
 unfold Njx
 apply propext
 constructor
 ·intro h1; exact (h1 hq).1 (by simp [h])
 ·intro h1 _
  refine ⟨fun _ => h1,fun _ => ?_⟩
  unfold Njh
  split <;> first | exact h | (simp [Neq] at h)
theorem Na8 (nd:Bool) (T:List Nat) (k0 key:Nat) (ρ:Arg → PV) (st:St) (agg:Bool) (n:Nat) (a:Arg):Njx nd T k0 key ρ st (.load agg n a) = (key ∉ T ∧ (nd = true → ∀ k o,ρ a = .ptr k o → k < k0 ∧ k ∉ T)):=by
 unfold Njx
 apply propext
 constructor
 ·intro h1
  have:=h1 rfl
  exact ⟨this.1 (by simp [Njj]),this.2⟩
 ·intro h1 _
  exact ⟨fun _ => h1.1,h1.2⟩
end Go.Pe
