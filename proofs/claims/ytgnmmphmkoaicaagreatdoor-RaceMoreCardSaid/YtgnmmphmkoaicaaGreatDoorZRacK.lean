/-
 Races: the first race of each object, as plain data; what hangs on what. No condition.
-/
import Derived.Test.YtgnmmphmkoaicaaGreatDoorZRacF
set_option linter.unusedVariables false
set_option linter.unusedSimpArgs false
namespace Go.Pe
open Go Go.Am Go.RowKit

abbrev AhE (cd:Cd) (l:List Et) (i j:Nat):Prop:=Ah (thL l) (gvL cd l) (tkL cd l) i j
end Go.Pe
namespace Go.Pe
open Go Go.Am Go.RowKit

section
variable (ac:Nat → Bool) (ob:Nat → Int) (rc:Nat → Nat → Bool)
def Nbv:Nat → Int → List Nat
 | 0,_ => []
 | j + 1,o => if (ac j && ob j == o) = true then Nbv j o ++ [j] else Nbv j o
def NfZ (j:Nat) (is:List Nat):Option (Nat × Nat):=(is.find? (rc · j)).map (·,j)
def NeH:Nat → Int → Option (Nat × Nat)
 | 0,_ => none
 | j + 1,o => if (ac j && ob j == o) = true then (NeH j o).or (NfZ rc j (Nbv ac ob j o)) else NeH j o
end
section
variable {ac ac':Nat → Bool} {ob ob':Nat → Int} {rc rc':Nat → Nat → Bool}
theorem Nc2 {o:Int}:∀ {j i:Nat},i ∈ Nbv ac ob j o → i < j ∧ ac i = true ∧ ob i = o
 | 0,i,h => by simp [Nbv] at h
 | j + 1,i,h => by
   rw [Nbv] at h
   split at h
   ·rename_i c
    rcases List.mem_append.1 h with h | h
    ·have:=Nc2 h; exact ⟨by omega,this.2⟩
    ·simp only [List.mem_singleton] at h
     subst h
     simp only [Bool.and_eq_true,beq_iff_eq] at c
     exact ⟨by omega,c⟩
   ·have:=Nc2 h; exact ⟨by omega,this.2⟩
theorem NhA {s:Nat → Nat} {j j':Nat}:∀ {is:List Nat},(∀ i,i ∈ is → rc' (s i) j' = rc i j) → (is.map s).find? (rc' · j') = (is.find? (rc · j)).map s
 | [],_ => rfl
 | i :: r,h => by
   rw [List.map_cons,List.find?_cons,List.find?_cons,h i Zag,NhA fun q hq => h q (by simp [hq])]
   cases rc i j <;> rfl
def shK (k i:Nat):Nat:=if i < k then i else i + 1
theorem Ne6 {n k:Nat} (hk:k ≤ n) (ha:∀ i,i < n → ac' (shK k i) = ac i) (hb:∀ i,i < n → ob' (shK k i) = ob i) (h0:ac' k = false) {o:Int}:∀ {j:Nat},j ≤ n → Nbv ac' ob' (if j < k then j else j + 1) o = (Nbv ac ob j o).map (shK k)
 | 0,_ => by
   by_cases h:0 < k
   ·rw [if_pos h]; rfl
   ·rw [if_neg h]
    have:k = 0:=by omega
    subst this
    simp [Nbv,h0]
 | j + 1,hj => by
   have ih:=Ne6 hk ha hb h0 (o:=o) (j:=j) Zaa
   have a1:=ha j Zaa
   have b1:=hb j Zaa
   have body:∀ q,q = shK k j → Nbv ac' ob' q o = (Nbv ac ob j o).map (shK k) → Nbv ac' ob' (q + 1) o = (Nbv ac ob (j + 1) o).map (shK k):=by
    intro q hq hs
    rw [Nbv,Nbv,hq,a1,b1,← hq,hs]
    split
    ·rw [List.map_append,hq]; rfl
    ·rfl
   have main:=body (shK k j) rfl ih
   by_cases h1:j + 1 < k
   ·rw [if_pos h1]
    have e:shK k j = j:=by unfold shK; rw [if_pos Zaa]
    rw [e] at main
    exact main
   ·rw [if_neg h1]
    by_cases h2:j < k
    ·have e:shK k j = j:=by unfold shK; rw [if_pos h2]
     rw [e] at main
     have hkj:k = j + 1:=by omega
     have e0:Nbv ac' ob' (j + 1 + 1) o = Nbv ac' ob' (j + 1) o:=by
      rw [Nbv,show ac' (j + 1) = false from hkj ▸ h0]
      simp
     rw [e0]
     exact main
    ·have e:shK k j = j + 1:=by unfold shK; rw [if_neg h2]
     rw [e] at main
     exact main
def shP (k:Nat) (p:Nat × Nat):Nat × Nat:=(shK k p.1,shK k p.2)
theorem Nf1 {n k:Nat} (hk:k ≤ n) (ha:∀ i,i < n → ac' (shK k i) = ac i) (hb:∀ i,i < n → ob' (shK k i) = ob i) (h0:ac' k = false) (hr:∀ i j,i < j → j < n → ac i = true → ac j = true → ob i = ob j → rc' (shK k i) (shK k j) = rc i j) {o:Int}:∀ {j:Nat},j ≤ n → NeH ac' ob' rc' (if j < k then j else j + 1) o = (NeH ac ob rc j o).map (shP k)
 | 0,_ => by
   by_cases h:0 < k
   ·rw [if_pos h]; rfl
   ·rw [if_neg h]
    have:k = 0:=by omega
    subst this
    simp [NeH,h0]
 | j + 1,hj => by
   have ih:=Nf1 hk ha hb h0 hr (o:=o) (j:=j) Zaa
   have is:=Ne6 hk ha hb h0 (o:=o) (j:=j) Zaa
   have a1:=ha j Zaa
   have b1:=hb j Zaa
   have e0:(if j < k then j else j + 1) = shK k j:=rfl
   rw [e0] at ih is
   have main:NeH ac' ob' rc' (shK k j + 1) o = (NeH ac ob rc (j + 1) o).map (shP k):=by
    rw [NeH,NeH,a1,b1,ih,is]
    split
    ·rename_i c
     simp only [Bool.and_eq_true,beq_iff_eq] at c
     have hf:NfZ rc' (shK k j) ((Nbv ac ob j o).map (shK k)) = (NfZ rc j (Nbv ac ob j o)).map (shP k):=by
      unfold NfZ
      rw [NhA (rc:=rc) (j:=j) fun i hi => by
       have h:=Nc2 hi
       exact hr i j h.1 Zaa h.2.1 c.1 (h.2.2.trans c.2.symm)]
      cases (Nbv ac ob j o).find? (rc · j) <;> rfl
     rw [hf]
     cases NeH ac ob rc j o <;> rfl
    ·rfl
   by_cases h1:j + 1 < k
   ·rw [if_pos h1]
    have e:shK k j = j:=by unfold shK; rw [if_pos Zaa]
    rw [e] at main
    exact main
   ·rw [if_neg h1]
    by_cases h2:j < k
    ·have e:shK k j = j:=by unfold shK; rw [if_pos h2]
     rw [e] at main
     have hkj:k = j + 1:=by omega
     have e0:NeH ac' ob' rc' (j + 1 + 1) o = NeH ac' ob' rc' (j + 1) o:=by
      rw [NeH,show ac' (j + 1) = false from hkj ▸ h0]
      simp
     rw [e0]
     exact main
    ·have e:shK k j = j + 1:=by unfold shK; rw [if_neg h2]
     rw [e] at main
     exact main
end
section
variable {th th':Nat → Int} {gv tk gv' tk':Nat → List Ch}
theorem Ah.congr {n:Nat} (h:∀ i j,i < j → j < n → Hd th gv tk i j → Hd th' gv' tk' i j) {i j:Nat} (ha:Ah th gv tk i j) (hj:j < n):Ah th' gv' tk' i j:=by
 induction ha with
 | one g => exact .one (h _ _ g.1 hj g)
 | step a g ih => exact .step (ih (by have:=g.1; omega)) (h _ _ g.1 hj g)
theorem NhW {k i j:Nat}:shK k i < shK k j ↔ i < j:=by unfold shK; split <;> split <;> omega
theorem Nl1 {k b:Nat} (h:b ≠ k):∃ j,b = shK k j:=by
 by_cases h1:b < k
 ·exact ⟨b,by unfold shK; rw [if_pos h1]⟩
 ·exact ⟨b - 1,by unfold shK; rw [if_neg Zaa]; omega⟩
theorem Ah.shift {n k:Nat} (h:∀ i j,i < j → j < n → Hd th gv tk i j → Hd th' gv' tk' (shK k i) (shK k j)) {i j:Nat} (ha:Ah th gv tk i j) (hj:j < n):Ah th' gv' tk' (shK k i) (shK k j):=by
 induction ha with
 | one g => exact .one (h _ _ g.1 hj g)
 | step a g ih => exact .step (ih (by have:=g.1; omega)) (h _ _ g.1 hj g)
theorem Ah.unshift {n k:Nat} (hkn:k ≤ n) (ht:∀ i,i < n → th' (shK k i) = th i) (hg:∀ i,i < n → gv' (shK k i) = gv i) (hk:∀ i,i < n → tk' (shK k i) = tk i) (g0:gv' k = []) (k0:tk' k = []) {i:Nat} (hi:i < n):∀ {b:Nat},Ah th' gv' tk' (shK k i) b → (∀ j,b = shK k j → j < n → Ah th gv tk i j) ∧ (b = k → ∃ m,m < k ∧ m < n ∧ th m = th' k ∧ (m = i ∨ Ah th gv tk i m)):=by
 intro b ha
 have key:∀ i j,i < n → j < n → Hd th' gv' tk' (shK k i) (shK k j) → Hd th gv tk i j:=by
  intro i j hi hj g
  obtain ⟨g1,g2⟩:=g
  rw [ht i hi,ht j hj,hg i hi,hk j hj] at g2
  exact ⟨NhW.1 g1,g2⟩
 have inK:∀ i,i < n → Hd th' gv' tk' (shK k i) k → i < k ∧ th i = th' k:=by
  intro i hi g
  obtain ⟨g1,g2⟩:=g
  refine ⟨?_,?_⟩
  ·unfold shK at g1; split at g1 <;> omega
  ·rcases g2 with g2 | ⟨q,q1,q2⟩
   ·rw [← ht i hi]; exact g2
   ·rw [k0] at q2; simp at q2
 have outK:∀ j,j < n → Hd th' gv' tk' k (shK k j) → k ≤ j ∧ th' k = th j:=by
  intro j hj g
  obtain ⟨g1,g2⟩:=g
  refine ⟨?_,?_⟩
  ·unfold shK at g1; split at g1 <;> omega
  ·rcases g2 with g2 | ⟨q,q1,q2⟩
   ·rw [← ht j hj]; exact g2
   ·rw [g0] at q1; simp at q1
 obtain ⟨a,hae⟩:∃ a,shK k i = a:=⟨_,rfl⟩
 rw [hae] at ha
 induction ha with
 | one g =>
   subst hae
   refine ⟨fun j hj hjn => .one (key i j hi hjn (hj ▸ g)),fun hb => ?_⟩
   subst hb
   have:=inK i hi g
   exact ⟨i,this.1,hi,this.2,.inl rfl⟩
 | @step m b a g ih =>
   refine ⟨fun j hj hjn => ?_,fun hb => ?_⟩
   ·subst hj
    by_cases hm:m = k
    ·subst hm
     obtain ⟨p,p1,p2,p3,p4⟩:=ih.2 rfl
     obtain ⟨o1,o2⟩:=outK j hjn g
     have hd:Hd th gv tk p j:=⟨by omega,.inl (p3.trans o2)⟩
     rcases p4 with rfl | p4
     ·exact .one hd
     ·exact .step p4 hd
    ·obtain ⟨m',rfl⟩:=Nl1 hm
     have hlt:=NhW.1 g.1
     exact .step (ih.1 m' rfl Zaa) (key m' j Zaa hjn g)
   ·subst hb
    obtain ⟨m',rfl⟩:=Nl1 (show m ≠ b by have:=g.1; omega)
    have hmk:m' < n ∨ n ≤ m':=by omega
    rcases hmk with hmn | hmn
    ·have:=inK m' hmn g
     exact ⟨m',this.1,hmn,this.2,.inr (ih.1 m' rfl hmn)⟩
    ·exfalso
     have h1:=g.1
     have h2:m' < b:=by unfold shK at h1; split at h1 <;> omega
     omega
end
def Ngz (cd:Cd) (l:List Et) (i:Nat):Bool:=(kdE cd (l.getD i etZ)).K == 9 && ((l.getD i etZ).O == 22 || (l.getD i etZ).O == 23)
def jL (l:List Et) (i:Nat):Int:=(l.getD i etZ).J
def wrB (l:List Et) (i:Nat):Bool:=(l.getD i etZ).O == 23
def rcB (cd:Cd) (l:List Et) (i j:Nat):Bool:=!(thL l i == thL l j) && (wrB l i || wrB l j) && !decide (aT (NdA cd l i) (thL l i) ≤ aT (NdA cd l j) (thL l i))
abbrev Nc3 (cd:Cd) (l:List Et):=Nbv (Ngz cd l) (jL l)
abbrev Nfq (cd:Cd) (l:List Et):=NeH (Ngz cd l) (jL l) (rcB cd l)
def Nl0 (cd:Cd) (l:List Et) (o:Nat):Option (Nat × Nat × Nat):=(Nfq cd l l.length (o:Int)).map fun p => (o,p.1,p.2)
def NeJ (cd:Cd) (l:List Et) (n:Nat):List (Nat × Nat × Nat):=(List.range n).filterMap (Nl0 cd l)
def Nnw (ck:Int) (cd:Cd) (l:List Et):List (Nat × Nat × Nat):=if trV ck cd l = true then NeJ cd l cd.O.length else []
def rcC (r:Nat × Nat × Nat):List PV:=[.i .i64 (r.1:Int),.i .i64 (r.2.1:Int),.i .i64 (r.2.2:Int)]
def Nnf (rs:List (Nat × Nat × Nat)):PV:=if rs = [] then .nsl else .osl 3 rs.length (rs.flatMap rcC)
theorem NjS {cd:Cd} {l:List Et} (hv:∀ e,e ∈ l → EtOK cd e) (hl:l.length < 1000) {i j:Nat} (hij:i < j) (hj:j < l.length):rcB cd l i j = true ↔ ¬ thL l i = thL l j ∧ (wrB l i || wrB l j) = true ∧ ¬ AhE cd l i j:=by
 have hth:∀ k,k < l.length → 0 ≤ thL l k ∧ thL l k < 64:=fun k _ => by have:=Ne9 hv k; omega
 have h:aT (NdA cd l i) (thL l i) ≤ aT (NdA cd l j) (thL l i) ↔ AhE cd l i j:=NiC (th:=thL l) (gv:=gvL cd l) (tk:=tkL cd l) (N:=l.length) Zaa hth hij hj
 rw [← h]
 unfold rcB
 simp only [Bool.and_eq_true,Bool.not_eq_true',beq_eq_false_iff_ne,decide_eq_false_iff_not,and_assoc,ne_eq]
theorem NjR {cd:Cd} {l l':List Et} (hv:∀ e,e ∈ l → EtOK cd e) (hv':∀ e,e ∈ l' → EtOK cd e) (hl:l.length < 1000) (hl':l'.length < 1000) {i j i' j':Nat} (hij:i < j) (hj:j < l.length) (hij':i' < j') (hj':j' < l'.length) (ht:thL l' i' = thL l' j' ↔ thL l i = thL l j) (hw:(wrB l' i' || wrB l' j') = (wrB l i || wrB l j)) (ha:AhE cd l' i' j' ↔ AhE cd l i j):rcB cd l' i' j' = rcB cd l i j:=by
 rw [Bool.eq_iff_iff,NjS hv hl hij hj,NjS hv' hl' hij' hj',ht,hw,ha]
theorem Ni9 {l:List Et} {i:Nat} (hi:i < l.length):l.getD i etZ = l[i]:=by
 rw [List.getD_eq_getElem?_getD,List.getElem?_eq_getElem hi]; rfl
theorem Nn9 {l:List Et} {k i:Nat} {m:Et} (hk:k ≤ l.length):(l.take k ++ m :: l.drop k)[shK k i]? = l[i]?:=by
 unfold shK
 split
 ·rw [List.getElem?_append_left (by rw [List.length_take]; omega),List.getElem?_take_of_lt Zaa]
 ·rw [List.getElem?_append_right (by rw [List.length_take]; omega),List.length_take,Nat.min_eq_left hk,show i + 1 - k = (i - k) + 1 by omega,List.getElem?_cons_succ,List.getElem?_drop]
  congr 1
  omega
theorem Np2 {l:List Et} {k:Nat} {m:Et} (hk:k ≤ l.length):(l.take k ++ m :: l.drop k)[k]? = some m:=by
 rw [List.getElem?_append_right (by rw [List.length_take]; omega),List.length_take,Nat.min_eq_left hk,Nat.sub_self]
 rfl
def NlU (t:Int):Et:=⟨t,27,0,0,0⟩
theorem Nlg {cd:Cd} {l:List Et} (hv:∀ e,e ∈ l → EtOK cd e) {k:Nat} (hk:k ≤ l.length) {t:Int} (ht:0 ≤ t ∧ t ≤ 63) (h0:0 < cd.O.length) (hl:l.length < 900) (N:Nat):NeJ cd (l.take k ++ NlU t :: l.drop k) N = (NeJ cd l N).map fun r => (r.1,shK k r.2.1,shK k r.2.2):=by
 obtain ⟨l',hl'⟩:∃ l',l.take k ++ NlU t :: l.drop k = l':=⟨_,rfl⟩
 have hA:∀ i,l'.getD (shK k i) etZ = l.getD i etZ:=fun i => by rw [List.getD_eq_getElem?_getD,List.getD_eq_getElem?_getD,← hl',Nn9 hk]
 have hK:l'.getD k etZ = NlU t:=by rw [List.getD_eq_getElem?_getD,← hl',Np2 hk]; rfl
 have hlen:l'.length = l.length + 1:=by rw [← hl',List.length_append,List.length_cons,List.length_take,List.length_drop]; omega
 have hv':∀ e,e ∈ l' → EtOK cd e:=by
  intro e he
  rw [← hl'] at he
  rcases List.mem_append.1 he with he | he
  ·exact hv e (List.mem_of_mem_take he)
  rcases List.mem_cons.1 he with rfl | he
  ·exact ⟨Int.le_refl _,h0,ht.1,ht.2⟩
  ·exact hv e (List.mem_of_mem_drop he)
 rw [hl']
 have hT:∀ i,thL l' (shK k i) = thL l i:=fun i => by unfold thL; rw [hA]
 have hG:∀ i,gvL cd l' (shK k i) = gvL cd l i:=fun i => by unfold gvL; rw [hA]
 have hTk:∀ i,tkL cd l' (shK k i) = tkL cd l i:=fun i => by unfold tkL; rw [hA]
 have g0:gvL cd l' k = []:=by unfold gvL; rw [hK]; unfold gvE NaY NlU; simp
 have k0:tkL cd l' k = []:=by unfold tkL; rw [hK]; unfold tkE Na4 NlU; simp
 have hAh:∀ i j,i < j → j < l.length → (AhE cd l' (shK k i) (shK k j) ↔ AhE cd l i j):=by
  intro i j hij hj
  constructor
  ·intro h
   exact (Ah.unshift (n:=l.length) hk (fun i _ => hT i) (fun i _ => hG i) (fun i _ => hTk i) g0 k0 Zaa h).1 j rfl hj
  ·intro h
   refine h.shift (n:=l.length) (fun a b hab hb g => ⟨NhW.2 g.1,?_⟩) hj
   have g2:=g.2
   rwa [← hT a,← hT b,← hG a,← hTk b] at g2
 have main:∀ o:Int,Nfq cd l' l'.length o = (Nfq cd l l.length o).map (shP k):=by
  intro o
  have:=Nf1 (n:=l.length) (k:=k) (ac:=Ngz cd l) (ac':=Ngz cd l') (ob:=jL l) (ob':=jL l') (rc:=rcB cd l) (rc':=rcB cd l') hk (fun i _ => by unfold Ngz; rw [hA]) (fun i _ => by unfold jL; rw [hA]) (by unfold Ngz; rw [hK]; unfold NlU; simp) (fun i j hij hj _ _ _ => NjR hv hv' Zaa Zaa hij hj (NhW.2 hij) (by rw [hlen]; unfold shK; split <;> omega) (by rw [hT,hT]) (by unfold wrB; rw [hA,hA]) (hAh i j hij hj)) (o:=o) (j:=l.length) (Nat.le_refl _)
  rw [if_neg Zaa] at this
  rw [hlen]
  exact this
 unfold NeJ
 rw [List.map_filterMap]
 congr 1
 funext o
 unfold Nl0
 rw [main]
 cases Nfq cd l l.length (o:Int) <;> rfl
end Go.Pe
