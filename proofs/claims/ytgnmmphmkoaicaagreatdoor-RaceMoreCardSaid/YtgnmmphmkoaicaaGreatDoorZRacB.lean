/-
 Races: what an event takes and gives, walked. No condition.
-/
import Derived.Test.YtgnmmphmkoaicaaGreatDoorZRacM
import Derived.Test.YtgnmmphmkoaicaaGreatDoorZClkP
import Derived.Test.YtgnmmphmkoaicaaGreatDoorZPeB
import Derived.Test.YtgnmmphmkoaicaaGreatDoorZChkMf
set_option linter.unusedVariables false
set_option linter.unusedSimpArgs false
open Nat renaming reduceAdd → rA,reduceMul → rB,reduceLT → rC,reduceEqDiff → rD,reduceLeDiff → rE
namespace Go.Pe
open Go Go.Am Go.RowKit

structure MK {α:Type} [DecidableEq α] (κ:α → PV) (ck:Nat) (es:List (PV × PV)) (f:α → Option PV):Prop where
 keys:∀ p,p ∈ es → ∃ a,p.1 = κ a
 get:∀ a,NaT ck (κ a) es = some (f a)
section
variable {α:Type} [DecidableEq α] {κ:α → PV} {ck:Nat}
def KEq (κ:α → PV) (ck:Nat):Prop:=∀ a b,eq1 ck (κ a) (κ b) = some (decide (a = b))
theorem KEq.self (h:KEq κ ck) (a:α) (e:ck = 3):eq1 3 (κ a) (κ a) = some true:=by
 have:=h a a
 rw [e] at this
 simpa using this
theorem MK.nil (h:KEq κ ck):MK κ ck [] fun _ => none:=by
 refine ⟨by simp,fun a => ?_⟩
 rw [NaT]
 split
 ·rename_i e; rw [h.self a e]; rfl
 ·rfl
theorem MK.tail {p:PV × PV} {es:List (PV × PV)} {a:α} (h:KEq κ ck) (hp:p.1 = κ a) {f:α → Option PV} (hm:MK κ ck (p :: es) f):∃ g,MK κ ck es g ∧ f = fun b => if b = a then some p.2 else g b:=by
 have h2:∀ b,b ≠ a → NaT ck (κ b) es = some (f b):=fun b hb => by
  have:=hm.get b
  rw [show p = (p.1,p.2) from rfl,NaT,hp,h b a,decide_eq_false hb] at this
  exact this
 have h3:∃ g:Option PV,NaT ck (κ a) es = some g:=by
  have key:∀ l:List (PV × PV),(∀ q,q ∈ l → ∃ a,q.1 = κ a) → ∃ g:Option PV,NaT ck (κ a) l = some g:=by
   intro l
   induction l with
   | nil => intro _; exact ⟨none,(MK.nil h).get a⟩
   | cons q r ih =>
     intro hq
     obtain ⟨b,hb⟩:=hq q Zag
     obtain ⟨g,hg⟩:=ih fun x hx => hq x (by simp [hx])
     rw [show q = (q.1,q.2) from rfl,NaT,hb,h a b]
     by_cases e:a = b
     ·rw [decide_eq_true e]; exact ⟨_,rfl⟩
     ·rw [decide_eq_false e]; exact ⟨g,hg⟩
  exact key es fun q hq => hm.keys q (by simp [hq])
 obtain ⟨g,hg⟩:=h3
 refine ⟨fun b => if b = a then g else f b,⟨fun q hq => hm.keys q (by simp [hq]),fun b => ?_⟩,?_⟩
 ·by_cases e:b = a
  ·subst e; rw [hg]; simp
  ·rw [h2 b e]; simp [e]
 ·funext b
  by_cases e:b = a
  ·subst e
   have:=hm.get b
   rw [show p = (p.1,p.2) from rfl,NaT,hp,h b b,decide_eq_true rfl] at this
   simp only [Sj] at this
   simp [← this]
  ·simp [e]
theorem MK.put (h:KEq κ ck) (a:α) (v:PV):∀ {es:List (PV × PV)} {f:α → Option PV},MK κ ck es f → ∃ es',Nbb ck (κ a) v es = some es' ∧ MK κ ck es' fun b => if b = a then some v else f b
 | [],f,hm => by
   have hf:f = fun _ => none:=by
    funext b
    have:=hm.get b
    rw [(MK.nil h).get b] at this
    simpa using this.symm
   subst hf
   refine ⟨[(κ a,v)],?_,?_⟩
   ·rw [Nbb]
    split
    ·rename_i e; rw [h.self a e]; rfl
    ·rfl
   ·refine ⟨fun p hp => ⟨a,by simp at hp; rw [hp]⟩,fun b => ?_⟩
    rw [NaT,h b a]
    by_cases e:b = a
    ·rw [decide_eq_true e]; simp [e]
    ·rw [decide_eq_false e]; simp only [e,if_false]; exact (MK.nil h).get b
 | p :: es,f,hm => by
   obtain ⟨c,hc⟩:=hm.keys p Zag
   obtain ⟨g,hg,rfl⟩:=hm.tail h hc
   rw [show p = (p.1,p.2) from rfl,Nbb,hc,h a c]
   by_cases e:a = c
   ·subst e
    rw [decide_eq_true rfl]
    refine ⟨_,rfl,fun q hq => ?_,fun b => ?_⟩
    ·rcases List.mem_cons.1 hq with rfl | hq
     ·exact ⟨a,rfl⟩
     ·exact hg.keys q hq
    ·rw [NaT,h b a]
     by_cases e:b = a
     ·rw [decide_eq_true e]; simp [e]
     ·rw [decide_eq_false e]; simp only [e,if_false]; exact hg.get b
   ·rw [decide_eq_false e]
    obtain ⟨es',h1,h2⟩:=MK.put h a v hg
    rw [h1]
    refine ⟨_,rfl,fun q hq => ?_,fun b => ?_⟩
    ·rcases List.mem_cons.1 hq with rfl | hq
     ·exact ⟨c,rfl⟩
     ·exact h2.keys q hq
    ·rw [NaT,h b c]
     by_cases e2:b = c
     ·rw [decide_eq_true e2]; subst e2; simp [Ne.symm e]
     ·rw [decide_eq_false e2]
      simp only [h2.get b]
      simp [e2]
end
def Noa (n:Int):PV:=.i .i64 n
def chP (q:Ch):PV:=.agg [.i .i64 q.1,.i .i64 q.2]
theorem Ndg:KEq Noa 0:=fun a b => by
 simp only [Noa,eq1,and_self,if_true,Sj]
 rw [Bool.eq_iff_iff]; simp
theorem NlR:KEq chP 3:=fun a b => by
 rw [show chP a = .agg [.i .i64 a.1,.i .i64 a.2] from rfl,show chP b = .agg [.i .i64 b.1,.i .i64 b.2] from rfl]
 simp only [eq1,and_self,if_true,Sj]
 by_cases h:a = b
 ·subst h; simp
 ·rw [decide_eq_false h]
  cases h1:(a.1 == b.1) with
  | false => rfl
  | true =>
    cases h2:(a.2 == b.2) with
    | false => rfl
    | true => exact absurd (Prod.ext (by simpa using h1) (by simpa using h2)) h
def CV (st:St) (b:Nat) (v:PV) (a:List Int):Prop:=(v = .nsl ∧ a = []) ∨ a ≠ [] ∧ ∃ k,v = .rsl k 1 0 a.length ∧ k < b ∧ st.get k = some (.cells (Nbd a) false)
theorem CV.move {st st':St} {b b':Nat} {v:PV} {a:List Int} (h:CV st b v a) (hb:b ≤ b') (hg:∀ j,j < b → j ∈ keyOf v → st'.get j = st.get j):CV st' b' v a:=by
 rcases h with h | ⟨h0,k,rfl,h1,h2⟩
 ·exact .inl h
 ·exact .inr ⟨h0,k,rfl,by omega,by rw [hg k h1 (by simp [keyOf])]; exact h2⟩
theorem CV.deep {st:St} {b:Nat} {v:PV} {a:List Int} (h:CV st b v a):∃ w,Go.Pe.deep st 12 v = some w ∧ inNs w = some a:=by
 rcases h with ⟨rfl,rfl⟩ | ⟨h0,k,rfl,h1,h2⟩
 ·exact ⟨.nsl,rfl,rfl⟩
 ·refine ⟨_,?_,NkW h0⟩
  show Go.Pe.deep st (11 + 1) _ = _
  unfold Go.Pe.deep
  simp only [h2,cut?,Nat.zero_add,List.drop_zero]
  rw [if_pos (by rw [Na2]; omega),Nat.mul_one,← Na2 a,List.take_length]
  have:mapO (Go.Pe.deep st 11) (Nbd a) = some (Nbd a):=by
   generalize a = l
   clear h0 h1 h2
   induction l with
   | nil => rfl
   | cons c r ih =>
     have e:Go.Pe.deep st 11 (.i .i64 c) = some (.i .i64 c):=rfl
     show mapO _ (.i .i64 c :: Nbd r) = _
     simp only [mapO,e,ih]
     rfl
  simp only [this]
  rfl
theorem CV.one {st:St} {b:Nat} {v:PV} {a:List Int} (h:CV st b v a):v.one = true:=by
 rcases h with ⟨rfl,rfl⟩ | ⟨h0,k,rfl,h1,h2⟩ <;> rfl
end Go.Pe
namespace Go.Pe
open Go Go.Am Go.RowKit

structure CfgR (cfg:Cfg):Prop where
 fn:∀ f m,NcZ f tblL = some m → cfg.fn f = some m
 jn:cfg.ext 75 = some gJoin
 tk:cfg.ext 72 = some gTick
 r1:cfg.ext 73 = none
 r2:cfg.ext 43 = none
 r3:cfg.ext 74 = none
 r4:cfg.ext 76 = none
 r5:cfg.ext 105 = none
 r6:cfg.ext 44 = none
 r7:cfg.ext 25 = none
 r8:cfg.ext 24 = none
theorem NhG {cfg:Cfg} (hc:CfgR cfg) {callE:CallE} {p q:PV} {xs ys:List Int} (hp:inNs p = some xs) (hq:inNs q = some ys) (h1:NaN xs = true) (h2:NaN ys = true) (hn:Nbq xs ys ≠ []) :
 Nak cfg callE 75 [p,q] = some (.osl 1 (Nbq xs ys).length (Nbd (Nbq xs ys))):=by
 rw [Nbj hc.jn]
 unfold gJoin
 simp only [hp,hq]
 rw [if_pos ⟨h1,h2,hn⟩]
theorem NcM (xs:List Int):(PV.osl 1 xs.length (Nbd xs)).closedB = true:=by
 show (Nbd xs).all (PV.closed 11) = true
 simp [Nbd,PV.closed]
theorem NdI {xs ys:List Int} (h:xs ≠ []):Nbq xs ys ≠ []:=by
 intro e
 have:=Nbr xs ys
 rw [e] at this
 simp only [List.length_nil] at this
 exact h (List.eq_nil_of_length_eq_zero Zaa)
theorem CV.new {st:St} {k:Nat} {a:List Int} (h0:a ≠ []) (hk:k < st.cnt) (hg:st.get k = some (.cells (Nbd a) false)):CV st st.cnt (.rsl k 1 0 a.length) a:=.inr ⟨h0,k,rfl,hk,hg⟩
theorem Nnl {cfg:Cfg} (hc:CfgR cfg) {fuel N B W Cm:Nat} {st:St} {v c1 c2 tm:PV} {n a:List Int} {k:Ch} {fs:List (PV × PV)} {f:Ch → Option PV}
 (hN:st.get N = some (.cells [v] false)) (hv:CV st st.cnt v n) (hB:st.get B = some (.cells [.ptr W 0] false)) (hW:st.get W = some (.cells [c1,c2,tm,.mp Cm] false)) (hC:st.get Cm = some (.map fs)) (hm:MK chP 3 fs f) (hf:CV st st.cnt ((f k).getD .nsl) a)
 (hn:n ≠ []) (s1:NaN n = true) (s2:NaN a = true) (lN:N < st.cnt) (lB:B < st.cnt) (lW:W < st.cnt) (lC:Cm < st.cnt) :
 ∃ r st',NaE cfg (fuel + 1) 74 [chP k,.ptr N 0,.ptr B 0] st = some (r,st') ∧ (∃ v',st'.get N = some (.cells [v'] false) ∧ CV st' st'.cnt v' (Nbq n a) ∧ (∀ j,j ∈ keyOf v' → st.cnt ≤ j) ∧ (∀ j,j < st.cnt → j ≠ N → st'.get j = st.get j) ∧ st.cnt ≤ st'.cnt):=by
 refine NaB (hc.fn _ _ (by kernel_rfl):cfg.fn 74 = some m74) ?_
 delta m74 Qr Qf Qc Ql Qt Qn chP
 obtain ⟨sto,c⟩:=st
 have hN':∀ n',St.get ⟨sto,n'⟩ N = _:=fun _ => hN
 have hB':∀ n',St.get ⟨sto,n'⟩ B = _:=fun _ => hB
 have hW':∀ n',St.get ⟨sto,n'⟩ W = _:=fun _ => hW
 have hC':∀ n',St.get ⟨sto,n'⟩ Cm = _:=fun _ => hC
 simp only at lN lB lW lC
 have hg:NaT 3 (.agg [.i .i64 k.1,.i .i64 k.2]) fs = some (f k):=hm.get k
 simp only [Nal]
 iterate 2
  (try rw [Z0])
  (try simp (maxSteps:=2000000) (disch:=first | omega | rfl | assumption) only [↓Yaa,Yab,Nae,Naa,rA,rB,rC,rD,reduceIte,unP,rE,hN',hB',hW',hC',hg,Option.map_some])
 have hput:∀ (o:Option PObj) (n' j:Nat),j < c → St.get ⟨(St.put ⟨sto,c + 8⟩ c o).sto,n'⟩ j = St.get ⟨sto,c⟩ j:=fun o n' j hj => by
  show St.get (St.put ⟨sto,c + 8⟩ c o) j = _
  rw [Yad Zaa]; rfl
 obtain ⟨pv,d1,i1⟩:=(hv.move (b':=c) (st':=⟨(St.put ⟨sto,c + 8⟩ c (some (.cells [.i .i64 k.1,.i .i64 k.2] false))).sto,c + 80⟩) (Nat.le_refl _) fun j hj _ => hput _ _ j hj).deep
 obtain ⟨pf,d2,i2⟩:=(hf.move (b':=c) (st':=⟨(St.put ⟨sto,c + 8⟩ c (some (.cells [.i .i64 k.1,.i .i64 k.2] false))).sto,c + 80⟩) (Nat.le_refl _) fun j hj _ => hput _ _ j hj).deep
 refine Nke (NaX d1 d2) (NhG hc i1 i2 s1 s2 (NdI hn)) (NcM _) (by rw [Na2,Nat.mul_one]) Zad ?_
 intro st' hown hget hcnt hj
 have hold:∀ j,j < c → st'.get j = St.get ⟨sto,c⟩ j:=fun j hj2 => (hj j Zaa).trans (hput _ _ j hj2)
 have hN2:st'.get N = some (.cells [v] false):=(hold N lN).trans hN
 simp only at hcnt
 simp (disch:=first | omega | rfl | assumption) only [↓Xp,↓Xt,Xq,Xc,Nae,Naa,rA,rB,rC,rD,reduceIte,Xa,Xn,unP,Nab,Nac,Nad,Xm,rE,hN2]
 exact ⟨nofun,_,rfl,_,rfl,CV.new (NdI hn) (by simp only [Z0L_]; omega) (by rw [Yad (by omega)]; exact hget),by simp [keyOf],fun j hj1 hj2 => by rw [Yad Zaa]; exact hold j hj1⟩
theorem NmM {cfg:Cfg} (hc:CfgR cfg) {fuel O:Nat} {st:St} {tv:PV} {to:List Ch} {k:Ch}
 (hO:st.get O = some (.cells [tv] false)) (hv:Own st 2 tv to.length (to.flatMap fun q => [.i .i64 q.1,.i .i64 q.2])) (hne:O ∉ keyOf tv) (lO:O < st.cnt) (hl:to.length < 1000) :
 ∃ r st',NaE cfg (fuel + 1) 76 [chP k,.ptr O 0] st = some (r,st') ∧ (∃ v',st'.get O = some (.cells [v'] false) ∧ Own st' 2 v' (to ++ [k]).length ((to ++ [k]).flatMap fun q => [.i .i64 q.1,.i .i64 q.2]) ∧ (∀ j,j ∈ keyOf v' → st.cnt ≤ j) ∧ (∀ j,j < st.cnt → j ≠ O → j ∉ keyOf tv → st'.get j = st.get j) ∧ st.cnt ≤ st'.cnt):=by
 refine NaB (hc.fn _ _ (by kernel_rfl):cfg.fn 76 = some m76) ?_
 delta m76 Ql Qt Qn chP
 obtain ⟨sto,c⟩:=st
 have hO':∀ n',St.get ⟨sto,n'⟩ O = _:=fun _ => hO
 simp only at lO
 simp only [Nal]
 iterate 2
  (try rw [Z0])
  (try simp (maxSteps:=2000000) (disch:=first | omega | rfl | assumption) only [↓Yaa,Yab,Nae,Naa,rA,rB,rC,rD,reduceIte,unP,rE,hO',Naj])
 have hput:∀ (o o2:Option PObj) (n' n2 j:Nat),j < c → St.get (St.put ⟨(St.put ⟨sto,n2⟩ c o).sto,n'⟩ (c + 24) o2) j = St.get ⟨sto,c⟩ j:=fun o o2 n' n2 j hj => by
  rw [Yad Zaa]
  show St.get (St.put ⟨sto,n2⟩ c o) j = _
  rw [Yad Zaa]; rfl
 refine NbM (hv.move (by simp only [Z0L_]; omega) fun j _ hj => hput _ _ _ _ j hj) (by simp only [Z0L_]; omega) (fun h => by have:=hv.lt _ h; simp only at this; omega) rfl Zaa (by unfold NaL; omega) ?_
 intro v' st' hown hcnt hkey hj
 have hold:∀ j,j < c → j ∉ keyOf tv → st'.get j = St.get ⟨sto,c⟩ j:=fun j hj2 hj3 => (hj j Zaa hj3).trans (hput _ _ _ _ j hj2)
 have hO2:st'.get O = some (.cells [tv] false):=(hold O lO hne).trans hO
 simp only [Z0L_] at hcnt
 have hv1:v'.one = true ∧ v'.cells = [v']:=by rcases hown with ⟨rfl,_⟩ | ⟨_,rfl,_⟩ <;> exact ⟨rfl,rfl⟩
 simp (disch:=first | omega | rfl | assumption) only [↓Xp,↓Xt,Xq,Xc,Nae,Naa,rA,rB,rC,rD,reduceIte,Xa,Xn,unP,Nab,Nac,Nad,Xm,rE,hO2,hv1.1,hv1.2]
 have hk1:∀ k,k ∈ keyOf v' → k ≠ O:=fun k hk => by have:=hkey k hk; omega
 exact ⟨nofun,_,rfl,_,rfl,by
  rw [List.flatMap_append,List.length_append]
  exact hown.put (fun h => (hk1 O h) rfl),fun j h => by have:=hkey j h; omega,fun j hj1 hj2 hj3 => by rw [Yad (Ne.symm hj2)]; exact hold j hj1 hj3⟩
def Npl (l:List Ch):List PV:=l.flatMap fun q => [.i .i64 q.1,.i .i64 q.2]
theorem Nkp (l:List Ch):(Npl l).length = l.length * 2:=Nav (f:=fun q:Ch => [.i .i64 q.1,.i .i64 q.2]) (w:=2) (fun _ => rfl) l
structure WS (base st:St) (N O:Nat) (n:List Int) (to:List Ch):Prop where
 cnt:base.cnt ≤ st.cnt
 fr:∀ j,j < base.cnt → j ≠ N → j ≠ O → st.get j = base.get j
 vt:∃ v tv,st.get N = some (.cells [v] false) ∧ CV st st.cnt v n ∧ st.get O = some (.cells [tv] false) ∧ Own st 2 tv to.length (Npl to) ∧ (∀ k,k ∈ keyOf tv → base.cnt ≤ k) ∧ ∀ k,k ∈ keyOf v → k ∉ keyOf tv ∧ k ≠ N ∧ k ≠ O ∧ N ≤ k + 8
structure WBs (base:St) (N O B W Cm:Nat) (C:Ch → List Int):Prop where
 lt:N < base.cnt ∧ O < base.cnt ∧ B < base.cnt ∧ W < base.cnt ∧ Cm < base.cnt
 ne:N ≠ O ∧ B ≠ N ∧ B ≠ O ∧ W ≠ N ∧ W ≠ O ∧ Cm ≠ N ∧ Cm ≠ O
 gB:base.get B = some (.cells [.ptr W 0] false)
 gW:∃ c1 c2 tm,base.get W = some (.cells [c1,c2,tm,.mp Cm] false)
 gC:∃ fs f,base.get Cm = some (.map fs) ∧ MK chP 3 fs f ∧ ∀ q,CV base base.cnt ((f q).getD .nsl) (C q) ∧ ∀ k,k ∈ keyOf ((f q).getD .nsl) → k ≠ N ∧ k ≠ O
 sh:∀ q,NaN (C q) = true
theorem NcF {a b:List Int} (ha:NaN a = true) (hb:NaN b = true):NaN (Nbq a b) = true:=by
 have hg:∀ {a:List Int},NaN a = true → a.length < 1000 ∧ ∀ i,0 ≤ gi a i ∧ gi a i ≤ 9223372036854775807:=by
  intro a ha
  unfold NaN at ha
  simp only [Bool.and_eq_true,List.all_eq_true,decide_eq_true_eq] at ha
  refine ⟨by have:=ha.1; simp [Nat.blt] at this; omega,fun i => ?_⟩
  by_cases h:i < a.length
  ·rw [Nea h]; exact ha.2 _ (List.getElem_mem h)
  ·rw [Nde Zaa]; omega
 obtain ⟨l1,g1⟩:=hg ha
 obtain ⟨l2,g2⟩:=hg hb
 unfold NaN
 simp only [Bool.and_eq_true,List.all_eq_true,decide_eq_true_eq]
 refine ⟨by rw [Nbr]; simp [Nat.blt]; omega,fun x hx => ?_⟩
 unfold Nbq at hx
 obtain ⟨i,-,rfl⟩:=List.mem_map.1 hx
 have:=g1 i
 have:=g2 i
 omega
theorem WS.grow {base st st':St} {N O:Nat} {n:List Int} {to:List Ch} (h:WS base st N O n to) (hN:N < st.cnt) (hO:O < st.cnt) (hc:st.cnt ≤ st'.cnt) (hg:∀ j,j < st.cnt → st'.get j = st.get j):WS base st' N O n to:=by
 obtain ⟨v,tv,h1,h2,h3,h4,h5,h6⟩:=h.vt
 have hb:=h.cnt
 exact ⟨by omega,fun j a b c => (hg j Zaa).trans (h.fr j a b c),v,tv,(hg N hN).trans h1,h2.move hc fun j hj _ => hg j hj,(hg O hO).trans h3,h4.move hc fun j _ hj => hg j hj,h5,h6⟩
theorem Na1 {cfg:Cfg} (hc:CfgR cfg) {fuel N O B W Cm:Nat} {base st:St} {C:Ch → List Int} {n:List Int} {to:List Ch} {k:Ch} {ok:Bool} (hb:WBs base N O B W Cm C) (hw:WS base st N O n to) (hn:n ≠ []) (sn:NaN n = true) :
 ∃ r st',NaE cfg (fuel + 2) 105 [.b ok,.fn 74 [.ptr N 0,.ptr B 0],chP k] st = some (r,st') ∧ WS base st' N O (if ok = true then Nbq n (C k) else n) to:=by
 refine NaB (hc.fn _ _ (by kernel_rfl):cfg.fn 105 = some m105) ?_
 delta m105 Qa Ql Qt chP
 obtain ⟨l1,l2,l3,l4,l5⟩:=hb.lt
 obtain ⟨d1,d2,d3,d4,d5,d6,d7⟩:=hb.ne
 have hcn:=hw.cnt
 obtain ⟨sto,c⟩:=st
 simp only at hcn
 obtain ⟨X,hX⟩:∃ X:St → Prop,X = fun st' => WS base st' N O (if ok = true then Nbq n (C k) else n) to:=⟨_,rfl⟩
 simp only [show ∀ st',WS base st' N O (if ok = true then Nbq n (C k) else n) to = X st' from fun _ => by rw [hX]]
 simp only [Nal]
 have hgr:∀ (o:Option PObj) (n1 n2 j:Nat),j < c → St.get ⟨(St.put ⟨sto,n1⟩ c o).sto,n2⟩ j = St.get ⟨sto,c⟩ j:=fun o n1 n2 j hj => by
  show St.get (St.put ⟨sto,n1⟩ c o) j = _
  rw [Yad Zaa]; rfl
 cases ok with
 | false =>
   iterate 3
    (try rw [Z0])
    (try simp (maxSteps:=2000000) (disch:=first | omega | rfl | assumption) only [↓Yaa,Yab,Nae,Naa,rA,rB,rC,rD,reduceIte,unP,rE])
   subst hX
   refine ⟨nofun,_,rfl,?_⟩
   rw [if_neg Zag]
   exact hw.grow Zad Zad (by simp only [Z0L_]; omega) fun j hj => hgr _ _ _ j hj
 | true =>
   have w1:∀ o,WS base ⟨(St.put ⟨sto,c + 8⟩ c o).sto,c + 40⟩ N O n to:=fun o => hw.grow Zad Zad Zad fun j hj => hgr _ _ _ j hj
   iterate 3
    (try rw [Z0])
    (try simp (maxSteps:=2000000) (disch:=first | omega | rfl | assumption) only [↓Yaa,Yab,Nae,Naa,rA,rB,rC,rD,reduceIte,unP,rE,hc.r3])
   obtain ⟨s1,hs1⟩:∃ s1,(⟨(St.put ⟨sto,c + 8⟩ c (some (.cells [.i .i64 k.1,.i .i64 k.2] false))).sto,c + 40⟩:St) = s1:=⟨_,rfl⟩
   have w2:=w1 (some (.cells [.i .i64 k.1,.i .i64 k.2] false))
   rw [hs1] at w2 ⊢
   obtain ⟨v,tv,h1,h2,h3,h4,h5,h6⟩:=w2.vt
   obtain ⟨c1,c2,tm,gW⟩:=hb.gW
   obtain ⟨fs,f,gC,gM,gV⟩:=hb.gC
   have hc2:=w2.cnt
   refine Nbg (Nnl hc (k:=k) h1 h2 ((w2.fr B l3 d2 d3).trans hb.gB) ((w2.fr W l4 d4 d5).trans gW) ((w2.fr Cm l5 d6 d7).trans gC) gM ((gV k).1.move hc2 fun j hj hk => w2.fr j hj ((gV k).2 j hk).1 ((gV k).2 j hk).2) hn sn (hb.sh k) Zaa Zaa Zaa Zaa) ?_
   rintro r st' ⟨v',e1,e2,e3,e4,e5⟩
   refine ⟨nofun,_,rfl,?_⟩
   subst hX
   show WS base st' N O (if true = true then _ else _) to
   rw [if_pos rfl]
   refine ⟨by omega,fun j a b c => (e4 j Zaa b).trans (w2.fr j a b c),v',tv,e1,e2,(e4 O Zaa (Ne.symm d1)).trans h3,h4.move e5 fun j hj1 hj2 => e4 j hj2 (by have:=h5 j hj1; omega),h5,fun q hq => ?_⟩
   have a1:=e3 q hq
   exact ⟨fun hm => by have:=h4.lt q hm; omega,by omega,by omega,by omega⟩
theorem Na0 {cfg:Cfg} (hc:CfgR cfg) {fuel N O B W Cm:Nat} {base st:St} {C:Ch → List Int} {n:List Int} {to:List Ch} {k:Ch} {ok:Bool} (hb:WBs base N O B W Cm C) (hw:WS base st N O n to) (hl:to.length < 1000) :
 ∃ r st',NaE cfg (fuel + 2) 105 [.b ok,.fn 76 [.ptr O 0],chP k] st = some (r,st') ∧ WS base st' N O n (if ok = true then to ++ [k] else to):=by
 refine NaB (hc.fn _ _ (by kernel_rfl):cfg.fn 105 = some m105) ?_
 delta m105 Qa Ql Qt chP
 obtain ⟨l1,l2,l3,l4,l5⟩:=hb.lt
 obtain ⟨d1,d2,d3,d4,d5,d6,d7⟩:=hb.ne
 have hcn:=hw.cnt
 obtain ⟨sto,c⟩:=st
 simp only at hcn
 obtain ⟨X,hX⟩:∃ X:St → Prop,X = fun st' => WS base st' N O n (if ok = true then to ++ [k] else to):=⟨_,rfl⟩
 simp only [show ∀ st',WS base st' N O n (if ok = true then to ++ [k] else to) = X st' from fun _ => by rw [hX]]
 simp only [Nal]
 have hgr:∀ (o:Option PObj) (n1 n2 j:Nat),j < c → St.get ⟨(St.put ⟨sto,n1⟩ c o).sto,n2⟩ j = St.get ⟨sto,c⟩ j:=fun o n1 n2 j hj => by
  show St.get (St.put ⟨sto,n1⟩ c o) j = _
  rw [Yad Zaa]; rfl
 cases ok with
 | false =>
   iterate 3
    (try rw [Z0])
    (try simp (maxSteps:=2000000) (disch:=first | omega | rfl | assumption) only [↓Yaa,Yab,Nae,Naa,rA,rB,rC,rD,reduceIte,unP,rE])
   subst hX
   refine ⟨nofun,_,rfl,?_⟩
   rw [if_neg Zag]
   exact hw.grow Zad Zad (by simp only [Z0L_]; omega) fun j hj => hgr _ _ _ j hj
 | true =>
   have w1:∀ o,WS base ⟨(St.put ⟨sto,c + 8⟩ c o).sto,c + 40⟩ N O n to:=fun o => hw.grow Zad Zad Zad fun j hj => hgr _ _ _ j hj
   iterate 3
    (try rw [Z0])
    (try simp (maxSteps:=2000000) (disch:=first | omega | rfl | assumption) only [↓Yaa,Yab,Nae,Naa,rA,rB,rC,rD,reduceIte,unP,rE,hc.r4])
   obtain ⟨s1,hs1⟩:∃ s1,(⟨(St.put ⟨sto,c + 8⟩ c (some (.cells [.i .i64 k.1,.i .i64 k.2] false))).sto,c + 40⟩:St) = s1:=⟨_,rfl⟩
   have w2:=w1 (some (.cells [.i .i64 k.1,.i .i64 k.2] false))
   rw [hs1] at w2 ⊢
   obtain ⟨v,tv,h1,h2,h3,h4,h5,h6⟩:=w2.vt
   have hc2:=w2.cnt
   have hO:O ∉ keyOf tv:=fun h => by have:=h5 O h; omega
   refine Nbg (NmM hc (k:=k) h3 h4 hO Zaa hl) ?_
   rintro r st' ⟨v',e1,e2,e3,e4,e5⟩
   refine ⟨nofun,_,rfl,?_⟩
   subst hX
   show WS base st' N O n (if true = true then _ else _)
   rw [if_pos rfl]
   have hN:N ∉ keyOf tv:=fun h => by have:=h5 N h; omega
   refine ⟨by omega,fun j a b c => (e4 j Zaa c (fun h => by have:=h5 j h; omega)).trans (w2.fr j a b c),v,v',(e4 N Zaa d1 hN).trans h1,h2.move e5 fun j hj hk => e4 j hj (h6 j hk).2.2.1 (h6 j hk).1,e1,e2,fun q hq => by have:=e3 q hq; omega,fun q hq => ⟨fun hm => ?_,(h6 q hq).2⟩⟩
   have a1:=e3 q hm
   rcases h2 with ⟨rfl,_⟩ | ⟨_,k2,rfl,a2,_⟩
   ·simp [keyOf] at hq
   ·simp [keyOf] at hq; omega
end Go.Pe
