/-
 Races: at, ahead, trace, Before, walked. No condition.
-/
import Derived.Test.YtgnmmphmkoaicaaGreatDoorZRacE
set_option linter.unusedVariables false
set_option linter.unusedSimpArgs false
set_option maxHeartbeats 4000000
open Nat renaming reduceAdd → rA,reduceMul → rB,reduceLT → rC,reduceEqDiff → rD,reduceLeDiff → rE
namespace Go.Pe
open Go Go.Am Go.RowKit

structure CfgA (cfg : Cfg) : Prop extends CfgR cfg where
 a1 : cfg.ext 23 = none
 a2 : cfg.ext 18 = none
 a3 : cfg.ext 12 = none
theorem Nnz {st0 : St} {a : List Int} {i : Nat} (h : i < a.length) : Na2 st0 1 (.fptr ((Na5 a).drop (i * 1))) = some [.i .i64 (gi a i)]:=by
 show cut? _ 0 1 = _
 unfold cut?
 rw [if_pos (by rw [List.length_drop,NaV]; omega),List.drop_zero,Nat.mul_one,Nd8 h]
 have : i < (Na5 a).length:=by rw [NaV]; exact h
 rw [List.drop_eq_getElem_cons this]
 simp [Na5]
theorem Npm {cfg : Cfg} (hc : CfgA cfg) {fuel : Nat} {st : St} {a : List Int} {t : Int} (h0 : 0 ≤ t) (hl : a.length < 1000) :
 ∃ r st',NaB cfg (fuel + 1) 44 [clP a,.i .i64 t] st = some (r,st') ∧ r = .i .i64 (aT a t):=by
 refine Nax (hc.fn _ _ (by kernel_rfl) : cfg.fn 44 = some m44) ?_
 delta m44 Qa Qr Ql Qt Qk Qm clP
 have hil:=NaV a
 obtain ⟨R,hR⟩ : ∃ R,aT a t = R:=⟨_,rfl⟩
 rw [hR]
 unfold aT at hR
 rw [if_pos h0] at hR
 simp only [Nak]
 by_cases h : t < (a.length : Int)
 ·have hc2:=fun st => Nnz (st0:=st) (a:=a) (i:=t.toNat) Zab
  have hc3:=fun st => (Nat.mul_one t.toNat ▸ hc2 st : Na2 st 1 (.fptr ((Na5 a).drop t.toNat)) = _)
  iterate 4
   (try rw [Z0])
   (try simp (maxSteps:=2000000) (disch:=first | omega | rfl | assumption) only [↓Yaa,Yab,Nae,Naa,rA,rB,rC,rD,reduceIte,unP,rE,hil,hc3])
  exact ⟨nofun,_,rfl,by simp only [Nav,Yac,if_true]; rw [hR]⟩
 ·rw [Ndd Zab] at hR
  subst hR
  iterate 4
   (try rw [Z0])
   (try simp (maxSteps:=2000000) (disch:=first | omega | rfl | assumption) only [↓Yaa,Yab,Nae,Naa,rA,rB,rC,rD,reduceIte,unP,rE,hil])
  exact ⟨nofun,_,rfl,by simp only [Nav,Yac,if_true]; rfl⟩
theorem Nns {cfg : Cfg} (hc : CfgA cfg) {fuel : Nat} {a : List Int} {t : Int} (h0 : 0 ≤ t) (hl : a.length < 1000) : Naj cfg (NaB cfg (fuel + 1)) 44 [clP a,.i .i64 t] = some (.i .i64 (aT a t)) :=
 Nau hc.r6 rfl (fun _ => rfl) (Npm hc h0 hl)
theorem Nj6 {cfg : Cfg} (hc : CfgA cfg) {fuel : Nat} {st : St} {a b : List Int} {t : Int} (h0 : 0 ≤ t) (hl : a.length < 1000) (hl2 : b.length < 1000) :
 ∃ r st',NaB cfg (fuel + 2) 25 [clP a,.i .i64 t,clP b] st = some (r,st') ∧ r = .b (decide (aT a t ≤ aT b t)):=by
 refine Nax (hc.fn _ _ (by kernel_rfl) : cfg.fn 25 = some m25) ?_
 delta m25 Qa Ql Qt Qm
 have g1 : ∀ (st : St) (key : Nat) (a : List Int),a.length < 1000 → Nam (Naj cfg (NaB cfg (fuel + 1)) 44) false st key [clP a,.i .i64 t] = some (.i .i64 (aT a t),st):=fun st key a hl => Nay rfl (Nns hc h0 hl) rfl
 have ga:=fun st key => g1 st key a hl
 have gb:=fun st key => g1 st key b hl2
 simp only [Nak]
 iterate 2
  (try rw [Z0])
  (try simp (maxSteps:=2000000) (disch:=first | omega | rfl | assumption) only [↓Yaa,Yab,Nae,Naa,rA,rB,rC,rD,reduceIte,unP,rE,ga,gb])
 exact ⟨nofun,_,rfl,by simp only [Nav,Yac,if_true]⟩
theorem Niu {cfg : Cfg} (hc : CfgA cfg) {fuel : Nat} {a b : List Int} {t : Int} (h0 : 0 ≤ t) (hl : a.length < 1000) (hl2 : b.length < 1000) : Naj cfg (NaB cfg (fuel + 2)) 25 [clP a,.i .i64 t,clP b] = some (.b (decide (aT a t ≤ aT b t))) :=
 Nau hc.r7 rfl (fun _ => rfl) (Nj6 hc h0 hl hl2)
def etB (cd : Cd) (e : Et) : Bool:=decide (0 ≤ e.T) && decide (e.T < cd.T.length) && decide (0 ≤ e.J) && decide (e.J < cd.O.length)
def trV (ck : Int) (cd : Cd) (l : List Et) : Bool:=(ck == 0) && l.all (etB cd)
theorem Nbi {st : St} {cd : Cd} : Go.Pe.deep st 12 (.agg (Cd.cs cd)) = some (.agg (Cd.cs cd)):=by
 unfold Cd.cs slV
 split <;> split <;> rfl
theorem Nge {cd : Cd} : NaG [.agg (Cd.cs cd)] = ([.agg (Cd.cs cd)],{ sto:=.leaf,cnt:=1 }):=by
 unfold Cd.cs slV
 split <;> split <;> rfl
theorem NcD {cd : Cd} {v : PV} : NaG [.agg (Cd.cs cd),v] = ([.agg (Cd.cs cd),v],{ sto:=.leaf,cnt:=1 }):=rfl
theorem Nfg {st : St} {z : Bool} {n : Nat} {cs : List PV} : Go.Pe.deep st 12 (slV z n cs) = some (slV z n cs):=Nlh st 11 z n cs
theorem Nlt {cfg : Cfg} (hc : CfgA cfg) {fuel : Nat} {st : St} {cd : Cd} {z : Bool} {l : List Et} {ck : Int} (hck : Naj cfg (NaB cfg fuel) 27 [.agg (Cd.cs cd)] = some (.i .i64 ck)) (hl : l.length ≤ fuel) (hO : cd.O.length ≤ reachBytes) (hT : cd.T.length ≤ reachBytes) (hr : l.length ≤ reachBytes) :
 ∃ r st',NaB cfg (fuel + 1) 23 [.agg (Cd.cs cd),slV z l.length (l.flatMap Et.cs)] st = some (r,st') ∧ r = .b (trV ck cd l):=by
 refine Nax (hc.fn _ _ (by kernel_rfl) : cfg.fn 23 = some m23) ?_
 have gc : ∀ (st : St) (key : Nat),Nam (Naj cfg (NaB cfg fuel) 27) false st key [.agg [slV cd.zo cd.O.length (cd.O.flatMap Dc.cs),slV cd.zt cd.T.length (cd.T.flatMap Tx.cs)]] = some (.i .i64 ck,st):=fun st key => NaH (Nbc Nbi) hck rfl rfl
 delta m23 Qr Qg Ql Qt Qn Qs Qk Qm Qh Cd.cs
 have hrb : reachBytes < 4611686018427387904:=by decide
 have hlv:=Naw z l.length (l.flatMap Et.cs)
 have lD:=Naw cd.zo cd.O.length (cd.O.flatMap Dc.cs)
 have lT:=Naw cd.zt cd.T.length (cd.T.flatMap Tx.cs)
 have hE:=NaA Et.cs_len l
 obtain ⟨R,hR⟩ : ∃ R,trV ck cd l = R:=⟨_,rfl⟩
 rw [hR]
 unfold trV at hR
 obtain ⟨sto0,c0⟩:=st
 simp only [Nak]
 by_cases h0 : ck = 0
 ·have b0 : (ck != Int.ofNat 0) = false:=by rw [h0]; rfl
  rw [h0] at hR
  simp only [beq_self_eq_true,Bool.true_and] at hR
  iterate 3
   (try rw [Z0])
   (try simp (maxSteps:=2000000) (disch:=first | omega | rfl | assumption) only [↓Yaa,Yab,Nae,Naa,rA,rB,rC,rD,reduceIte,unP,rE,Nag,Naf,gc,b0])
  refine NaC (fun x => ∃ (B : Nat),B < x.st.cnt ∧ x.env.get 1 = slV z l.length (l.flatMap Et.cs) ∧ x.env.get 2 = .ptr B 0 ∧ x.st.get B = some (.cells [slV cd.zo cd.O.length (cd.O.flatMap Dc.cs),slV cd.zt cd.T.length (cd.T.flatMap Tx.cs)] false)) ?_ ?_
  ·exact ⟨c0,Zaa,Zad,Zad,(by first | exact kB _ | with_reducible rfl | with_reducible assumption | (simp (disch:=omega) only [Nar,Nas,Yae]; first | done | with_reducible rfl | with_reducible assumption))⟩
  rintro ⟨env,⟨sto,c⟩⟩ ⟨B,bB,g1,g2,kB⟩
  try simp only at bB g1 g2
  replace kB : ∀ n',St.get ⟨sto,n'⟩ B = some (.cells [slV cd.zo cd.O.length (cd.O.flatMap Dc.cs),slV cd.zt cd.T.length (cd.T.flatMap Tx.cs)] false):=fun _ => kB
  iterate 2
   (try rw [Z0])
   (try simp (maxSteps:=2000000) (disch:=first | omega | rfl | assumption) only [↓Yaa,Yab,Nae,Naa,rA,rB,rC,rD,reduceIte,unP,rE,g1,g2,kB,hlv])
  refine Z9 (k:=l.length - 0) (fun m x => ∃ (i : Nat),m = l.length - i ∧ x.env.get 2 = .ptr B 0 ∧ x.env.get 10 = slV z l.length (l.flatMap Et.cs) ∧ x.env.get 11 = .i .i64 (l.length : Int) ∧ x.env.get 12 = .i .i64 (i : Int) ∧ x.st.get B = some (.cells [slV cd.zo cd.O.length (cd.O.flatMap Dc.cs),slV cd.zt cd.T.length (cd.T.flatMap Tx.cs)] false) ∧ B < x.st.cnt ∧ (i ≤ l.length) ∧ ((l.drop i).all (etB cd) = R)) ?_ ?_ Zab
  ·clear bB g1 g2 kB
   rintro m ⟨env,⟨sto,c⟩⟩ ⟨i,rfl,g2,g10,g11,g12,kB,bB,hi,hob⟩
   try simp only at g2 g10 g11 g12 bB
   replace kB : ∀ n',St.get ⟨sto,n'⟩ B = some (.cells [slV cd.zo cd.O.length (cd.O.flatMap Dc.cs),slV cd.zt cd.T.length (cd.T.flatMap Tx.cs)] false):=fun _ => kB
   by_cases hil : i < l.length
   ·rw [Naq hil] at g10
    obtain ⟨e,he⟩ : ∃ e,l[i] = e:=⟨_,rfl⟩
    have hld:=fun st => Ned (st:=st) hil
    simp only [he] at hld
    rw [List.drop_eq_getElem_cons hil,he,List.all_cons] at hob
    by_cases c1 : e.T < 0
    ·have hb : etB cd e = false:=by unfold etB; simp; omega
     rw [hb] at hob
     iterate 9
      (try rw [Z0])
      (try simp (maxSteps:=2000000) (disch:=first | omega | rfl | assumption) only [↓Yaa,Yab,Nae,Naa,rA,rB,rC,rD,reduceIte,unP,rE,g2,g10,g11,g12,kB,hld,hE,lD,lT])
     exact ⟨nofun,_,rfl,by simp only [Nav,Yac,if_true]; rw [← hob]; rfl⟩
    by_cases c2 : (cd.T.length : Int) ≤ e.T
    ·have hb : etB cd e = false:=by unfold etB; simp; omega
     rw [hb] at hob
     iterate 9
      (try rw [Z0])
      (try simp (maxSteps:=2000000) (disch:=first | omega | rfl | assumption) only [↓Yaa,Yab,Nae,Naa,rA,rB,rC,rD,reduceIte,unP,rE,g2,g10,g11,g12,kB,hld,hE,lD,lT])
     exact ⟨nofun,_,rfl,by simp only [Nav,Yac,if_true]; rw [← hob]; rfl⟩
    by_cases c3 : e.J < 0
    ·have hb : etB cd e = false:=by unfold etB; simp; omega
     rw [hb] at hob
     iterate 9
      (try rw [Z0])
      (try simp (maxSteps:=2000000) (disch:=first | omega | rfl | assumption) only [↓Yaa,Yab,Nae,Naa,rA,rB,rC,rD,reduceIte,unP,rE,g2,g10,g11,g12,kB,hld,hE,lD,lT])
     exact ⟨nofun,_,rfl,by simp only [Nav,Yac,if_true]; rw [← hob]; rfl⟩
    by_cases c4 : (cd.O.length : Int) ≤ e.J
    ·have hb : etB cd e = false:=by unfold etB; simp; omega
     rw [hb] at hob
     iterate 9
      (try rw [Z0])
      (try simp (maxSteps:=2000000) (disch:=first | omega | rfl | assumption) only [↓Yaa,Yab,Nae,Naa,rA,rB,rC,rD,reduceIte,unP,rE,g2,g10,g11,g12,kB,hld,hE,lD,lT])
     exact ⟨nofun,_,rfl,by simp only [Nav,Yac,if_true]; rw [← hob]; rfl⟩
    have hb : etB cd e = true:=by unfold etB; simp; omega
    rw [hb,Bool.true_and] at hob
    iterate 9
     (try rw [Z0])
     (try simp (maxSteps:=2000000) (disch:=first | omega | rfl | assumption) only [↓Yaa,Yab,Nae,Naa,rA,rB,rC,rD,reduceIte,unP,rE,g2,g10,g11,g12,kB,hld,hE,lD,lT])
    exact ⟨l.length - (i + 1),by omega,i + 1,rfl,(Naq hil).symm,rfl,by omega,hob⟩
   ·have h0 : l.drop i = []:=List.drop_of_length_le Zab
    rw [h0] at hob
    iterate 5
     (try rw [Z0])
     (try simp (maxSteps:=2000000) (disch:=first | omega | rfl | assumption) only [↓Yaa,Yab,Nae,Naa,rA,rB,rC,rD,reduceIte,unP,rE,g2,g10,g11,g12,kB])
    exact ⟨nofun,_,rfl,by simp only [Nav,Yac,if_true]; rw [← hob]; rfl⟩
  ·skip
   refine ⟨0,rfl,?_,(by simp [Yac,g1]),Zah,Zah,?_,Zaa,Zac,(by rw [List.drop_zero]; exact hR)⟩ <;> first | with_reducible rfl | with_reducible assumption | exact kB _ | (simp [Yac,g1,g2] <;> omega) | (simp (disch:=omega) only [Nar,Nas,Yae,kB]; first | done | with_reducible rfl | with_reducible assumption)
 ·have b0 : (ck != Int.ofNat 0) = true:=by simpa using h0
  have : (ck == 0) = false:=by simpa using h0
  rw [this] at hR
  iterate 4
   (try rw [Z0])
   (try simp (maxSteps:=2000000) (disch:=first | omega | rfl | assumption) only [↓Yaa,Yab,Nae,Naa,rA,rB,rC,rD,reduceIte,unP,rE,Nag,Naf,gc,b0])
  exact ⟨nofun,_,rfl,by simp only [Nav,Yac,if_true]; rw [← hR]; rfl⟩
theorem NjX {cfg : Cfg} (hc : CfgA cfg) {fuel : Nat} {cd : Cd} {z : Bool} {l : List Et} {ck : Int} (hck : Naj cfg (NaB cfg fuel) 27 [.agg (Cd.cs cd)] = some (.i .i64 ck)) (hl : l.length ≤ fuel) (hO : cd.O.length ≤ reachBytes) (hT : cd.T.length ≤ reachBytes) (hr : l.length ≤ reachBytes) :
 Naj cfg (NaB cfg (fuel + 1)) 23 [.agg (Cd.cs cd),slV z l.length (l.flatMap Et.cs)] = some (.b (trV ck cd l)) :=
 Nau hc.a1 NcD (fun _ => rfl) (Nlt hc hck hl hO hT hr)
theorem NiB {g : List PV → Option PV} {st : St} {key sz n : Nat} {ps ps' cs : List PV} (hd : Na9 st ps = some ps') (hk : keysL st ps = []) (hg : g ps' = some (.osl sz n cs)) : Nam g false st key ps = some (.rsl key sz 0 n,st.put key (some (.cells cs false))):=by
 unfold Nam
 simp only [hd,hg,hk,NaJ,ite_self,NaD]
theorem Ni9 {st : St} {cd : Cd} {z : Bool} {n : Nat} {cs : List PV} : keysL st [.agg (Cd.cs cd),slV z n cs] = []:=by
 unfold Cd.cs slV
 split <;> split <;> split <;> rfl
theorem NeI {cfg : Cfg} (hc : CfgA cfg) {fuel : Nat} {cd : Cd} {z : Bool} {l : List Et} (hv : ∀ e,e ∈ l → EtOK cd e) (hl : l.length < 1000) (hfu : l.length + 6 ≤ fuel) :
 Naj cfg (NaB cfg (fuel + 5)) 24 [.agg (Cd.cs cd),slV z l.length (l.flatMap Et.cs)] = some (Nmb (Na8 cd l l.length)):=by
 obtain ⟨r,st',h1,h2⟩:=NiG (st:={ sto:=.leaf,cnt:=1 }) hc.toCfgR (z:=z) hv hl hfu
 exact Nhj hc.r8 NcD ⟨r,st',h1,h2⟩
theorem Ngw {cfg : Cfg} (hc : CfgA cfg) {fuel : Nat} {cd : Cd} {z : Bool} {l : List Et} (hv : ∀ e,e ∈ l → EtOK cd e) (hl : l.length < 1000) (hfu : l.length + 6 ≤ fuel) (h0 : 0 < l.length) (st : St) (key : Nat) :
 Nam (Naj cfg (NaB cfg (fuel + 5)) 24) false st key [.agg [slV cd.zo cd.O.length (cd.O.flatMap Dc.cs),slV cd.zt cd.T.length (cd.T.flatMap Tx.cs)],slV z l.length (l.flatMap Et.cs)] = some (.rsl key 1 0 l.length,st.put key (some (.cells ((Na8 cd l l.length).map clP) false))):=by
 have hne : Na8 cd l l.length ≠ []:=by
  intro e
  have : (Na8 cd l l.length).length = l.length:=by simp [Na8]
  rw [e] at this
  simp at this
  omega
 have hr:=NeI hc (z:=z) hv hl hfu
 unfold Nmb at hr
 rw [if_neg hne] at hr
 have hlen : (Na8 cd l l.length).length = l.length:=by simp [Na8]
 rw [hlen] at hr
 exact NiB (NaU Nbi Nfg) Ni9 hr
theorem Neu : ∀ {l : List Ch} {n : List Int} {C : Ch → List Int},NaF n = true → (∀ q,NaF (C q) = true) → ∀ q,NaF (NbT l n C q) = true
 | [],n,C,_,h,q => h q
 | k :: r,n,C,hn,h,q => by
   rw [NbT]
   refine Neu hn (fun p => ?_) q
   unfold NjG
   split
   ·exact NcF (h k) hn
   ·exact h p
theorem Ngp {cd : Cd} {l : List Et} (hv : ∀ e,e ∈ l → EtOK cd e) (i : Nat) : 0 ≤ thL l i ∧ thL l i ≤ 63:=by
 unfold thL
 by_cases h : i < l.length
 ·have e : l.getD i etZ = l[i]:=by rw [List.getD_eq_getElem?_getD,List.getElem?_eq_getElem h]; rfl
  rw [e]
  exact ⟨(hv _ (List.getElem_mem h)).t0,(hv _ (List.getElem_mem h)).t1⟩
 ·have e : l.getD i etZ = etZ:=by rw [List.getD_eq_getElem?_getD,List.getElem?_eq_none Zab]; rfl
  rw [e]
  exact ⟨by decide,by decide⟩
theorem Net {cd : Cd} {l : List Et} (hv : ∀ e,e ∈ l → EtOK cd e) : ∀ j,(∀ u,NaF ((Ne1 (thL l) (gvL cd l) (tkL cd l) j).T u) = true) ∧ ∀ q,NaF ((Ne1 (thL l) (gvL cd l) (tkL cd l) j).C q) = true
 | 0 => ⟨fun _ => rfl,fun _ => rfl⟩
 | j + 1 => by
   obtain ⟨h1,h2⟩:=Net hv j
   have hn : NaF (NaR (Ne1 (thL l) (gvL cd l) (tkL cd l) j).C (tkL cd l j) (Nce ((Ne1 (thL l) (gvL cd l) (tkL cd l) j).T (thL l j)) (thL l j))) = true:=Nhx (Ndl (h1 _) (Ngp hv j).1 (Ngp hv j).2) h2
   refine ⟨fun u => ?_,Neu hn h2⟩
   show NaF (Ng0 _ _ _ u) = true
   unfold Ng0
   split
   ·exact hn
   ·exact h1 u
theorem NlA {cd : Cd} {l : List Et} (hv : ∀ e,e ∈ l → EtOK cd e) (i : Nat) : NaF (NdS cd l i) = true :=
 Nhx (Ndl ((Net hv i).1 _) (Ngp hv i).1 (Ngp hv i).2) (Net hv i).2
theorem NfJ {cd : Cd} {l : List Et} (hv : ∀ e,e ∈ l → EtOK cd e) (i : Nat) : (NdS cd l i).length < 1000:=(Ncd (NlA hv i)).1
theorem Noi {ck : Int} {cd : Cd} {l : List Et} (h : trV ck cd l = true) (h16 : cd.T.length ≤ 64) : ∀ e,e ∈ l → EtOK cd e:=by
 intro e he
 unfold trV at h
 simp only [Bool.and_eq_true,List.all_eq_true] at h
 have:=h.2 e he
 unfold etB at this
 simp only [Bool.and_eq_true,decide_eq_true_eq] at this
 exact ⟨by omega,by omega,by omega,by omega⟩
theorem NiF {cd : Cd} {l : List Et} {n i : Nat} (h : i < n) : List.take 1 (List.drop i ((Na8 cd l n).map clP)) = [clP (NdS cd l i)]:=by
 have hl : i < ((Na8 cd l n).map clP).length:=by simp [Na8,h]
 rw [List.drop_eq_getElem_cons hl]
 simp [Na8]
theorem NbM {α : Type} {f : α → List PV} {w : Nat} (hw : ∀ a,(f a).length = w) : ∀ {l : List α} {i : Nat} (h : i < l.length),(l.flatMap f).drop (i * w) = f l[i] ++ (l.flatMap f).drop ((i + 1) * w)
 | [],i,h => by simp at h
 | a :: r,0,_ => by
   rw [List.flatMap_cons,Nat.zero_mul,List.drop_zero,Nat.zero_add,Nat.one_mul,List.drop_left' (hw a)]
   rfl
 | a :: r,i + 1,h => by
   have e : ∀ k,(f a ++ r.flatMap f).drop ((k + 1) * w) = (r.flatMap f).drop (k * w):=fun k => by
    rw [show (k + 1) * w = w + k * w by rw [Nat.add_mul]; omega,← List.drop_drop,List.drop_left' (hw a)]
   rw [List.flatMap_cons,e,e,NbM hw (l:=r) (i:=i) (by simpa using h)]
   rfl
end Go.Pe
