/-
 Races: at, ahead, trace, Before, walked. No condition.
-/
import Derived.Test.YtgnmmphmkoaicaaGreatDoorZRacE
set_option linter.unusedVariables false
set_option linter.unusedSimpArgs false
set_option maxHeartbeats 4000000
open Nat renaming reduceAdd → rA,reduceMul → rB,reduceLT → rC,reduceEqDiff → rD,reduceLeDiff → rE
namespace Go.Pe
open Go Go.Am Go.RowKit

structure CfgA (cfg:Cfg):Prop extends CfgR cfg where
 a1:cfg.ext 23 = none
 a2:cfg.ext 18 = none
 a3:cfg.ext 12 = none
theorem NnN {st0:St} {a:List Int} {i:Nat} (h:i < a.length):Nba st0 1 (.fptr ((Nbd a).drop (i * 1))) = some [.i .i64 (gi a i)]:=by
 show cut? _ 0 1 = _
 unfold cut?
 rw [if_pos (by rw [List.length_drop,Na2]; omega),List.drop_zero,Nat.mul_one,Nea h]
 have:i < (Nbd a).length:=by rw [Na2]; exact h
 rw [List.drop_eq_getElem_cons this]
 simp [Nbd]
theorem NpA {cfg:Cfg} (hc:CfgA cfg) {fuel:Nat} {st:St} {a:List Int} {t:Int} (h0:0 ≤ t) (hl:a.length < 1000) :
 ∃ r st',NaE cfg (fuel + 1) 44 [clP a,.i .i64 t] st = some (r,st') ∧ r = .i .i64 (aT a t):=by
 refine NaB (hc.fn _ _ (by kernel_rfl):cfg.fn 44 = some m44) ?_
 delta m44 Qa Qr Ql Qt Qk Qm clP
 have hil:=Na2 a
 obtain ⟨R,hR⟩:∃ R,aT a t = R:=⟨_,rfl⟩
 rw [hR]
 unfold aT at hR
 rw [if_pos h0] at hR
 simp only [Nal]
 by_cases h:t < (a.length:Int)
 ·have hc2:=fun st => NnN (st0:=st) (a:=a) (i:=t.toNat) Zaa
  have hc3:=fun st => (Nat.mul_one t.toNat ▸ hc2 st:Nba st 1 (.fptr ((Nbd a).drop t.toNat)) = _)
  iterate 4
   (try rw [Z0])
   (try simp (maxSteps:=2000000) (disch:=first | omega | rfl | assumption) only [↓Yaa,Yab,Nae,Naa,rA,rB,rC,rD,reduceIte,unP,rE,hil,hc3])
  exact ⟨nofun,_,rfl,by simp only [NaA,Yac,if_true]; rw [hR]⟩
 ·rw [Nde Zaa] at hR
  subst hR
  iterate 4
   (try rw [Z0])
   (try simp (maxSteps:=2000000) (disch:=first | omega | rfl | assumption) only [↓Yaa,Yab,Nae,Naa,rA,rB,rC,rD,reduceIte,unP,rE,hil])
  exact ⟨nofun,_,rfl,by simp only [NaA,Yac,if_true]; rfl⟩
theorem NnF {cfg:Cfg} (hc:CfgA cfg) {fuel:Nat} {a:List Int} {t:Int} (h0:0 ≤ t) (hl:a.length < 1000):Nak cfg (NaE cfg (fuel + 1)) 44 [clP a,.i .i64 t] = some (.i .i64 (aT a t)) :=
 Nau hc.r6 rfl (fun _ => rfl) (NpA hc h0 hl)
theorem Nkf {cfg:Cfg} (hc:CfgA cfg) {fuel:Nat} {st:St} {a b:List Int} {t:Int} (h0:0 ≤ t) (hl:a.length < 1000) (hl2:b.length < 1000) :
 ∃ r st',NaE cfg (fuel + 2) 25 [clP a,.i .i64 t,clP b] st = some (r,st') ∧ r = .b (decide (aT a t ≤ aT b t)):=by
 refine NaB (hc.fn _ _ (by kernel_rfl):cfg.fn 25 = some m25) ?_
 delta m25 Qa Ql Qt Qm
 have g1:∀ (st:St) (key:Nat) (a:List Int),a.length < 1000 → Nam (Nak cfg (NaE cfg (fuel + 1)) 44) false st key [clP a,.i .i64 t] = some (.i .i64 (aT a t),st):=fun st key a hl => Nay rfl (NnF hc h0 hl) rfl
 have ga:=fun st key => g1 st key a hl
 have gb:=fun st key => g1 st key b hl2
 simp only [Nal]
 iterate 2
  (try rw [Z0])
  (try simp (maxSteps:=2000000) (disch:=first | omega | rfl | assumption) only [↓Yaa,Yab,Nae,Naa,rA,rB,rC,rD,reduceIte,unP,rE,ga,gb])
 exact ⟨nofun,_,rfl,by simp only [NaA,Yac,if_true]⟩
theorem NiD {cfg:Cfg} (hc:CfgA cfg) {fuel:Nat} {a b:List Int} {t:Int} (h0:0 ≤ t) (hl:a.length < 1000) (hl2:b.length < 1000):Nak cfg (NaE cfg (fuel + 2)) 25 [clP a,.i .i64 t,clP b] = some (.b (decide (aT a t ≤ aT b t))) :=
 Nau hc.r7 rfl (fun _ => rfl) (Nkf hc h0 hl hl2)
def etB (cd:Cd) (e:Et):Bool:=decide (0 ≤ e.T) && decide (e.T < cd.T.length) && decide (0 ≤ e.J) && decide (e.J < cd.O.length)
def trV (ck:Int) (cd:Cd) (l:List Et):Bool:=(ck == 0) && l.all (etB cd)
theorem Nbp {st:St} {cd:Cd}:Go.Pe.deep st 12 (.agg (Cd.cs cd)) = some (.agg (Cd.cs cd)):=by
 unfold Cd.cs slV
 split <;> split <;> rfl
theorem Ngm {cd:Cd}:NaM [.agg (Cd.cs cd)] = ([.agg (Cd.cs cd)],{ sto:=.leaf,cnt:=1 }):=by
 unfold Cd.cs slV
 split <;> split <;> rfl
theorem NcE {cd:Cd} {v:PV}:NaM [.agg (Cd.cs cd),v] = ([.agg (Cd.cs cd),v],{ sto:=.leaf,cnt:=1 }):=rfl
theorem Nfk {st:St} {z:Bool} {n:Nat} {cs:List PV}:Go.Pe.deep st 12 (slV z n cs) = some (slV z n cs):=Nlo st 11 z n cs
theorem NlB {cfg:Cfg} (hc:CfgA cfg) {fuel:Nat} {st:St} {cd:Cd} {z:Bool} {l:List Et} {ck:Int} (hck:Nak cfg (NaE cfg fuel) 27 [.agg (Cd.cs cd)] = some (.i .i64 ck)) (hl:l.length ≤ fuel) (hO:cd.O.length ≤ reachBytes) (hT:cd.T.length ≤ reachBytes) (hr:l.length ≤ reachBytes) :
 ∃ r st',NaE cfg (fuel + 1) 23 [.agg (Cd.cs cd),slV z l.length (l.flatMap Et.cs)] st = some (r,st') ∧ r = .b (trV ck cd l):=by
 refine NaB (hc.fn _ _ (by kernel_rfl):cfg.fn 23 = some m23) ?_
 have gc:∀ (st:St) (key:Nat),Nam (Nak cfg (NaE cfg fuel) 27) false st key [.agg [slV cd.zo cd.O.length (cd.O.flatMap Dc.cs),slV cd.zt cd.T.length (cd.T.flatMap Tx.cs)]] = some (.i .i64 ck,st):=fun st key => NaS (Nbk Nbp) hck rfl rfl
 delta m23 Qr Qg Ql Qt Qn Qs Qk Qm Qh Cd.cs
 have hrb:reachBytes < 4611686018427387904:=by decide
 have hlv:=Naw z l.length (l.flatMap Et.cs)
 have lD:=Naw cd.zo cd.O.length (cd.O.flatMap Dc.cs)
 have lT:=Naw cd.zt cd.T.length (cd.T.flatMap Tx.cs)
 have hE:=Nav Et.cs_len l
 obtain ⟨R,hR⟩:∃ R,trV ck cd l = R:=⟨_,rfl⟩
 rw [hR]
 unfold trV at hR
 obtain ⟨sto0,c0⟩:=st
 simp only [Nal]
 by_cases h0:ck = 0
 ·have b0:(ck != Int.ofNat 0) = false:=by rw [h0]; rfl
  rw [h0] at hR
  simp only [beq_self_eq_true,Bool.true_and] at hR
  iterate 3
   (try rw [Z0])
   (try simp (maxSteps:=2000000) (disch:=first | omega | rfl | assumption) only [↓Yaa,Yab,Nae,Naa,rA,rB,rC,rD,reduceIte,unP,rE,Nag,Naf,gc,b0])
  refine NaD (fun x => ∃ (B:Nat),B < x.st.cnt ∧ x.env.get 1 = slV z l.length (l.flatMap Et.cs) ∧ x.env.get 2 = .ptr B 0 ∧ x.st.get B = some (.cells [slV cd.zo cd.O.length (cd.O.flatMap Dc.cs),slV cd.zt cd.T.length (cd.T.flatMap Tx.cs)] false)) ?_ ?_
  ·refine ⟨c0,?_,Zab,Zab,?_⟩ <;> first | with_reducible rfl | with_reducible assumption | exact kB _ | omega | (simp only [Z0L_,NaC]; omega) | (simp only; omega) | (simp (disch:=omega) only [Nar,Nas,Yae]; first | done | with_reducible rfl | with_reducible assumption)
  rintro ⟨env,⟨sto,c⟩⟩ ⟨B,bB,g1,g2,kB⟩
  try simp only at bB g1 g2
  replace kB:∀ n',St.get ⟨sto,n'⟩ B = some (.cells [slV cd.zo cd.O.length (cd.O.flatMap Dc.cs),slV cd.zt cd.T.length (cd.T.flatMap Tx.cs)] false):=fun _ => kB
  iterate 2
   (try rw [Z0])
   (try simp (maxSteps:=2000000) (disch:=first | omega | rfl | assumption) only [↓Yaa,Yab,Nae,Naa,rA,rB,rC,rD,reduceIte,unP,rE,g1,g2,kB,hlv])
  refine Z9 (k:=l.length - 0) (fun m x => ∃ (i:Nat),m = l.length - i ∧ x.env.get 2 = .ptr B 0 ∧ x.env.get 10 = slV z l.length (l.flatMap Et.cs) ∧ x.env.get 11 = .i .i64 (l.length:Int) ∧ x.env.get 12 = .i .i64 (i:Int) ∧ x.st.get B = some (.cells [slV cd.zo cd.O.length (cd.O.flatMap Dc.cs),slV cd.zt cd.T.length (cd.T.flatMap Tx.cs)] false) ∧ B < x.st.cnt ∧ (i ≤ l.length) ∧ ((l.drop i).all (etB cd) = R)) ?_ ?_ Zaa
  ·clear bB g1 g2 kB
   rintro m ⟨env,⟨sto,c⟩⟩ ⟨i,rfl,g2,g10,g11,g12,kB,bB,hi,hob⟩
   try simp only at g2 g10 g11 g12 bB
   replace kB:∀ n',St.get ⟨sto,n'⟩ B = some (.cells [slV cd.zo cd.O.length (cd.O.flatMap Dc.cs),slV cd.zt cd.T.length (cd.T.flatMap Tx.cs)] false):=fun _ => kB
   by_cases hil:i < l.length
   ·rw [Naq hil] at g10
    obtain ⟨e,he⟩:∃ e,l[i] = e:=⟨_,rfl⟩
    have hld:=fun st => Nef (st:=st) hil
    simp only [he] at hld
    rw [List.drop_eq_getElem_cons hil,he,List.all_cons] at hob
    by_cases c1:e.T < 0
    ·have hb:etB cd e = false:=by unfold etB; simp; omega
     rw [hb] at hob
     iterate 9
      (try rw [Z0])
      (try simp (maxSteps:=2000000) (disch:=first | omega | rfl | assumption) only [↓Yaa,Yab,Nae,Naa,rA,rB,rC,rD,reduceIte,unP,rE,g2,g10,g11,g12,kB,hld,hE,lD,lT])
     exact ⟨nofun,_,rfl,by simp only [NaA,Yac,if_true]; rw [← hob]; rfl⟩
    by_cases c2:(cd.T.length:Int) ≤ e.T
    ·have hb:etB cd e = false:=by unfold etB; simp; omega
     rw [hb] at hob
     iterate 9
      (try rw [Z0])
      (try simp (maxSteps:=2000000) (disch:=first | omega | rfl | assumption) only [↓Yaa,Yab,Nae,Naa,rA,rB,rC,rD,reduceIte,unP,rE,g2,g10,g11,g12,kB,hld,hE,lD,lT])
     exact ⟨nofun,_,rfl,by simp only [NaA,Yac,if_true]; rw [← hob]; rfl⟩
    by_cases c3:e.J < 0
    ·have hb:etB cd e = false:=by unfold etB; simp; omega
     rw [hb] at hob
     iterate 9
      (try rw [Z0])
      (try simp (maxSteps:=2000000) (disch:=first | omega | rfl | assumption) only [↓Yaa,Yab,Nae,Naa,rA,rB,rC,rD,reduceIte,unP,rE,g2,g10,g11,g12,kB,hld,hE,lD,lT])
     exact ⟨nofun,_,rfl,by simp only [NaA,Yac,if_true]; rw [← hob]; rfl⟩
    by_cases c4:(cd.O.length:Int) ≤ e.J
    ·have hb:etB cd e = false:=by unfold etB; simp; omega
     rw [hb] at hob
     iterate 9
      (try rw [Z0])
      (try simp (maxSteps:=2000000) (disch:=first | omega | rfl | assumption) only [↓Yaa,Yab,Nae,Naa,rA,rB,rC,rD,reduceIte,unP,rE,g2,g10,g11,g12,kB,hld,hE,lD,lT])
     exact ⟨nofun,_,rfl,by simp only [NaA,Yac,if_true]; rw [← hob]; rfl⟩
    have hb:etB cd e = true:=by unfold etB; simp; omega
    rw [hb,Bool.true_and] at hob
    iterate 9
     (try rw [Z0])
     (try simp (maxSteps:=2000000) (disch:=first | omega | rfl | assumption) only [↓Yaa,Yab,Nae,Naa,rA,rB,rC,rD,reduceIte,unP,rE,g2,g10,g11,g12,kB,hld,hE,lD,lT])
    exact ⟨l.length - (i + 1),by omega,i + 1,rfl,(Naq hil).symm,rfl,by omega,hob⟩
   ·have h0:l.drop i = []:=List.drop_of_length_le Zaa
    rw [h0] at hob
    iterate 5
     (try rw [Z0])
     (try simp (maxSteps:=2000000) (disch:=first | omega | rfl | assumption) only [↓Yaa,Yab,Nae,Naa,rA,rB,rC,rD,reduceIte,unP,rE,g2,g10,g11,g12,kB])
    exact ⟨nofun,_,rfl,by simp only [NaA,Yac,if_true]; rw [← hob]; rfl⟩
  ·skip
   refine ⟨0,rfl,?_,(by simp [Yac,g1]),Zaf,Zaf,?_,?_,?_,(by rw [List.drop_zero]; exact hR)⟩ <;> first | with_reducible rfl | with_reducible assumption | exact kB _ | (simp [Yac,g1,g2] <;> omega) | (simp (disch:=omega) only [Nar,Nas,Yae,kB]; first | done | with_reducible rfl | with_reducible assumption) | omega | (simp only [Z0L_,NaC]; omega) | (simp only; omega) | assumption | rfl | (simp; omega) | (simp; done)
 ·have b0:(ck != Int.ofNat 0) = true:=by simpa using h0
  have:(ck == 0) = false:=by simpa using h0
  rw [this] at hR
  iterate 4
   (try rw [Z0])
   (try simp (maxSteps:=2000000) (disch:=first | omega | rfl | assumption) only [↓Yaa,Yab,Nae,Naa,rA,rB,rC,rD,reduceIte,unP,rE,Nag,Naf,gc,b0])
  exact ⟨nofun,_,rfl,by simp only [NaA,Yac,if_true]; rw [← hR]; rfl⟩
theorem Nj8 {cfg:Cfg} (hc:CfgA cfg) {fuel:Nat} {cd:Cd} {z:Bool} {l:List Et} {ck:Int} (hck:Nak cfg (NaE cfg fuel) 27 [.agg (Cd.cs cd)] = some (.i .i64 ck)) (hl:l.length ≤ fuel) (hO:cd.O.length ≤ reachBytes) (hT:cd.T.length ≤ reachBytes) (hr:l.length ≤ reachBytes) :
 Nak cfg (NaE cfg (fuel + 1)) 23 [.agg (Cd.cs cd),slV z l.length (l.flatMap Et.cs)] = some (.b (trV ck cd l)) :=
 Nau hc.a1 NcE (fun _ => rfl) (NlB hc hck hl hO hT hr)
theorem NiJ {g:List PV → Option PV} {st:St} {key sz n:Nat} {ps ps' cs:List PV} (hd:Nbf st ps = some ps') (hk:keysL st ps = []) (hg:g ps' = some (.osl sz n cs)):Nam g false st key ps = some (.rsl key sz 0 n,st.put key (some (.cells cs false))):=by
 unfold Nam
 simp only [hd,hg,hk,NaP,ite_self,NaI]
theorem Njg {st:St} {cd:Cd} {z:Bool} {n:Nat} {cs:List PV}:keysL st [.agg (Cd.cs cd),slV z n cs] = []:=by
 unfold Cd.cs slV
 split <;> split <;> split <;> rfl
theorem NeP {cfg:Cfg} (hc:CfgA cfg) {fuel:Nat} {cd:Cd} {z:Bool} {l:List Et} (hv:∀ e,e ∈ l → EtOK cd e) (hl:l.length < 1000) (hfu:l.length + 6 ≤ fuel) :
 Nak cfg (NaE cfg (fuel + 5)) 24 [.agg (Cd.cs cd),slV z l.length (l.flatMap Et.cs)] = some (Nmo (Nbh cd l l.length)):=by
 obtain ⟨r,st',h1,h2⟩:=NiO (st:={ sto:=.leaf,cnt:=1 }) hc.toCfgR (z:=z) hv hl hfu
 exact Nht hc.r8 NcE ⟨r,st',h1,h2⟩
theorem NgC {cfg:Cfg} (hc:CfgA cfg) {fuel:Nat} {cd:Cd} {z:Bool} {l:List Et} (hv:∀ e,e ∈ l → EtOK cd e) (hl:l.length < 1000) (hfu:l.length + 6 ≤ fuel) (h0:0 < l.length) (st:St) (key:Nat) :
 Nam (Nak cfg (NaE cfg (fuel + 5)) 24) false st key [.agg [slV cd.zo cd.O.length (cd.O.flatMap Dc.cs),slV cd.zt cd.T.length (cd.T.flatMap Tx.cs)],slV z l.length (l.flatMap Et.cs)] = some (.rsl key 1 0 l.length,st.put key (some (.cells ((Nbh cd l l.length).map clP) false))):=by
 have hne:Nbh cd l l.length ≠ []:=by
  intro e
  have:(Nbh cd l l.length).length = l.length:=by simp [Nbh]
  rw [e] at this
  simp at this
  omega
 have hr:=NeP hc (z:=z) hv hl hfu
 unfold Nmo at hr
 rw [if_neg hne] at hr
 have hlen:(Nbh cd l l.length).length = l.length:=by simp [Nbh]
 rw [hlen] at hr
 exact NiJ (NaX Nbp Nfk) Njg hr
theorem Nez:∀ {l:List Ch} {n:List Int} {C:Ch → List Int},NaN n = true → (∀ q,NaN (C q) = true) → ∀ q,NaN (NbZ l n C q) = true
 | [],n,C,_,h,q => h q
 | k :: r,n,C,hn,h,q => by
   rw [NbZ]
   refine Nez hn (fun p => ?_) q
   unfold NjM
   split
   ·exact NcF (h k) hn
   ·exact h p
theorem Ne9 {cd:Cd} {l:List Et} (hv:∀ e,e ∈ l → EtOK cd e) (i:Nat):0 ≤ thL l i ∧ thL l i ≤ 63:=by
 unfold thL
 by_cases h:i < l.length
 ·have e:l.getD i etZ = l[i]:=by rw [List.getD_eq_getElem?_getD,List.getElem?_eq_getElem h]; rfl
  rw [e]
  exact ⟨(hv _ (List.getElem_mem h)).t0,(hv _ (List.getElem_mem h)).t1⟩
 ·have e:l.getD i etZ = etZ:=by rw [List.getD_eq_getElem?_getD,List.getElem?_eq_none Zaa]; rfl
  rw [e]
  exact ⟨by decide,by decide⟩
theorem Ney {cd:Cd} {l:List Et} (hv:∀ e,e ∈ l → EtOK cd e):∀ j,(∀ u,NaN ((Nev (thL l) (gvL cd l) (tkL cd l) j).T u) = true) ∧ ∀ q,NaN ((Nev (thL l) (gvL cd l) (tkL cd l) j).C q) = true
 | 0 => ⟨fun _ => rfl,fun _ => rfl⟩
 | j + 1 => by
   obtain ⟨h1,h2⟩:=Ney hv j
   have hn:NaN (NaR (Nev (thL l) (gvL cd l) (tkL cd l) j).C (tkL cd l j) (NbQ ((Nev (thL l) (gvL cd l) (tkL cd l) j).T (thL l j)) (thL l j))) = true:=NhH (Ndm (h1 _) (Ne9 hv j).1 (Ne9 hv j).2) h2
   refine ⟨fun u => ?_,Nez hn h2⟩
   show NaN (Ng6 _ _ _ u) = true
   unfold Ng6
   split
   ·exact hn
   ·exact h1 u
theorem NlI {cd:Cd} {l:List Et} (hv:∀ e,e ∈ l → EtOK cd e) (i:Nat):NaN (NdA cd l i) = true :=
 NhH (Ndm ((Ney hv i).1 _) (Ne9 hv i).1 (Ne9 hv i).2) (Ney hv i).2
theorem NfP {cd:Cd} {l:List Et} (hv:∀ e,e ∈ l → EtOK cd e) (i:Nat):(NdA cd l i).length < 1000:=(Nci (NlI hv i)).1
theorem Nl7 {ck:Int} {cd:Cd} {l:List Et} (h:trV ck cd l = true) (h16:cd.T.length ≤ 64):∀ e,e ∈ l → EtOK cd e:=by
 intro e he
 unfold trV at h
 simp only [Bool.and_eq_true,List.all_eq_true] at h
 have:=h.2 e he
 unfold etB at this
 simp only [Bool.and_eq_true,decide_eq_true_eq] at this
 exact ⟨by omega,by omega,by omega,by omega⟩
theorem NiN {cd:Cd} {l:List Et} {n i:Nat} (h:i < n):List.take 1 (List.drop i ((Nbh cd l n).map clP)) = [clP (NdA cd l i)]:=by
 have hl:i < ((Nbh cd l n).map clP).length:=by simp [Nbh,h]
 rw [List.drop_eq_getElem_cons hl]
 simp [Nbh]
theorem Nb9 {α:Type} {f:α → List PV} {w:Nat} (hw:∀ a,(f a).length = w):∀ {l:List α} {i:Nat} (h:i < l.length),(l.flatMap f).drop (i * w) = f l[i] ++ (l.flatMap f).drop ((i + 1) * w)
 | [],i,h => by simp at h
 | a :: r,0,_ => by
   rw [List.flatMap_cons,Nat.zero_mul,List.drop_zero,Nat.zero_add,Nat.one_mul,List.drop_left' (hw a)]
   rfl
 | a :: r,i + 1,h => by
   have e:∀ k,(f a ++ r.flatMap f).drop ((k + 1) * w) = (r.flatMap f).drop (k * w):=fun k => by
    rw [show (k + 1) * w = w + k * w by rw [Nat.add_mul]; omega,← List.drop_drop,List.drop_left' (hw a)]
   rw [List.flatMap_cons,e,e,Nb9 hw (l:=r) (i:=i) (by simpa using h)]
   rfl
end Go.Pe
