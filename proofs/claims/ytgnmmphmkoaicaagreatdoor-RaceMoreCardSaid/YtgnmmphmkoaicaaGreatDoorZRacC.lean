/-
 Races: the ways of an object, walked. No condition.
-/
import Derived.Test.YtgnmmphmkoaicaaGreatDoorZRacB
set_option linter.unusedVariables false
set_option linter.unusedSimpArgs false
set_option maxHeartbeats 8000000
open Nat renaming reduceAdd → rA,reduceMul → rB,reduceLT → rC,reduceEqDiff → rD,reduceLeDiff → rE
namespace Go.Pe
open Go Go.Am Go.RowKit

def Na4 (k o:Nat) (J n a:Int):List Ch :=
 if k = 1 then (if o = 1 ∨ (o = 3 ∨ o = 4) ∧ a = 1 then [(J,-1)] else [])
 else if k = 4 then (if o = 24 then [(n,-1),(J,-3)] else [])
 else if k = 2 then (if o = 5 ∨ o = 7 then [(J,-1)] else []) ++ (if o = 7 then [(J,-2)] else [])
 else if k = 5 then (if o = 25 then [(J,a)] else [])
 else if k = 3 then (if o = 9 ∨ o = 11 ∧ a = 1 then [(J,-1)] else [])
 else if k = 6 then (if o = 16 ∧ a = 0 then [(J,-1)] else [])
 else if k = 7 then (if o = 19 then [(J,-1)] else [])
 else if k = 8 then (if o = 21 then [(J,-1)] else [])
 else []
def NaY (k o:Nat) (J n a:Int):List Ch :=
 if k = 1 then (if o = 2 then [(J,-1)] else [])
 else if k = 4 then (if o = 12 then [(n,-1)] else []) ++ (if o = 13 ∨ o = 14 then [(J,-3)] else [])
 else if k = 2 then (if o = 8 then [(J,-1)] else []) ++ (if o = 6 then [(J,-2)] else [])
 else if k = 5 then (if o = 15 then [(J,a)] else [])
 else if k = 3 then (if o = 10 then [(J,-1)] else [])
 else if k = 6 then (if o = 26 then [(J,-1)] else [])
 else if k = 7 then (if o = 17 ∨ o = 18 then [(J,-1)] else [])
 else if k = 8 then (if o = 20 then [(J,-1)] else [])
 else []
theorem WBs.grow {base st':St} {N O B W Cm:Nat} {C:Ch → List Int} (h:WBs base N O B W Cm C) (hc:base.cnt ≤ st'.cnt) (hg:∀ j,j < base.cnt → st'.get j = base.get j):WBs st' N O B W Cm C:=by
 obtain ⟨l1,l2,l3,l4,l5⟩:=h.lt
 obtain ⟨c1,c2,tm,gW⟩:=h.gW
 obtain ⟨fs,f,gC,gM,gV⟩:=h.gC
 exact ⟨⟨by omega,by omega,by omega,by omega,by omega⟩,h.ne,(hg B l3).trans h.gB,⟨c1,c2,tm,(hg W l4).trans gW⟩,⟨fs,f,(hg Cm l5).trans gC,gM,fun q => ⟨(gV q).1.move hc fun j hj _ => hg j hj,(gV q).2⟩⟩,h.sh⟩
theorem WS.init {base st':St} {N O B W Cm:Nat} {C:Ch → List Int} {v0:PV} {n:List Int} (hb:WBs base N O B W Cm C) (hg:∀ j,j < base.cnt → st'.get j = base.get j) (hc:base.cnt ≤ st'.cnt) (hNv:base.get N = some (.cells [v0] false)) (hv:CV base base.cnt v0 n) (hkv:∀ q,q ∈ keyOf v0 → q ≠ N ∧ q ≠ O ∧ N ≤ q + 8) (hO0:base.get O = some (.cells [.nsl] false)):WS st' st' N O n [] :=
 ⟨Nat.le_refl _,fun _ _ _ _ => rfl,v0,.nsl,(hg N hb.lt.1).trans hNv,hv.move hc fun j hj _ => hg j hj,(hg O hb.lt.2.1).trans hO0,Own.nil _ _,fun k h => by simp [keyOf] at h,fun k h => ⟨by simp [keyOf],hkv k h⟩⟩
theorem WS.reinit {base s1:St} {N O:Nat} {n:List Int} (h:WS base base N O n []) (hc:base.cnt ≤ s1.cnt) (hg:∀ j,j < base.cnt → s1.get j = base.get j) (hN:N < base.cnt:=by omega) (hO:O < base.cnt:=by omega):WS s1 s1 N O n []:=by
 obtain ⟨v,tv,h1,h2,h3,h4,h5,h6⟩:=h.vt
 have ht:keyOf tv = []:=by
  cases hk:keyOf tv with
  | nil => rfl
  | cons q r => have:=h4.lt q (by rw [hk]; simp); have:=h5 q (by rw [hk]; simp); omega
 exact ⟨Nat.le_refl _,fun _ _ _ _ => rfl,v,tv,(hg N hN).trans h1,h2.move hc fun j hj _ => hg j hj,(hg O hO).trans h3,h4.move hc fun j hj _ => by rw [ht] at hj; simp at hj,fun k hk => by rw [ht] at hk; simp at hk,h6⟩
theorem WS.rebase {base s1 st':St} {N O:Nat} {n:List Int} {to:List Ch} (h:WS s1 st' N O n to) (hg:∀ j,j < base.cnt → s1.get j = base.get j) (hc:base.cnt ≤ s1.cnt):WS base st' N O n to:=by
 obtain ⟨v,tv,h1,h2,h3,h4,h5,h6⟩:=h.vt
 have:=h.cnt
 exact ⟨by omega,fun j a b c => (h.fr j Zaa b c).trans (hg j a),v,tv,h1,h2,h3,h4,fun k hk => by have:=h5 k hk; omega,h6⟩
theorem WS.up {base:St} {sto:Trie PObj} {c c' N O:Nat} {n:List Int} {to:List Ch} (h:WS base ⟨sto,c⟩ N O n to) (hc:c ≤ c'):WS base ⟨sto,c'⟩ N O n to:=by
 obtain ⟨v,tv,h1,h2,h3,h4,h5,h6⟩:=h.vt
 have:=h.cnt
 exact ⟨by simp only at this ⊢; omega,fun j a b c => h.fr j a b c,v,tv,h1,h2.move hc fun _ _ _ => rfl,h3,h4.move hc fun _ _ _ => rfl,h5,h6⟩
theorem WS.cast {base st':St} {N O:Nat} {n n':List Int} {to to':List Ch} (h:WS base st' N O n to) (e1:n' = n) (e2:to' = to):WS base st' N O n' to':=by rw [e1,e2]; exact h
theorem Nlr {ok:Bool} {n a:List Int} (h:n ≠ []):(if ok = true then Nbq n a else n) ≠ []:=by split; exact NdI h; exact h
theorem Nls {ok:Bool} {n a:List Int} (h:NaN n = true) (g:NaN a = true):NaN (if ok = true then Nbq n a else n) = true:=by split; exact NcF h g; exact h
theorem Nns {cfg:Cfg} (hc:CfgR cfg) {fuel N O B W Cm:Nat} {st:St} {C:Ch → List Int} {n:List Int} {cd:Cd} {e:Et} {d:Dc} (hb:WBs st N O B W Cm C) {v0:PV} (hNv:st.get N = some (.cells [v0] false)) (hv:CV st st.cnt v0 n) (hkv:∀ q,q ∈ keyOf v0 → q ≠ N ∧ q ≠ O ∧ N ≤ q + 8) (hO0:st.get O = some (.cells [.nsl] false)) (hn:n ≠ []) (sn:NaN n = true) (h0:0 ≤ e.J) (hJ:e.J.toNat < cd.O.length) (hd:cd.O[e.J.toNat] = d) :
 ∃ r st',NaE cfg (fuel + 3) 73 [.agg (Cd.cs cd),.agg (Et.cs e),.fn 74 [.ptr N 0,.ptr B 0],.fn 76 [.ptr O 0]] st = some (r,st') ∧ WS st st' N O (NaR C (Na4 d.K.toNat e.O.toNat e.J d.N e.A) n) (NaY d.K.toNat e.O.toNat e.J d.N e.A):=by
 refine NaB (hc.fn _ _ (by kernel_rfl):cfg.fn 73 = some m73) ?_
 delta m73 Qa Qr Qg Ql Qt Qn Qs Qk Qm Qh Cd.cs Et.cs
 obtain ⟨X,hX⟩:∃ X:St → Prop,X = fun st' => WS st st' N O (NaR C (Na4 d.K.toNat e.O.toNat e.J d.N e.A) n) (NaY d.K.toNat e.O.toNat e.J d.N e.A):=⟨_,rfl⟩
 simp only [show ∀ st',WS st st' N O (NaR C (Na4 d.K.toNat e.O.toNat e.J d.N e.A) n) (NaY d.K.toNat e.O.toNat e.J d.N e.A) = X st' from fun _ => by rw [hX]]
 obtain ⟨sto0,c0⟩:=st
 have hO:=Nav Dc.cs_len cd.O
 have hld:=fun st => Nfr (st:=st) hJ
 simp only [hd] at hld
 simp only [Nal]
 rw [Naq hJ]
 iterate 3
  (try rw [Z0])
  (try simp (maxSteps:=2000000) (disch:=first | omega | rfl | assumption) only [↓Yaa,Yab,Nae,Naa,rA,rB,rC,rD,reduceIte,unP,rE,Nag,Naf,hld,hO])
 obtain ⟨o,ho⟩:∃ o,e.O.toNat = o:=⟨_,rfl⟩
 obtain ⟨k,hk⟩:∃ k,d.K.toNat = k:=⟨_,rfl⟩
 simp only [ho,hk] at hX ⊢
 refine NaD (fun x => ∃ (X:Nat) (Y:Nat) (Z:Nat),X < x.st.cnt ∧ (X < Y) ∧ Y < x.st.cnt ∧ (Y < Z) ∧ Z < x.st.cnt ∧ x.env.get 2 = .fn 74 [.ptr N 0,.ptr B 0] ∧ x.env.get 3 = .fn 76 [.ptr O 0] ∧ x.env.get 5 = .ptr X 0 ∧ x.env.get 8 = .ptr Y 0 ∧ x.env.get 9 = .ptr Z 0 ∧ x.st.get X = some (.cells [.i .i64 e.T,.i .u8 (o:Int),.i .i64 e.J,.i .i64 e.A,.i .i64 e.B] false) ∧ x.st.get Y = some (.cells [.i .u8 (k:Int),.s d.S,.i .i64 d.N,.s d.O,.i .i64 d.R] false) ∧ x.st.get Z = some (.cells [.i .i64 e.J,.i .i64 (-((1:Nat):Int))] false) ∧ (c0 ≤ X) ∧ (∀ j,j < c0 → x.st.get j = St.get ⟨sto0,c0⟩ j)) ?_ ?_
 ·refine ⟨c0 + 8,c0 + 64,c0 + 104,?_,?_,?_,?_,?_,Zab,Zab,Zab,Zab,Zab,?_,?_,?_,?_,(fun j hj => by simp (disch:=omega) only [Nar,Nas]; rfl)⟩ <;> first | with_reducible rfl | with_reducible assumption | exact kX _ | exact kY _ | exact kZ _ | omega | (simp only [Z0L_,NaC]; omega) | (simp only; omega) | assumption | rfl | (simp; omega) | (simp; done) | (simp (disch:=omega) only [Nar,Nas,Yae]; first | done | with_reducible rfl | with_reducible assumption)
 rintro ⟨env,⟨sto,c⟩⟩ ⟨X,Y,Z,bX,oY,bY,oZ,bZ,g2,g3,g5,g8,g9,kX,kY,kZ,lX,kof⟩
 try simp only at bX bY bZ g2 g3 g5 g8 g9
 replace kX:∀ n',St.get ⟨sto,n'⟩ X = some (.cells [.i .i64 e.T,.i .u8 (o:Int),.i .i64 e.J,.i .i64 e.A,.i .i64 e.B] false):=fun _ => kX
 replace kY:∀ n',St.get ⟨sto,n'⟩ Y = some (.cells [.i .u8 (k:Int),.s d.S,.i .i64 d.N,.s d.O,.i .i64 d.R] false):=fun _ => kY
 replace kZ:∀ n',St.get ⟨sto,n'⟩ Z = some (.cells [.i .i64 e.J,.i .i64 (-((1:Nat):Int))] false):=fun _ => kZ
 obtain ⟨s1,hs1⟩:∃ s1,(⟨sto,c⟩:St) = s1:=⟨_,rfl⟩
 have hw1:WS s1 s1 N O n []:=WS.init hb (by rw [← hs1]; exact kof) (by rw [← hs1]; simp only; omega) hNv hv hkv hO0
 have hb1:WBs s1 N O B W Cm C:=hb.grow (by rw [← hs1]; simp only; omega) (by rw [← hs1]; exact kof)
 have hlt:=hb.lt
 simp only at hlt
 have hre:∀ {st' n' to'},WS s1 st' N O n' to' → WS ⟨sto0,c0⟩ st' N O n' to':=fun h => h.rebase (by rw [← hs1]; exact kof) (by rw [← hs1]; simp only; omega)
 have hc1:s1.cnt = c:=by rw [← hs1]
 have qX:s1.get X = some (.cells [.i .i64 e.T,.i .u8 (o:Int),.i .i64 e.J,.i .i64 e.A,.i .i64 e.B] false):=by rw [← hs1]; exact kX c
 have qY:s1.get Y = some (.cells [.i .u8 (k:Int),.s d.S,.i .i64 d.N,.s d.O,.i .i64 d.R] false):=by rw [← hs1]; exact kY c
 have qZ:s1.get Z = some (.cells [.i .i64 e.J,.i .i64 (-((1:Nat):Int))] false):=by rw [← hs1]; exact kZ c
 have aX:X ≠ N ∧ X ≠ O:=⟨by omega,by omega⟩
 have aY:Y ≠ N ∧ Y ≠ O:=⟨by omega,by omega⟩
 have aZ:Z ≠ N ∧ Z ≠ O:=⟨by omega,by omega⟩
 iterate 2
  (try rw [Z0])
  (try simp (maxSteps:=2000000) (disch:=first | omega | rfl | assumption) only [↓Yaa,Yab,Nae,Naa,rA,rB,rC,rD,reduceIte,unP,rE,g2,g3,g5,g8,g9,kX,kY,kZ])
 have hwa:∀ c',c ≤ c' → WS s1 ⟨sto,c'⟩ N O n []:=fun c' h => by rw [← hs1] at hw1 ⊢; exact hw1.up h
 by_cases hk1:k = 1
 ·have fk1:((k:Int) == Int.ofNat 1) = true:=by simp; omega
  by_cases ho1:o = 1
  ·skip
   have fo1:((o:Int) == Int.ofNat 1) = true:=by simp; omega
   iterate 3
    (try rw [Z0])
    (try simp (maxSteps:=2000000) (disch:=first | omega | rfl | assumption) only [↓Yaa,Yab,Nae,Naa,rA,rB,rC,rD,reduceIte,unP,rE,g2,g3,g5,g8,g9,kX,kY,kZ,hc.r5,fk1,fo1])
   refine Nbg (Na1 hc (k:=(e.J,-1)) hb1 (hwa _ Zac) hn sn) ?_
   clear kX kY kZ
   rintro r0 ⟨sto,c2⟩ hw2
   have kX:∀ n',St.get ⟨sto,n'⟩ X = _:=fun _ => (hw2.fr X Zaa aX.1 aX.2).trans qX
   have kY:∀ n',St.get ⟨sto,n'⟩ Y = _:=fun _ => (hw2.fr Y Zaa aY.1 aY.2).trans qY
   have kZ:∀ n',St.get ⟨sto,n'⟩ Z = _:=fun _ => (hw2.fr Z Zaa aZ.1 aZ.2).trans qZ
   (try rw [Z0])
   (try simp (maxSteps:=2000000) (disch:=first | omega | rfl | assumption) only [↓Yaa,Yab,Nae,Naa,rA,rB,rC,rD,reduceIte,unP,rE,g2,g3,g5,g8,g9,kX,kY,kZ,hc.r5,fk1,fo1])
   refine Nbg (Na0 hc (k:=(e.J,-1)) hb1 (hw2.up Zac) Zae) ?_
   clear kX kY kZ
   rintro r1 ⟨sto,c3⟩ hw3
   have kX:∀ n',St.get ⟨sto,n'⟩ X = _:=fun _ => (hw3.fr X Zaa aX.1 aX.2).trans qX
   have kY:∀ n',St.get ⟨sto,n'⟩ Y = _:=fun _ => (hw3.fr Y Zaa aY.1 aY.2).trans qY
   have kZ:∀ n',St.get ⟨sto,n'⟩ Z = _:=fun _ => (hw3.fr Z Zaa aZ.1 aZ.2).trans qZ
   (try rw [Z0])
   (try simp (maxSteps:=2000000) (disch:=first | omega | rfl | assumption) only [↓Yaa,Yab,Nae,Naa,rA,rB,rC,rD,reduceIte,unP,rE,g2,g3,g5,g8,g9,kX,kY,kZ,fk1,fo1])
   subst hX
   exact ⟨nofun,_,rfl,(hre (hw3.up Zac)).cast (by simp [Na4,NaR,hk1,ho1] <;> (repeat' (first | split | omega | rfl | simp_all))) (by simp [NaY,hk1,ho1] <;> (repeat' (first | split | omega | rfl | simp_all)))⟩
  ·skip
   by_cases ho3:o = 3
   ·skip
    by_cases hA1:e.A = 1
    ·skip
     have fo1:((o:Int) == Int.ofNat 1) = false:=by simp; omega
     have fo3:((o:Int) == Int.ofNat 3) = true:=by simp; omega
     have fA1:(e.A == Int.ofNat 1) = true:=by simp; omega
     iterate 3
      (try rw [Z0])
      (try simp (maxSteps:=2000000) (disch:=first | omega | rfl | assumption) only [↓Yaa,Yab,Nae,Naa,rA,rB,rC,rD,reduceIte,unP,rE,g2,g3,g5,g8,g9,kX,kY,kZ,hc.r5,fk1,fo1,fo3,fA1])
     refine Nbg (Na1 hc (k:=(e.J,-1)) hb1 (hwa _ Zac) hn sn) ?_
     clear kX kY kZ
     rintro r0 ⟨sto,c2⟩ hw2
     have kX:∀ n',St.get ⟨sto,n'⟩ X = _:=fun _ => (hw2.fr X Zaa aX.1 aX.2).trans qX
     have kY:∀ n',St.get ⟨sto,n'⟩ Y = _:=fun _ => (hw2.fr Y Zaa aY.1 aY.2).trans qY
     have kZ:∀ n',St.get ⟨sto,n'⟩ Z = _:=fun _ => (hw2.fr Z Zaa aZ.1 aZ.2).trans qZ
     (try rw [Z0])
     (try simp (maxSteps:=2000000) (disch:=first | omega | rfl | assumption) only [↓Yaa,Yab,Nae,Naa,rA,rB,rC,rD,reduceIte,unP,rE,g2,g3,g5,g8,g9,kX,kY,kZ,hc.r5,fk1,fo1,fo3,fA1])
     refine Nbg (Na0 hc (k:=(e.J,-1)) hb1 (hw2.up Zac) Zae) ?_
     clear kX kY kZ
     rintro r1 ⟨sto,c3⟩ hw3
     have kX:∀ n',St.get ⟨sto,n'⟩ X = _:=fun _ => (hw3.fr X Zaa aX.1 aX.2).trans qX
     have kY:∀ n',St.get ⟨sto,n'⟩ Y = _:=fun _ => (hw3.fr Y Zaa aY.1 aY.2).trans qY
     have kZ:∀ n',St.get ⟨sto,n'⟩ Z = _:=fun _ => (hw3.fr Z Zaa aZ.1 aZ.2).trans qZ
     (try rw [Z0])
     (try simp (maxSteps:=2000000) (disch:=first | omega | rfl | assumption) only [↓Yaa,Yab,Nae,Naa,rA,rB,rC,rD,reduceIte,unP,rE,g2,g3,g5,g8,g9,kX,kY,kZ,fk1,fo1,fo3,fA1])
     subst hX
     exact ⟨nofun,_,rfl,(hre (hw3.up Zac)).cast (by simp [Na4,NaR,hk1,ho1,ho3,hA1] <;> (repeat' (first | split | omega | rfl | simp_all))) (by simp [NaY,hk1,ho1,ho3,hA1] <;> (repeat' (first | split | omega | rfl | simp_all)))⟩
    ·skip
     have fo1:((o:Int) == Int.ofNat 1) = false:=by simp; omega
     have fo3:((o:Int) == Int.ofNat 3) = true:=by simp; omega
     have fA1:(e.A == Int.ofNat 1) = false:=by simp; omega
     iterate 3
      (try rw [Z0])
      (try simp (maxSteps:=2000000) (disch:=first | omega | rfl | assumption) only [↓Yaa,Yab,Nae,Naa,rA,rB,rC,rD,reduceIte,unP,rE,g2,g3,g5,g8,g9,kX,kY,kZ,hc.r5,fk1,fo1,fo3,fA1])
     refine Nbg (Na1 hc (k:=(e.J,-1)) hb1 (hwa _ Zac) hn sn) ?_
     clear kX kY kZ
     rintro r0 ⟨sto,c2⟩ hw2
     have kX:∀ n',St.get ⟨sto,n'⟩ X = _:=fun _ => (hw2.fr X Zaa aX.1 aX.2).trans qX
     have kY:∀ n',St.get ⟨sto,n'⟩ Y = _:=fun _ => (hw2.fr Y Zaa aY.1 aY.2).trans qY
     have kZ:∀ n',St.get ⟨sto,n'⟩ Z = _:=fun _ => (hw2.fr Z Zaa aZ.1 aZ.2).trans qZ
     (try rw [Z0])
     (try simp (maxSteps:=2000000) (disch:=first | omega | rfl | assumption) only [↓Yaa,Yab,Nae,Naa,rA,rB,rC,rD,reduceIte,unP,rE,g2,g3,g5,g8,g9,kX,kY,kZ,hc.r5,fk1,fo1,fo3,fA1])
     refine Nbg (Na0 hc (k:=(e.J,-1)) hb1 (hw2.up Zac) Zae) ?_
     clear kX kY kZ
     rintro r1 ⟨sto,c3⟩ hw3
     have kX:∀ n',St.get ⟨sto,n'⟩ X = _:=fun _ => (hw3.fr X Zaa aX.1 aX.2).trans qX
     have kY:∀ n',St.get ⟨sto,n'⟩ Y = _:=fun _ => (hw3.fr Y Zaa aY.1 aY.2).trans qY
     have kZ:∀ n',St.get ⟨sto,n'⟩ Z = _:=fun _ => (hw3.fr Z Zaa aZ.1 aZ.2).trans qZ
     (try rw [Z0])
     (try simp (maxSteps:=2000000) (disch:=first | omega | rfl | assumption) only [↓Yaa,Yab,Nae,Naa,rA,rB,rC,rD,reduceIte,unP,rE,g2,g3,g5,g8,g9,kX,kY,kZ,fk1,fo1,fo3,fA1])
     subst hX
     exact ⟨nofun,_,rfl,(hre (hw3.up Zac)).cast (by simp [Na4,NaR,hk1,ho1,ho3,hA1] <;> (repeat' (first | split | omega | rfl | simp_all))) (by simp [NaY,hk1,ho1,ho3,hA1] <;> (repeat' (first | split | omega | rfl | simp_all)))⟩
   ·skip
    by_cases ho4:o = 4
    ·skip
     by_cases hA1:e.A = 1
     ·skip
      have fo1:((o:Int) == Int.ofNat 1) = false:=by simp; omega
      have fo3:((o:Int) == Int.ofNat 3) = false:=by simp; omega
      have fo4:((o:Int) == Int.ofNat 4) = true:=by simp; omega
      have fA1:(e.A == Int.ofNat 1) = true:=by simp; omega
      iterate 3
       (try rw [Z0])
       (try simp (maxSteps:=2000000) (disch:=first | omega | rfl | assumption) only [↓Yaa,Yab,Nae,Naa,rA,rB,rC,rD,reduceIte,unP,rE,g2,g3,g5,g8,g9,kX,kY,kZ,hc.r5,fk1,fo1,fo3,fo4,fA1])
      refine Nbg (Na1 hc (k:=(e.J,-1)) hb1 (hwa _ Zac) hn sn) ?_
      clear kX kY kZ
      rintro r0 ⟨sto,c2⟩ hw2
      have kX:∀ n',St.get ⟨sto,n'⟩ X = _:=fun _ => (hw2.fr X Zaa aX.1 aX.2).trans qX
      have kY:∀ n',St.get ⟨sto,n'⟩ Y = _:=fun _ => (hw2.fr Y Zaa aY.1 aY.2).trans qY
      have kZ:∀ n',St.get ⟨sto,n'⟩ Z = _:=fun _ => (hw2.fr Z Zaa aZ.1 aZ.2).trans qZ
      (try rw [Z0])
      (try simp (maxSteps:=2000000) (disch:=first | omega | rfl | assumption) only [↓Yaa,Yab,Nae,Naa,rA,rB,rC,rD,reduceIte,unP,rE,g2,g3,g5,g8,g9,kX,kY,kZ,hc.r5,fk1,fo1,fo3,fo4,fA1])
      refine Nbg (Na0 hc (k:=(e.J,-1)) hb1 (hw2.up Zac) Zae) ?_
      clear kX kY kZ
      rintro r1 ⟨sto,c3⟩ hw3
      have kX:∀ n',St.get ⟨sto,n'⟩ X = _:=fun _ => (hw3.fr X Zaa aX.1 aX.2).trans qX
      have kY:∀ n',St.get ⟨sto,n'⟩ Y = _:=fun _ => (hw3.fr Y Zaa aY.1 aY.2).trans qY
      have kZ:∀ n',St.get ⟨sto,n'⟩ Z = _:=fun _ => (hw3.fr Z Zaa aZ.1 aZ.2).trans qZ
      (try rw [Z0])
      (try simp (maxSteps:=2000000) (disch:=first | omega | rfl | assumption) only [↓Yaa,Yab,Nae,Naa,rA,rB,rC,rD,reduceIte,unP,rE,g2,g3,g5,g8,g9,kX,kY,kZ,fk1,fo1,fo3,fo4,fA1])
      subst hX
      exact ⟨nofun,_,rfl,(hre (hw3.up Zac)).cast (by simp [Na4,NaR,hk1,ho1,ho3,ho4,hA1] <;> (repeat' (first | split | omega | rfl | simp_all))) (by simp [NaY,hk1,ho1,ho3,ho4,hA1] <;> (repeat' (first | split | omega | rfl | simp_all)))⟩
     ·skip
      have fo1:((o:Int) == Int.ofNat 1) = false:=by simp; omega
      have fo3:((o:Int) == Int.ofNat 3) = false:=by simp; omega
      have fo4:((o:Int) == Int.ofNat 4) = true:=by simp; omega
      have fA1:(e.A == Int.ofNat 1) = false:=by simp; omega
      iterate 3
       (try rw [Z0])
       (try simp (maxSteps:=2000000) (disch:=first | omega | rfl | assumption) only [↓Yaa,Yab,Nae,Naa,rA,rB,rC,rD,reduceIte,unP,rE,g2,g3,g5,g8,g9,kX,kY,kZ,hc.r5,fk1,fo1,fo3,fo4,fA1])
      refine Nbg (Na1 hc (k:=(e.J,-1)) hb1 (hwa _ Zac) hn sn) ?_
      clear kX kY kZ
      rintro r0 ⟨sto,c2⟩ hw2
      have kX:∀ n',St.get ⟨sto,n'⟩ X = _:=fun _ => (hw2.fr X Zaa aX.1 aX.2).trans qX
      have kY:∀ n',St.get ⟨sto,n'⟩ Y = _:=fun _ => (hw2.fr Y Zaa aY.1 aY.2).trans qY
      have kZ:∀ n',St.get ⟨sto,n'⟩ Z = _:=fun _ => (hw2.fr Z Zaa aZ.1 aZ.2).trans qZ
      (try rw [Z0])
      (try simp (maxSteps:=2000000) (disch:=first | omega | rfl | assumption) only [↓Yaa,Yab,Nae,Naa,rA,rB,rC,rD,reduceIte,unP,rE,g2,g3,g5,g8,g9,kX,kY,kZ,hc.r5,fk1,fo1,fo3,fo4,fA1])
      refine Nbg (Na0 hc (k:=(e.J,-1)) hb1 (hw2.up Zac) Zae) ?_
      clear kX kY kZ
      rintro r1 ⟨sto,c3⟩ hw3
      have kX:∀ n',St.get ⟨sto,n'⟩ X = _:=fun _ => (hw3.fr X Zaa aX.1 aX.2).trans qX
      have kY:∀ n',St.get ⟨sto,n'⟩ Y = _:=fun _ => (hw3.fr Y Zaa aY.1 aY.2).trans qY
      have kZ:∀ n',St.get ⟨sto,n'⟩ Z = _:=fun _ => (hw3.fr Z Zaa aZ.1 aZ.2).trans qZ
      (try rw [Z0])
      (try simp (maxSteps:=2000000) (disch:=first | omega | rfl | assumption) only [↓Yaa,Yab,Nae,Naa,rA,rB,rC,rD,reduceIte,unP,rE,g2,g3,g5,g8,g9,kX,kY,kZ,fk1,fo1,fo3,fo4,fA1])
      subst hX
      exact ⟨nofun,_,rfl,(hre (hw3.up Zac)).cast (by simp [Na4,NaR,hk1,ho1,ho3,ho4,hA1] <;> (repeat' (first | split | omega | rfl | simp_all))) (by simp [NaY,hk1,ho1,ho3,ho4,hA1] <;> (repeat' (first | split | omega | rfl | simp_all)))⟩
    ·skip
     have fo1:((o:Int) == Int.ofNat 1) = false:=by simp; omega
     have fo3:((o:Int) == Int.ofNat 3) = false:=by simp; omega
     have fo4:((o:Int) == Int.ofNat 4) = false:=by simp; omega
     iterate 3
      (try rw [Z0])
      (try simp (maxSteps:=2000000) (disch:=first | omega | rfl | assumption) only [↓Yaa,Yab,Nae,Naa,rA,rB,rC,rD,reduceIte,unP,rE,g2,g3,g5,g8,g9,kX,kY,kZ,hc.r5,fk1,fo1,fo3,fo4])
     refine Nbg (Na1 hc (k:=(e.J,-1)) hb1 (hwa _ Zac) hn sn) ?_
     clear kX kY kZ
     rintro r0 ⟨sto,c2⟩ hw2
     have kX:∀ n',St.get ⟨sto,n'⟩ X = _:=fun _ => (hw2.fr X Zaa aX.1 aX.2).trans qX
     have kY:∀ n',St.get ⟨sto,n'⟩ Y = _:=fun _ => (hw2.fr Y Zaa aY.1 aY.2).trans qY
     have kZ:∀ n',St.get ⟨sto,n'⟩ Z = _:=fun _ => (hw2.fr Z Zaa aZ.1 aZ.2).trans qZ
     (try rw [Z0])
     (try simp (maxSteps:=2000000) (disch:=first | omega | rfl | assumption) only [↓Yaa,Yab,Nae,Naa,rA,rB,rC,rD,reduceIte,unP,rE,g2,g3,g5,g8,g9,kX,kY,kZ,hc.r5,fk1,fo1,fo3,fo4])
     refine Nbg (Na0 hc (k:=(e.J,-1)) hb1 (hw2.up Zac) Zae) ?_
     clear kX kY kZ
     rintro r1 ⟨sto,c3⟩ hw3
     have kX:∀ n',St.get ⟨sto,n'⟩ X = _:=fun _ => (hw3.fr X Zaa aX.1 aX.2).trans qX
     have kY:∀ n',St.get ⟨sto,n'⟩ Y = _:=fun _ => (hw3.fr Y Zaa aY.1 aY.2).trans qY
     have kZ:∀ n',St.get ⟨sto,n'⟩ Z = _:=fun _ => (hw3.fr Z Zaa aZ.1 aZ.2).trans qZ
     (try rw [Z0])
     (try simp (maxSteps:=2000000) (disch:=first | omega | rfl | assumption) only [↓Yaa,Yab,Nae,Naa,rA,rB,rC,rD,reduceIte,unP,rE,g2,g3,g5,g8,g9,kX,kY,kZ,fk1,fo1,fo3,fo4])
     subst hX
     exact ⟨nofun,_,rfl,(hre (hw3.up Zac)).cast (by simp [Na4,NaR,hk1,ho1,ho3,ho4] <;> (repeat' (first | split | omega | rfl | simp_all))) (by simp [NaY,hk1,ho1,ho3,ho4] <;> (repeat' (first | split | omega | rfl | simp_all)))⟩
 have fk1:((k:Int) == Int.ofNat 1) = false:=by simp; omega
 by_cases hk4:k = 4
 ·have fk4:((k:Int) == Int.ofNat 4) = true:=by simp; omega
  iterate 3
   (try rw [Z0])
   (try simp (maxSteps:=2000000) (disch:=first | omega | rfl | assumption) only [↓Yaa,Yab,Nae,Naa,rA,rB,rC,rD,reduceIte,unP,rE,g2,g3,g5,g8,g9,kX,kY,kZ,fk1,fk4])
  have hc0:c = s1.cnt:=hc1.symm
  have xc:X < s1.cnt ∧ Y < s1.cnt ∧ Z < s1.cnt ∧ c0 ≤ s1.cnt:=⟨by omega,by omega,by omega,by omega⟩
  refine NaD (fun x => ∃ (U:Nat),X < x.st.cnt ∧ Y < x.st.cnt ∧ Z < x.st.cnt ∧ x.env.get 2 = .fn 74 [.ptr N 0,.ptr B 0] ∧ x.env.get 3 = .fn 76 [.ptr O 0] ∧ x.env.get 5 = .ptr X 0 ∧ x.env.get 8 = .ptr Y 0 ∧ x.env.get 9 = .ptr Z 0 ∧ x.st.get X = some (.cells [.i .i64 e.T,.i .u8 (o:Int),.i .i64 e.J,.i .i64 e.A,.i .i64 e.B] false) ∧ x.st.get Y = some (.cells [.i .u8 (k:Int),.s d.S,.i .i64 d.N,.s d.O,.i .i64 d.R] false) ∧ x.st.get Z = some (.cells [.i .i64 e.J,.i .i64 (-((1:Nat):Int))] false) ∧ (Z < U) ∧ U < x.st.cnt ∧ x.env.get 10 = .fn 105 [] ∧ x.env.get 11 = .ptr U 0 ∧ x.st.get U = some (.cells [.i .i64 d.N,.i .i64 (-((1:Nat):Int))] false) ∧ (s1.cnt ≤ U) ∧ (∀ j,j < s1.cnt → x.st.get j = s1.get j)) ?_ ?_
  ·refine ⟨c + 80,?_,?_,?_,?_,?_,?_,?_,?_,?_,?_,?_,Zaa,?_,?_,?_,?_,?_,(fun j hj => by rw [← hs1]; simp (disch:=omega) only [Nar,Nas]; rfl)⟩ <;> first | with_reducible rfl | with_reducible assumption | exact kX _ | exact kY _ | exact kZ _ | exact kU _ | omega | (simp only [Z0L_,NaC]; omega) | (simp only; omega) | (simp [Yac,g2,g3,g5,g8,g9] <;> omega) | (simp (disch:=omega) only [Nar,Nas,Yae,kX,kY,kZ]; first | done | with_reducible rfl | with_reducible assumption) | assumption | rfl | (simp; omega) | (simp; done)
  clear bX bY bZ g2 g3 g5 g8 g9 kX kY kZ kof
  rintro ⟨env,⟨sto,c⟩⟩ ⟨U,bX,bY,bZ,g2,g3,g5,g8,g9,kX,kY,kZ,oU,bU,g10,g11,kU,lU,kog⟩
  try simp only at bX bY bZ g2 g3 g5 g8 g9 bU g10 g11
  replace kX:∀ n',St.get ⟨sto,n'⟩ X = some (.cells [.i .i64 e.T,.i .u8 (o:Int),.i .i64 e.J,.i .i64 e.A,.i .i64 e.B] false):=fun _ => kX
  replace kY:∀ n',St.get ⟨sto,n'⟩ Y = some (.cells [.i .u8 (k:Int),.s d.S,.i .i64 d.N,.s d.O,.i .i64 d.R] false):=fun _ => kY
  replace kZ:∀ n',St.get ⟨sto,n'⟩ Z = some (.cells [.i .i64 e.J,.i .i64 (-((1:Nat):Int))] false):=fun _ => kZ
  replace kU:∀ n',St.get ⟨sto,n'⟩ U = some (.cells [.i .i64 d.N,.i .i64 (-((1:Nat):Int))] false):=fun _ => kU
  obtain ⟨s2,hs2⟩:∃ s2,(⟨sto,c⟩:St) = s2:=⟨_,rfl⟩
  have hc2:s2.cnt = c:=by rw [← hs2]
  have kog2:∀ j,j < s1.cnt → s2.get j = s1.get j:=by rw [← hs2]; exact kog
  have le2:s1.cnt ≤ s2.cnt:=by omega
  have hb2:WBs s2 N O B W Cm C:=hb1.grow le2 kog2
  have hw2a:WS s2 s2 N O n []:=(hw1.reinit le2 kog2)
  have hr2:∀ {st' n' to'},WS s2 st' N O n' to' → WS s1 st' N O n' to':=fun h => h.rebase kog2 le2
  have q2X:=(kog2 X Zaa).trans qX
  have q2Y:=(kog2 Y Zaa).trans qY
  have q2Z:=(kog2 Z Zaa).trans qZ
  have q2U:s2.get U = some (.cells [.i .i64 d.N,.i .i64 (-((1:Nat):Int))] false):=by rw [← hs2]; exact kU c
  have aU:U ≠ N ∧ U ≠ O:=⟨by omega,by omega⟩
  have hwa2:∀ c',c ≤ c' → WS s2 ⟨sto,c'⟩ N O n []:=fun c' h => by rw [← hs2] at hw2a ⊢; exact hw2a.up h
  by_cases ho13:o = 13
  ·have fo13:((o:Int) == Int.ofNat 13) = true:=by simp; omega
   (try rw [Z0])
   (try simp (maxSteps:=2000000) (disch:=first | omega | rfl | assumption) only [↓Yaa,Yab,Nae,Naa,rA,rB,rC,rD,reduceIte,unP,rE,g2,g3,g5,g8,g9,kX,kY,kZ,g10,g11,kU,hc.r5,fo13])
   refine Nbg (Na1 hc (k:=(d.N,-1)) hb2 (hwa2 _ Zac) hn sn) ?_
   clear kX kY kZ kU
   rintro r0 ⟨sto,e0⟩ hv0
   have kX:∀ n',St.get ⟨sto,n'⟩ X = _:=fun _ => (hv0.fr X Zaa aX.1 aX.2).trans q2X
   have kY:∀ n',St.get ⟨sto,n'⟩ Y = _:=fun _ => (hv0.fr Y Zaa aY.1 aY.2).trans q2Y
   have kZ:∀ n',St.get ⟨sto,n'⟩ Z = _:=fun _ => (hv0.fr Z Zaa aZ.1 aZ.2).trans q2Z
   have kU:∀ n',St.get ⟨sto,n'⟩ U = _:=fun _ => (hv0.fr U Zaa aU.1 aU.2).trans q2U
   (try rw [Z0])
   (try simp (maxSteps:=2000000) (disch:=first | omega | rfl | assumption) only [↓Yaa,Yab,Nae,Naa,rA,rB,rC,rD,reduceIte,unP,rE,g2,g3,g5,g8,g9,kX,kY,kZ,g10,g11,kU,hc.r5,fo13])
   refine Nbg (Na1 hc (k:=(e.J,-3)) hb2 (hv0.up Zac) (Nlr hn) (Nls sn (hb2.sh _))) ?_
   clear kX kY kZ kU
   rintro r1 ⟨sto,e1⟩ hv1
   have kX:∀ n',St.get ⟨sto,n'⟩ X = _:=fun _ => (hv1.fr X Zaa aX.1 aX.2).trans q2X
   have kY:∀ n',St.get ⟨sto,n'⟩ Y = _:=fun _ => (hv1.fr Y Zaa aY.1 aY.2).trans q2Y
   have kZ:∀ n',St.get ⟨sto,n'⟩ Z = _:=fun _ => (hv1.fr Z Zaa aZ.1 aZ.2).trans q2Z
   have kU:∀ n',St.get ⟨sto,n'⟩ U = _:=fun _ => (hv1.fr U Zaa aU.1 aU.2).trans q2U
   (try rw [Z0])
   (try simp (maxSteps:=2000000) (disch:=first | omega | rfl | assumption) only [↓Yaa,Yab,Nae,Naa,rA,rB,rC,rD,reduceIte,unP,rE,g2,g3,g5,g8,g9,kX,kY,kZ,g10,g11,kU,hc.r5,fo13])
   refine Nbg (Na0 hc (k:=(d.N,-1)) hb2 (hv1.up Zac) Zae) ?_
   clear kX kY kZ kU
   rintro r2 ⟨sto,e2⟩ hv2
   have kX:∀ n',St.get ⟨sto,n'⟩ X = _:=fun _ => (hv2.fr X Zaa aX.1 aX.2).trans q2X
   have kY:∀ n',St.get ⟨sto,n'⟩ Y = _:=fun _ => (hv2.fr Y Zaa aY.1 aY.2).trans q2Y
   have kZ:∀ n',St.get ⟨sto,n'⟩ Z = _:=fun _ => (hv2.fr Z Zaa aZ.1 aZ.2).trans q2Z
   have kU:∀ n',St.get ⟨sto,n'⟩ U = _:=fun _ => (hv2.fr U Zaa aU.1 aU.2).trans q2U
   (try rw [Z0])
   (try simp (maxSteps:=2000000) (disch:=first | omega | rfl | assumption) only [↓Yaa,Yab,Nae,Naa,rA,rB,rC,rD,reduceIte,unP,rE,g2,g3,g5,g8,g9,kX,kY,kZ,g10,g11,kU,hc.r5,fo13])
   refine Nbg (Na0 hc (k:=(e.J,-3)) hb2 (hv2.up Zac) Zae) ?_
   clear kX kY kZ kU
   rintro r3 ⟨sto,e3⟩ hv3
   have kX:∀ n',St.get ⟨sto,n'⟩ X = _:=fun _ => (hv3.fr X Zaa aX.1 aX.2).trans q2X
   have kY:∀ n',St.get ⟨sto,n'⟩ Y = _:=fun _ => (hv3.fr Y Zaa aY.1 aY.2).trans q2Y
   have kZ:∀ n',St.get ⟨sto,n'⟩ Z = _:=fun _ => (hv3.fr Z Zaa aZ.1 aZ.2).trans q2Z
   have kU:∀ n',St.get ⟨sto,n'⟩ U = _:=fun _ => (hv3.fr U Zaa aU.1 aU.2).trans q2U
   (try rw [Z0])
   (try simp (maxSteps:=2000000) (disch:=first | omega | rfl | assumption) only [↓Yaa,Yab,Nae,Naa,rA,rB,rC,rD,reduceIte,unP,rE,g2,g3,g5,g8,g9,kX,kY,kZ,g10,g11,kU,fo13])
   subst hX
   exact ⟨nofun,_,rfl,(hre (hr2 (hv3.up Zac))).cast (by simp [Na4,NaR,hk4,ho13] <;> (repeat' (first | split | omega | rfl | simp_all))) (by simp [NaY,hk4,ho13] <;> (repeat' (first | split | omega | rfl | simp_all)))⟩

  ·have fo13:((o:Int) == Int.ofNat 13) = false:=by simp; omega
   (try rw [Z0])
   (try simp (maxSteps:=2000000) (disch:=first | omega | rfl | assumption) only [↓Yaa,Yab,Nae,Naa,rA,rB,rC,rD,reduceIte,unP,rE,g2,g3,g5,g8,g9,kX,kY,kZ,g10,g11,kU,hc.r5,fo13])
   refine Nbg (Na1 hc (k:=(d.N,-1)) hb2 (hwa2 _ Zac) hn sn) ?_
   clear kX kY kZ kU
   rintro r0 ⟨sto,e0⟩ hv0
   have kX:∀ n',St.get ⟨sto,n'⟩ X = _:=fun _ => (hv0.fr X Zaa aX.1 aX.2).trans q2X
   have kY:∀ n',St.get ⟨sto,n'⟩ Y = _:=fun _ => (hv0.fr Y Zaa aY.1 aY.2).trans q2Y
   have kZ:∀ n',St.get ⟨sto,n'⟩ Z = _:=fun _ => (hv0.fr Z Zaa aZ.1 aZ.2).trans q2Z
   have kU:∀ n',St.get ⟨sto,n'⟩ U = _:=fun _ => (hv0.fr U Zaa aU.1 aU.2).trans q2U
   (try rw [Z0])
   (try simp (maxSteps:=2000000) (disch:=first | omega | rfl | assumption) only [↓Yaa,Yab,Nae,Naa,rA,rB,rC,rD,reduceIte,unP,rE,g2,g3,g5,g8,g9,kX,kY,kZ,g10,g11,kU,hc.r5,fo13])
   refine Nbg (Na1 hc (k:=(e.J,-3)) hb2 (hv0.up Zac) (Nlr hn) (Nls sn (hb2.sh _))) ?_
   clear kX kY kZ kU
   rintro r1 ⟨sto,e1⟩ hv1
   have kX:∀ n',St.get ⟨sto,n'⟩ X = _:=fun _ => (hv1.fr X Zaa aX.1 aX.2).trans q2X
   have kY:∀ n',St.get ⟨sto,n'⟩ Y = _:=fun _ => (hv1.fr Y Zaa aY.1 aY.2).trans q2Y
   have kZ:∀ n',St.get ⟨sto,n'⟩ Z = _:=fun _ => (hv1.fr Z Zaa aZ.1 aZ.2).trans q2Z
   have kU:∀ n',St.get ⟨sto,n'⟩ U = _:=fun _ => (hv1.fr U Zaa aU.1 aU.2).trans q2U
   (try rw [Z0])
   (try simp (maxSteps:=2000000) (disch:=first | omega | rfl | assumption) only [↓Yaa,Yab,Nae,Naa,rA,rB,rC,rD,reduceIte,unP,rE,g2,g3,g5,g8,g9,kX,kY,kZ,g10,g11,kU,hc.r5,fo13])
   refine Nbg (Na0 hc (k:=(d.N,-1)) hb2 (hv1.up Zac) Zae) ?_
   clear kX kY kZ kU
   rintro r2 ⟨sto,e2⟩ hv2
   have kX:∀ n',St.get ⟨sto,n'⟩ X = _:=fun _ => (hv2.fr X Zaa aX.1 aX.2).trans q2X
   have kY:∀ n',St.get ⟨sto,n'⟩ Y = _:=fun _ => (hv2.fr Y Zaa aY.1 aY.2).trans q2Y
   have kZ:∀ n',St.get ⟨sto,n'⟩ Z = _:=fun _ => (hv2.fr Z Zaa aZ.1 aZ.2).trans q2Z
   have kU:∀ n',St.get ⟨sto,n'⟩ U = _:=fun _ => (hv2.fr U Zaa aU.1 aU.2).trans q2U
   (try rw [Z0])
   (try simp (maxSteps:=2000000) (disch:=first | omega | rfl | assumption) only [↓Yaa,Yab,Nae,Naa,rA,rB,rC,rD,reduceIte,unP,rE,g2,g3,g5,g8,g9,kX,kY,kZ,g10,g11,kU,hc.r5,fo13])
   refine Nbg (Na0 hc (k:=(e.J,-3)) hb2 (hv2.up Zac) Zae) ?_
   clear kX kY kZ kU
   rintro r3 ⟨sto,e3⟩ hv3
   have kX:∀ n',St.get ⟨sto,n'⟩ X = _:=fun _ => (hv3.fr X Zaa aX.1 aX.2).trans q2X
   have kY:∀ n',St.get ⟨sto,n'⟩ Y = _:=fun _ => (hv3.fr Y Zaa aY.1 aY.2).trans q2Y
   have kZ:∀ n',St.get ⟨sto,n'⟩ Z = _:=fun _ => (hv3.fr Z Zaa aZ.1 aZ.2).trans q2Z
   have kU:∀ n',St.get ⟨sto,n'⟩ U = _:=fun _ => (hv3.fr U Zaa aU.1 aU.2).trans q2U
   (try rw [Z0])
   (try simp (maxSteps:=2000000) (disch:=first | omega | rfl | assumption) only [↓Yaa,Yab,Nae,Naa,rA,rB,rC,rD,reduceIte,unP,rE,g2,g3,g5,g8,g9,kX,kY,kZ,g10,g11,kU,fo13])
   subst hX
   exact ⟨nofun,_,rfl,(hre (hr2 (hv3.up Zac))).cast (by simp [Na4,NaR,hk4,ho13] <;> (repeat' (first | split | omega | rfl | simp_all))) (by simp [NaY,hk4,ho13] <;> (repeat' (first | split | omega | rfl | simp_all)))⟩
 have fk4:((k:Int) == Int.ofNat 4) = false:=by simp; omega
 by_cases hk2:k = 2
 ·have fk2:((k:Int) == Int.ofNat 2) = true:=by simp; omega
  by_cases ho5:o = 5
  ·skip
   have fo5:((o:Int) == Int.ofNat 5) = true:=by simp; omega
   iterate 7
    (try rw [Z0])
    (try simp (maxSteps:=2000000) (disch:=first | omega | rfl | assumption) only [↓Yaa,Yab,Nae,Naa,rA,rB,rC,rD,reduceIte,unP,rE,g2,g3,g5,g8,g9,kX,kY,kZ,hc.r5,fk1,fk4,fk2,fo5])
   refine Nbg (Na1 hc (k:=(e.J,-1)) hb1 (hwa _ Zac) hn sn) ?_
   clear kX kY kZ
   rintro r0 ⟨sto,c2⟩ hw2
   have kX:∀ n',St.get ⟨sto,n'⟩ X = _:=fun _ => (hw2.fr X Zaa aX.1 aX.2).trans qX
   have kY:∀ n',St.get ⟨sto,n'⟩ Y = _:=fun _ => (hw2.fr Y Zaa aY.1 aY.2).trans qY
   have kZ:∀ n',St.get ⟨sto,n'⟩ Z = _:=fun _ => (hw2.fr Z Zaa aZ.1 aZ.2).trans qZ
   (try rw [Z0])
   (try simp (maxSteps:=2000000) (disch:=first | omega | rfl | assumption) only [↓Yaa,Yab,Nae,Naa,rA,rB,rC,rD,reduceIte,unP,rE,g2,g3,g5,g8,g9,kX,kY,kZ,hc.r5,fk1,fk4,fk2,fo5])
   refine Nbg (Na1 hc (k:=(e.J,-2)) hb1 (hw2.up Zac) (Nlr hn) (Nls sn (hb1.sh _))) ?_
   clear kX kY kZ
   rintro r1 ⟨sto,c3⟩ hw3
   have kX:∀ n',St.get ⟨sto,n'⟩ X = _:=fun _ => (hw3.fr X Zaa aX.1 aX.2).trans qX
   have kY:∀ n',St.get ⟨sto,n'⟩ Y = _:=fun _ => (hw3.fr Y Zaa aY.1 aY.2).trans qY
   have kZ:∀ n',St.get ⟨sto,n'⟩ Z = _:=fun _ => (hw3.fr Z Zaa aZ.1 aZ.2).trans qZ
   (try rw [Z0])
   (try simp (maxSteps:=2000000) (disch:=first | omega | rfl | assumption) only [↓Yaa,Yab,Nae,Naa,rA,rB,rC,rD,reduceIte,unP,rE,g2,g3,g5,g8,g9,kX,kY,kZ,hc.r5,fk1,fk4,fk2,fo5])
   refine Nbg (Na0 hc (k:=(e.J,-1)) hb1 (hw3.up Zac) Zae) ?_
   clear kX kY kZ
   rintro r2 ⟨sto,c4⟩ hw4
   have kX:∀ n',St.get ⟨sto,n'⟩ X = _:=fun _ => (hw4.fr X Zaa aX.1 aX.2).trans qX
   have kY:∀ n',St.get ⟨sto,n'⟩ Y = _:=fun _ => (hw4.fr Y Zaa aY.1 aY.2).trans qY
   have kZ:∀ n',St.get ⟨sto,n'⟩ Z = _:=fun _ => (hw4.fr Z Zaa aZ.1 aZ.2).trans qZ
   (try rw [Z0])
   (try simp (maxSteps:=2000000) (disch:=first | omega | rfl | assumption) only [↓Yaa,Yab,Nae,Naa,rA,rB,rC,rD,reduceIte,unP,rE,g2,g3,g5,g8,g9,kX,kY,kZ,hc.r5,fk1,fk4,fk2,fo5])
   refine Nbg (Na0 hc (k:=(e.J,-2)) hb1 (hw4.up Zac) Zae) ?_
   clear kX kY kZ
   rintro r3 ⟨sto,c5⟩ hw5
   have kX:∀ n',St.get ⟨sto,n'⟩ X = _:=fun _ => (hw5.fr X Zaa aX.1 aX.2).trans qX
   have kY:∀ n',St.get ⟨sto,n'⟩ Y = _:=fun _ => (hw5.fr Y Zaa aY.1 aY.2).trans qY
   have kZ:∀ n',St.get ⟨sto,n'⟩ Z = _:=fun _ => (hw5.fr Z Zaa aZ.1 aZ.2).trans qZ
   (try rw [Z0])
   (try simp (maxSteps:=2000000) (disch:=first | omega | rfl | assumption) only [↓Yaa,Yab,Nae,Naa,rA,rB,rC,rD,reduceIte,unP,rE,g2,g3,g5,g8,g9,kX,kY,kZ,fk1,fk4,fk2,fo5])
   subst hX
   exact ⟨nofun,_,rfl,(hre (hw5.up Zac)).cast (by simp [Na4,NaR,hk2,ho5] <;> (repeat' (first | split | omega | rfl | simp_all))) (by simp [NaY,hk2,ho5] <;> (repeat' (first | split | omega | rfl | simp_all)))⟩
  ·skip
   have fo5:((o:Int) == Int.ofNat 5) = false:=by simp; omega
   iterate 7
    (try rw [Z0])
    (try simp (maxSteps:=2000000) (disch:=first | omega | rfl | assumption) only [↓Yaa,Yab,Nae,Naa,rA,rB,rC,rD,reduceIte,unP,rE,g2,g3,g5,g8,g9,kX,kY,kZ,hc.r5,fk1,fk4,fk2,fo5])
   refine Nbg (Na1 hc (k:=(e.J,-1)) hb1 (hwa _ Zac) hn sn) ?_
   clear kX kY kZ
   rintro r0 ⟨sto,c2⟩ hw2
   have kX:∀ n',St.get ⟨sto,n'⟩ X = _:=fun _ => (hw2.fr X Zaa aX.1 aX.2).trans qX
   have kY:∀ n',St.get ⟨sto,n'⟩ Y = _:=fun _ => (hw2.fr Y Zaa aY.1 aY.2).trans qY
   have kZ:∀ n',St.get ⟨sto,n'⟩ Z = _:=fun _ => (hw2.fr Z Zaa aZ.1 aZ.2).trans qZ
   (try rw [Z0])
   (try simp (maxSteps:=2000000) (disch:=first | omega | rfl | assumption) only [↓Yaa,Yab,Nae,Naa,rA,rB,rC,rD,reduceIte,unP,rE,g2,g3,g5,g8,g9,kX,kY,kZ,hc.r5,fk1,fk4,fk2,fo5])
   refine Nbg (Na1 hc (k:=(e.J,-2)) hb1 (hw2.up Zac) (Nlr hn) (Nls sn (hb1.sh _))) ?_
   clear kX kY kZ
   rintro r1 ⟨sto,c3⟩ hw3
   have kX:∀ n',St.get ⟨sto,n'⟩ X = _:=fun _ => (hw3.fr X Zaa aX.1 aX.2).trans qX
   have kY:∀ n',St.get ⟨sto,n'⟩ Y = _:=fun _ => (hw3.fr Y Zaa aY.1 aY.2).trans qY
   have kZ:∀ n',St.get ⟨sto,n'⟩ Z = _:=fun _ => (hw3.fr Z Zaa aZ.1 aZ.2).trans qZ
   (try rw [Z0])
   (try simp (maxSteps:=2000000) (disch:=first | omega | rfl | assumption) only [↓Yaa,Yab,Nae,Naa,rA,rB,rC,rD,reduceIte,unP,rE,g2,g3,g5,g8,g9,kX,kY,kZ,hc.r5,fk1,fk4,fk2,fo5])
   refine Nbg (Na0 hc (k:=(e.J,-1)) hb1 (hw3.up Zac) Zae) ?_
   clear kX kY kZ
   rintro r2 ⟨sto,c4⟩ hw4
   have kX:∀ n',St.get ⟨sto,n'⟩ X = _:=fun _ => (hw4.fr X Zaa aX.1 aX.2).trans qX
   have kY:∀ n',St.get ⟨sto,n'⟩ Y = _:=fun _ => (hw4.fr Y Zaa aY.1 aY.2).trans qY
   have kZ:∀ n',St.get ⟨sto,n'⟩ Z = _:=fun _ => (hw4.fr Z Zaa aZ.1 aZ.2).trans qZ
   (try rw [Z0])
   (try simp (maxSteps:=2000000) (disch:=first | omega | rfl | assumption) only [↓Yaa,Yab,Nae,Naa,rA,rB,rC,rD,reduceIte,unP,rE,g2,g3,g5,g8,g9,kX,kY,kZ,hc.r5,fk1,fk4,fk2,fo5])
   refine Nbg (Na0 hc (k:=(e.J,-2)) hb1 (hw4.up Zac) Zae) ?_
   clear kX kY kZ
   rintro r3 ⟨sto,c5⟩ hw5
   have kX:∀ n',St.get ⟨sto,n'⟩ X = _:=fun _ => (hw5.fr X Zaa aX.1 aX.2).trans qX
   have kY:∀ n',St.get ⟨sto,n'⟩ Y = _:=fun _ => (hw5.fr Y Zaa aY.1 aY.2).trans qY
   have kZ:∀ n',St.get ⟨sto,n'⟩ Z = _:=fun _ => (hw5.fr Z Zaa aZ.1 aZ.2).trans qZ
   (try rw [Z0])
   (try simp (maxSteps:=2000000) (disch:=first | omega | rfl | assumption) only [↓Yaa,Yab,Nae,Naa,rA,rB,rC,rD,reduceIte,unP,rE,g2,g3,g5,g8,g9,kX,kY,kZ,fk1,fk4,fk2,fo5])
   subst hX
   exact ⟨nofun,_,rfl,(hre (hw5.up Zac)).cast (by simp [Na4,NaR,hk2,ho5] <;> (repeat' (first | split | omega | rfl | simp_all))) (by simp [NaY,hk2,ho5] <;> (repeat' (first | split | omega | rfl | simp_all)))⟩
 have fk2:((k:Int) == Int.ofNat 2) = false:=by simp; omega
 by_cases hk5:k = 5
 ·have fk5:((k:Int) == Int.ofNat 5) = true:=by simp; omega
  iterate 9
   (try rw [Z0])
   (try simp (maxSteps:=2000000) (disch:=first | omega | rfl | assumption) only [↓Yaa,Yab,Nae,Naa,rA,rB,rC,rD,reduceIte,unP,rE,g2,g3,g5,g8,g9,kX,kY,kZ,hc.r5,fk1,fk4,fk2,fk5])
  refine Nbg (Na1 hc (k:=(e.J,e.A)) hb1 (hwa _ Zac) hn sn) ?_
  clear kX kY kZ
  rintro r0 ⟨sto,c2⟩ hw2
  have kX:∀ n',St.get ⟨sto,n'⟩ X = _:=fun _ => (hw2.fr X Zaa aX.1 aX.2).trans qX
  have kY:∀ n',St.get ⟨sto,n'⟩ Y = _:=fun _ => (hw2.fr Y Zaa aY.1 aY.2).trans qY
  have kZ:∀ n',St.get ⟨sto,n'⟩ Z = _:=fun _ => (hw2.fr Z Zaa aZ.1 aZ.2).trans qZ
  (try rw [Z0])
  (try simp (maxSteps:=2000000) (disch:=first | omega | rfl | assumption) only [↓Yaa,Yab,Nae,Naa,rA,rB,rC,rD,reduceIte,unP,rE,g2,g3,g5,g8,g9,kX,kY,kZ,hc.r5,fk1,fk4,fk2,fk5])
  refine Nbg (Na0 hc (k:=(e.J,e.A)) hb1 (hw2.up Zac) Zae) ?_
  clear kX kY kZ
  rintro r1 ⟨sto,c3⟩ hw3
  have kX:∀ n',St.get ⟨sto,n'⟩ X = _:=fun _ => (hw3.fr X Zaa aX.1 aX.2).trans qX
  have kY:∀ n',St.get ⟨sto,n'⟩ Y = _:=fun _ => (hw3.fr Y Zaa aY.1 aY.2).trans qY
  have kZ:∀ n',St.get ⟨sto,n'⟩ Z = _:=fun _ => (hw3.fr Z Zaa aZ.1 aZ.2).trans qZ
  (try rw [Z0])
  (try simp (maxSteps:=2000000) (disch:=first | omega | rfl | assumption) only [↓Yaa,Yab,Nae,Naa,rA,rB,rC,rD,reduceIte,unP,rE,g2,g3,g5,g8,g9,kX,kY,kZ,fk1,fk4,fk2,fk5])
  subst hX
  exact ⟨nofun,_,rfl,(hre (hw3.up Zac)).cast (by simp [Na4,NaR,hk5] <;> (repeat' (first | split | omega | rfl | simp_all))) (by simp [NaY,hk5] <;> (repeat' (first | split | omega | rfl | simp_all)))⟩
 have fk5:((k:Int) == Int.ofNat 5) = false:=by simp; omega
 by_cases hk3:k = 3
 ·have fk3:((k:Int) == Int.ofNat 3) = true:=by simp; omega
  by_cases ho9:o = 9
  ·skip
   have fo9:((o:Int) == Int.ofNat 9) = true:=by simp; omega
   iterate 11
    (try rw [Z0])
    (try simp (maxSteps:=2000000) (disch:=first | omega | rfl | assumption) only [↓Yaa,Yab,Nae,Naa,rA,rB,rC,rD,reduceIte,unP,rE,g2,g3,g5,g8,g9,kX,kY,kZ,hc.r5,fk1,fk4,fk2,fk5,fk3,fo9])
   refine Nbg (Na1 hc (k:=(e.J,-1)) hb1 (hwa _ Zac) hn sn) ?_
   clear kX kY kZ
   rintro r0 ⟨sto,c2⟩ hw2
   have kX:∀ n',St.get ⟨sto,n'⟩ X = _:=fun _ => (hw2.fr X Zaa aX.1 aX.2).trans qX
   have kY:∀ n',St.get ⟨sto,n'⟩ Y = _:=fun _ => (hw2.fr Y Zaa aY.1 aY.2).trans qY
   have kZ:∀ n',St.get ⟨sto,n'⟩ Z = _:=fun _ => (hw2.fr Z Zaa aZ.1 aZ.2).trans qZ
   (try rw [Z0])
   (try simp (maxSteps:=2000000) (disch:=first | omega | rfl | assumption) only [↓Yaa,Yab,Nae,Naa,rA,rB,rC,rD,reduceIte,unP,rE,g2,g3,g5,g8,g9,kX,kY,kZ,hc.r5,fk1,fk4,fk2,fk5,fk3,fo9])
   refine Nbg (Na0 hc (k:=(e.J,-1)) hb1 (hw2.up Zac) Zae) ?_
   clear kX kY kZ
   rintro r1 ⟨sto,c3⟩ hw3
   have kX:∀ n',St.get ⟨sto,n'⟩ X = _:=fun _ => (hw3.fr X Zaa aX.1 aX.2).trans qX
   have kY:∀ n',St.get ⟨sto,n'⟩ Y = _:=fun _ => (hw3.fr Y Zaa aY.1 aY.2).trans qY
   have kZ:∀ n',St.get ⟨sto,n'⟩ Z = _:=fun _ => (hw3.fr Z Zaa aZ.1 aZ.2).trans qZ
   (try rw [Z0])
   (try simp (maxSteps:=2000000) (disch:=first | omega | rfl | assumption) only [↓Yaa,Yab,Nae,Naa,rA,rB,rC,rD,reduceIte,unP,rE,g2,g3,g5,g8,g9,kX,kY,kZ,fk1,fk4,fk2,fk5,fk3,fo9])
   subst hX
   exact ⟨nofun,_,rfl,(hre (hw3.up Zac)).cast (by simp [Na4,NaR,hk3,ho9] <;> (repeat' (first | split | omega | rfl | simp_all))) (by simp [NaY,hk3,ho9] <;> (repeat' (first | split | omega | rfl | simp_all)))⟩
  ·skip
   by_cases ho11:o = 11
   ·skip
    by_cases hA1:e.A = 1
    ·skip
     have fo9:((o:Int) == Int.ofNat 9) = false:=by simp; omega
     have fo11:((o:Int) == Int.ofNat 11) = true:=by simp; omega
     have fA1:(e.A == Int.ofNat 1) = true:=by simp; omega
     iterate 11
      (try rw [Z0])
      (try simp (maxSteps:=2000000) (disch:=first | omega | rfl | assumption) only [↓Yaa,Yab,Nae,Naa,rA,rB,rC,rD,reduceIte,unP,rE,g2,g3,g5,g8,g9,kX,kY,kZ,hc.r5,fk1,fk4,fk2,fk5,fk3,fo9,fo11,fA1])
     refine Nbg (Na1 hc (k:=(e.J,-1)) hb1 (hwa _ Zac) hn sn) ?_
     clear kX kY kZ
     rintro r0 ⟨sto,c2⟩ hw2
     have kX:∀ n',St.get ⟨sto,n'⟩ X = _:=fun _ => (hw2.fr X Zaa aX.1 aX.2).trans qX
     have kY:∀ n',St.get ⟨sto,n'⟩ Y = _:=fun _ => (hw2.fr Y Zaa aY.1 aY.2).trans qY
     have kZ:∀ n',St.get ⟨sto,n'⟩ Z = _:=fun _ => (hw2.fr Z Zaa aZ.1 aZ.2).trans qZ
     (try rw [Z0])
     (try simp (maxSteps:=2000000) (disch:=first | omega | rfl | assumption) only [↓Yaa,Yab,Nae,Naa,rA,rB,rC,rD,reduceIte,unP,rE,g2,g3,g5,g8,g9,kX,kY,kZ,hc.r5,fk1,fk4,fk2,fk5,fk3,fo9,fo11,fA1])
     refine Nbg (Na0 hc (k:=(e.J,-1)) hb1 (hw2.up Zac) Zae) ?_
     clear kX kY kZ
     rintro r1 ⟨sto,c3⟩ hw3
     have kX:∀ n',St.get ⟨sto,n'⟩ X = _:=fun _ => (hw3.fr X Zaa aX.1 aX.2).trans qX
     have kY:∀ n',St.get ⟨sto,n'⟩ Y = _:=fun _ => (hw3.fr Y Zaa aY.1 aY.2).trans qY
     have kZ:∀ n',St.get ⟨sto,n'⟩ Z = _:=fun _ => (hw3.fr Z Zaa aZ.1 aZ.2).trans qZ
     (try rw [Z0])
     (try simp (maxSteps:=2000000) (disch:=first | omega | rfl | assumption) only [↓Yaa,Yab,Nae,Naa,rA,rB,rC,rD,reduceIte,unP,rE,g2,g3,g5,g8,g9,kX,kY,kZ,fk1,fk4,fk2,fk5,fk3,fo9,fo11,fA1])
     subst hX
     exact ⟨nofun,_,rfl,(hre (hw3.up Zac)).cast (by simp [Na4,NaR,hk3,ho9,ho11,hA1] <;> (repeat' (first | split | omega | rfl | simp_all))) (by simp [NaY,hk3,ho9,ho11,hA1] <;> (repeat' (first | split | omega | rfl | simp_all)))⟩
    ·skip
     have fo9:((o:Int) == Int.ofNat 9) = false:=by simp; omega
     have fo11:((o:Int) == Int.ofNat 11) = true:=by simp; omega
     have fA1:(e.A == Int.ofNat 1) = false:=by simp; omega
     iterate 11
      (try rw [Z0])
      (try simp (maxSteps:=2000000) (disch:=first | omega | rfl | assumption) only [↓Yaa,Yab,Nae,Naa,rA,rB,rC,rD,reduceIte,unP,rE,g2,g3,g5,g8,g9,kX,kY,kZ,hc.r5,fk1,fk4,fk2,fk5,fk3,fo9,fo11,fA1])
     refine Nbg (Na1 hc (k:=(e.J,-1)) hb1 (hwa _ Zac) hn sn) ?_
     clear kX kY kZ
     rintro r0 ⟨sto,c2⟩ hw2
     have kX:∀ n',St.get ⟨sto,n'⟩ X = _:=fun _ => (hw2.fr X Zaa aX.1 aX.2).trans qX
     have kY:∀ n',St.get ⟨sto,n'⟩ Y = _:=fun _ => (hw2.fr Y Zaa aY.1 aY.2).trans qY
     have kZ:∀ n',St.get ⟨sto,n'⟩ Z = _:=fun _ => (hw2.fr Z Zaa aZ.1 aZ.2).trans qZ
     (try rw [Z0])
     (try simp (maxSteps:=2000000) (disch:=first | omega | rfl | assumption) only [↓Yaa,Yab,Nae,Naa,rA,rB,rC,rD,reduceIte,unP,rE,g2,g3,g5,g8,g9,kX,kY,kZ,hc.r5,fk1,fk4,fk2,fk5,fk3,fo9,fo11,fA1])
     refine Nbg (Na0 hc (k:=(e.J,-1)) hb1 (hw2.up Zac) Zae) ?_
     clear kX kY kZ
     rintro r1 ⟨sto,c3⟩ hw3
     have kX:∀ n',St.get ⟨sto,n'⟩ X = _:=fun _ => (hw3.fr X Zaa aX.1 aX.2).trans qX
     have kY:∀ n',St.get ⟨sto,n'⟩ Y = _:=fun _ => (hw3.fr Y Zaa aY.1 aY.2).trans qY
     have kZ:∀ n',St.get ⟨sto,n'⟩ Z = _:=fun _ => (hw3.fr Z Zaa aZ.1 aZ.2).trans qZ
     (try rw [Z0])
     (try simp (maxSteps:=2000000) (disch:=first | omega | rfl | assumption) only [↓Yaa,Yab,Nae,Naa,rA,rB,rC,rD,reduceIte,unP,rE,g2,g3,g5,g8,g9,kX,kY,kZ,fk1,fk4,fk2,fk5,fk3,fo9,fo11,fA1])
     subst hX
     exact ⟨nofun,_,rfl,(hre (hw3.up Zac)).cast (by simp [Na4,NaR,hk3,ho9,ho11,hA1] <;> (repeat' (first | split | omega | rfl | simp_all))) (by simp [NaY,hk3,ho9,ho11,hA1] <;> (repeat' (first | split | omega | rfl | simp_all)))⟩
   ·skip
    have fo9:((o:Int) == Int.ofNat 9) = false:=by simp; omega
    have fo11:((o:Int) == Int.ofNat 11) = false:=by simp; omega
    iterate 11
     (try rw [Z0])
     (try simp (maxSteps:=2000000) (disch:=first | omega | rfl | assumption) only [↓Yaa,Yab,Nae,Naa,rA,rB,rC,rD,reduceIte,unP,rE,g2,g3,g5,g8,g9,kX,kY,kZ,hc.r5,fk1,fk4,fk2,fk5,fk3,fo9,fo11])
    refine Nbg (Na1 hc (k:=(e.J,-1)) hb1 (hwa _ Zac) hn sn) ?_
    clear kX kY kZ
    rintro r0 ⟨sto,c2⟩ hw2
    have kX:∀ n',St.get ⟨sto,n'⟩ X = _:=fun _ => (hw2.fr X Zaa aX.1 aX.2).trans qX
    have kY:∀ n',St.get ⟨sto,n'⟩ Y = _:=fun _ => (hw2.fr Y Zaa aY.1 aY.2).trans qY
    have kZ:∀ n',St.get ⟨sto,n'⟩ Z = _:=fun _ => (hw2.fr Z Zaa aZ.1 aZ.2).trans qZ
    (try rw [Z0])
    (try simp (maxSteps:=2000000) (disch:=first | omega | rfl | assumption) only [↓Yaa,Yab,Nae,Naa,rA,rB,rC,rD,reduceIte,unP,rE,g2,g3,g5,g8,g9,kX,kY,kZ,hc.r5,fk1,fk4,fk2,fk5,fk3,fo9,fo11])
    refine Nbg (Na0 hc (k:=(e.J,-1)) hb1 (hw2.up Zac) Zae) ?_
    clear kX kY kZ
    rintro r1 ⟨sto,c3⟩ hw3
    have kX:∀ n',St.get ⟨sto,n'⟩ X = _:=fun _ => (hw3.fr X Zaa aX.1 aX.2).trans qX
    have kY:∀ n',St.get ⟨sto,n'⟩ Y = _:=fun _ => (hw3.fr Y Zaa aY.1 aY.2).trans qY
    have kZ:∀ n',St.get ⟨sto,n'⟩ Z = _:=fun _ => (hw3.fr Z Zaa aZ.1 aZ.2).trans qZ
    (try rw [Z0])
    (try simp (maxSteps:=2000000) (disch:=first | omega | rfl | assumption) only [↓Yaa,Yab,Nae,Naa,rA,rB,rC,rD,reduceIte,unP,rE,g2,g3,g5,g8,g9,kX,kY,kZ,fk1,fk4,fk2,fk5,fk3,fo9,fo11])
    subst hX
    exact ⟨nofun,_,rfl,(hre (hw3.up Zac)).cast (by simp [Na4,NaR,hk3,ho9,ho11] <;> (repeat' (first | split | omega | rfl | simp_all))) (by simp [NaY,hk3,ho9,ho11] <;> (repeat' (first | split | omega | rfl | simp_all)))⟩
 have fk3:((k:Int) == Int.ofNat 3) = false:=by simp; omega
 by_cases hk6:k = 6
 ·have fk6:((k:Int) == Int.ofNat 6) = true:=by simp; omega
  by_cases ho16:o = 16
  ·skip
   by_cases hA0:e.A = 0
   ·skip
    have fo16:((o:Int) == Int.ofNat 16) = true:=by simp; omega
    have fA0:(e.A == Int.ofNat 0) = true:=by simp; omega
    iterate 13
     (try rw [Z0])
     (try simp (maxSteps:=2000000) (disch:=first | omega | rfl | assumption) only [↓Yaa,Yab,Nae,Naa,rA,rB,rC,rD,reduceIte,unP,rE,g2,g3,g5,g8,g9,kX,kY,kZ,hc.r5,fk1,fk4,fk2,fk5,fk3,fk6,fo16,fA0])
    refine Nbg (Na1 hc (k:=(e.J,-1)) hb1 (hwa _ Zac) hn sn) ?_
    clear kX kY kZ
    rintro r0 ⟨sto,c2⟩ hw2
    have kX:∀ n',St.get ⟨sto,n'⟩ X = _:=fun _ => (hw2.fr X Zaa aX.1 aX.2).trans qX
    have kY:∀ n',St.get ⟨sto,n'⟩ Y = _:=fun _ => (hw2.fr Y Zaa aY.1 aY.2).trans qY
    have kZ:∀ n',St.get ⟨sto,n'⟩ Z = _:=fun _ => (hw2.fr Z Zaa aZ.1 aZ.2).trans qZ
    (try rw [Z0])
    (try simp (maxSteps:=2000000) (disch:=first | omega | rfl | assumption) only [↓Yaa,Yab,Nae,Naa,rA,rB,rC,rD,reduceIte,unP,rE,g2,g3,g5,g8,g9,kX,kY,kZ,hc.r5,fk1,fk4,fk2,fk5,fk3,fk6,fo16,fA0])
    refine Nbg (Na0 hc (k:=(e.J,-1)) hb1 (hw2.up Zac) Zae) ?_
    clear kX kY kZ
    rintro r1 ⟨sto,c3⟩ hw3
    have kX:∀ n',St.get ⟨sto,n'⟩ X = _:=fun _ => (hw3.fr X Zaa aX.1 aX.2).trans qX
    have kY:∀ n',St.get ⟨sto,n'⟩ Y = _:=fun _ => (hw3.fr Y Zaa aY.1 aY.2).trans qY
    have kZ:∀ n',St.get ⟨sto,n'⟩ Z = _:=fun _ => (hw3.fr Z Zaa aZ.1 aZ.2).trans qZ
    (try rw [Z0])
    (try simp (maxSteps:=2000000) (disch:=first | omega | rfl | assumption) only [↓Yaa,Yab,Nae,Naa,rA,rB,rC,rD,reduceIte,unP,rE,g2,g3,g5,g8,g9,kX,kY,kZ,fk1,fk4,fk2,fk5,fk3,fk6,fo16,fA0])
    subst hX
    exact ⟨nofun,_,rfl,(hre (hw3.up Zac)).cast (by simp [Na4,NaR,hk6,ho16,hA0] <;> (repeat' (first | split | omega | rfl | simp_all))) (by simp [NaY,hk6,ho16,hA0] <;> (repeat' (first | split | omega | rfl | simp_all)))⟩
   ·skip
    have fo16:((o:Int) == Int.ofNat 16) = true:=by simp; omega
    have fA0:(e.A == Int.ofNat 0) = false:=by simp; omega
    iterate 13
     (try rw [Z0])
     (try simp (maxSteps:=2000000) (disch:=first | omega | rfl | assumption) only [↓Yaa,Yab,Nae,Naa,rA,rB,rC,rD,reduceIte,unP,rE,g2,g3,g5,g8,g9,kX,kY,kZ,hc.r5,fk1,fk4,fk2,fk5,fk3,fk6,fo16,fA0])
    refine Nbg (Na1 hc (k:=(e.J,-1)) hb1 (hwa _ Zac) hn sn) ?_
    clear kX kY kZ
    rintro r0 ⟨sto,c2⟩ hw2
    have kX:∀ n',St.get ⟨sto,n'⟩ X = _:=fun _ => (hw2.fr X Zaa aX.1 aX.2).trans qX
    have kY:∀ n',St.get ⟨sto,n'⟩ Y = _:=fun _ => (hw2.fr Y Zaa aY.1 aY.2).trans qY
    have kZ:∀ n',St.get ⟨sto,n'⟩ Z = _:=fun _ => (hw2.fr Z Zaa aZ.1 aZ.2).trans qZ
    (try rw [Z0])
    (try simp (maxSteps:=2000000) (disch:=first | omega | rfl | assumption) only [↓Yaa,Yab,Nae,Naa,rA,rB,rC,rD,reduceIte,unP,rE,g2,g3,g5,g8,g9,kX,kY,kZ,hc.r5,fk1,fk4,fk2,fk5,fk3,fk6,fo16,fA0])
    refine Nbg (Na0 hc (k:=(e.J,-1)) hb1 (hw2.up Zac) Zae) ?_
    clear kX kY kZ
    rintro r1 ⟨sto,c3⟩ hw3
    have kX:∀ n',St.get ⟨sto,n'⟩ X = _:=fun _ => (hw3.fr X Zaa aX.1 aX.2).trans qX
    have kY:∀ n',St.get ⟨sto,n'⟩ Y = _:=fun _ => (hw3.fr Y Zaa aY.1 aY.2).trans qY
    have kZ:∀ n',St.get ⟨sto,n'⟩ Z = _:=fun _ => (hw3.fr Z Zaa aZ.1 aZ.2).trans qZ
    (try rw [Z0])
    (try simp (maxSteps:=2000000) (disch:=first | omega | rfl | assumption) only [↓Yaa,Yab,Nae,Naa,rA,rB,rC,rD,reduceIte,unP,rE,g2,g3,g5,g8,g9,kX,kY,kZ,fk1,fk4,fk2,fk5,fk3,fk6,fo16,fA0])
    subst hX
    exact ⟨nofun,_,rfl,(hre (hw3.up Zac)).cast (by simp [Na4,NaR,hk6,ho16,hA0] <;> (repeat' (first | split | omega | rfl | simp_all))) (by simp [NaY,hk6,ho16,hA0] <;> (repeat' (first | split | omega | rfl | simp_all)))⟩
  ·skip
   have fo16:((o:Int) == Int.ofNat 16) = false:=by simp; omega
   iterate 13
    (try rw [Z0])
    (try simp (maxSteps:=2000000) (disch:=first | omega | rfl | assumption) only [↓Yaa,Yab,Nae,Naa,rA,rB,rC,rD,reduceIte,unP,rE,g2,g3,g5,g8,g9,kX,kY,kZ,hc.r5,fk1,fk4,fk2,fk5,fk3,fk6,fo16])
   refine Nbg (Na1 hc (k:=(e.J,-1)) hb1 (hwa _ Zac) hn sn) ?_
   clear kX kY kZ
   rintro r0 ⟨sto,c2⟩ hw2
   have kX:∀ n',St.get ⟨sto,n'⟩ X = _:=fun _ => (hw2.fr X Zaa aX.1 aX.2).trans qX
   have kY:∀ n',St.get ⟨sto,n'⟩ Y = _:=fun _ => (hw2.fr Y Zaa aY.1 aY.2).trans qY
   have kZ:∀ n',St.get ⟨sto,n'⟩ Z = _:=fun _ => (hw2.fr Z Zaa aZ.1 aZ.2).trans qZ
   (try rw [Z0])
   (try simp (maxSteps:=2000000) (disch:=first | omega | rfl | assumption) only [↓Yaa,Yab,Nae,Naa,rA,rB,rC,rD,reduceIte,unP,rE,g2,g3,g5,g8,g9,kX,kY,kZ,hc.r5,fk1,fk4,fk2,fk5,fk3,fk6,fo16])
   refine Nbg (Na0 hc (k:=(e.J,-1)) hb1 (hw2.up Zac) Zae) ?_
   clear kX kY kZ
   rintro r1 ⟨sto,c3⟩ hw3
   have kX:∀ n',St.get ⟨sto,n'⟩ X = _:=fun _ => (hw3.fr X Zaa aX.1 aX.2).trans qX
   have kY:∀ n',St.get ⟨sto,n'⟩ Y = _:=fun _ => (hw3.fr Y Zaa aY.1 aY.2).trans qY
   have kZ:∀ n',St.get ⟨sto,n'⟩ Z = _:=fun _ => (hw3.fr Z Zaa aZ.1 aZ.2).trans qZ
   (try rw [Z0])
   (try simp (maxSteps:=2000000) (disch:=first | omega | rfl | assumption) only [↓Yaa,Yab,Nae,Naa,rA,rB,rC,rD,reduceIte,unP,rE,g2,g3,g5,g8,g9,kX,kY,kZ,fk1,fk4,fk2,fk5,fk3,fk6,fo16])
   subst hX
   exact ⟨nofun,_,rfl,(hre (hw3.up Zac)).cast (by simp [Na4,NaR,hk6,ho16] <;> (repeat' (first | split | omega | rfl | simp_all))) (by simp [NaY,hk6,ho16] <;> (repeat' (first | split | omega | rfl | simp_all)))⟩
 have fk6:((k:Int) == Int.ofNat 6) = false:=by simp; omega
 by_cases hk7:k = 7
 ·have fk7:((k:Int) == Int.ofNat 7) = true:=by simp; omega
  by_cases ho17:o = 17
  ·skip
   have fo17:((o:Int) == Int.ofNat 17) = true:=by simp; omega
   iterate 15
    (try rw [Z0])
    (try simp (maxSteps:=2000000) (disch:=first | omega | rfl | assumption) only [↓Yaa,Yab,Nae,Naa,rA,rB,rC,rD,reduceIte,unP,rE,g2,g3,g5,g8,g9,kX,kY,kZ,hc.r5,fk1,fk4,fk2,fk5,fk3,fk6,fk7,fo17])
   refine Nbg (Na1 hc (k:=(e.J,-1)) hb1 (hwa _ Zac) hn sn) ?_
   clear kX kY kZ
   rintro r0 ⟨sto,c2⟩ hw2
   have kX:∀ n',St.get ⟨sto,n'⟩ X = _:=fun _ => (hw2.fr X Zaa aX.1 aX.2).trans qX
   have kY:∀ n',St.get ⟨sto,n'⟩ Y = _:=fun _ => (hw2.fr Y Zaa aY.1 aY.2).trans qY
   have kZ:∀ n',St.get ⟨sto,n'⟩ Z = _:=fun _ => (hw2.fr Z Zaa aZ.1 aZ.2).trans qZ
   (try rw [Z0])
   (try simp (maxSteps:=2000000) (disch:=first | omega | rfl | assumption) only [↓Yaa,Yab,Nae,Naa,rA,rB,rC,rD,reduceIte,unP,rE,g2,g3,g5,g8,g9,kX,kY,kZ,hc.r5,fk1,fk4,fk2,fk5,fk3,fk6,fk7,fo17])
   refine Nbg (Na0 hc (k:=(e.J,-1)) hb1 (hw2.up Zac) Zae) ?_
   clear kX kY kZ
   rintro r1 ⟨sto,c3⟩ hw3
   have kX:∀ n',St.get ⟨sto,n'⟩ X = _:=fun _ => (hw3.fr X Zaa aX.1 aX.2).trans qX
   have kY:∀ n',St.get ⟨sto,n'⟩ Y = _:=fun _ => (hw3.fr Y Zaa aY.1 aY.2).trans qY
   have kZ:∀ n',St.get ⟨sto,n'⟩ Z = _:=fun _ => (hw3.fr Z Zaa aZ.1 aZ.2).trans qZ
   (try rw [Z0])
   (try simp (maxSteps:=2000000) (disch:=first | omega | rfl | assumption) only [↓Yaa,Yab,Nae,Naa,rA,rB,rC,rD,reduceIte,unP,rE,g2,g3,g5,g8,g9,kX,kY,kZ,fk1,fk4,fk2,fk5,fk3,fk6,fk7,fo17])
   subst hX
   exact ⟨nofun,_,rfl,(hre (hw3.up Zac)).cast (by simp [Na4,NaR,hk7,ho17] <;> (repeat' (first | split | omega | rfl | simp_all))) (by simp [NaY,hk7,ho17] <;> (repeat' (first | split | omega | rfl | simp_all)))⟩
  ·skip
   have fo17:((o:Int) == Int.ofNat 17) = false:=by simp; omega
   iterate 15
    (try rw [Z0])
    (try simp (maxSteps:=2000000) (disch:=first | omega | rfl | assumption) only [↓Yaa,Yab,Nae,Naa,rA,rB,rC,rD,reduceIte,unP,rE,g2,g3,g5,g8,g9,kX,kY,kZ,hc.r5,fk1,fk4,fk2,fk5,fk3,fk6,fk7,fo17])
   refine Nbg (Na1 hc (k:=(e.J,-1)) hb1 (hwa _ Zac) hn sn) ?_
   clear kX kY kZ
   rintro r0 ⟨sto,c2⟩ hw2
   have kX:∀ n',St.get ⟨sto,n'⟩ X = _:=fun _ => (hw2.fr X Zaa aX.1 aX.2).trans qX
   have kY:∀ n',St.get ⟨sto,n'⟩ Y = _:=fun _ => (hw2.fr Y Zaa aY.1 aY.2).trans qY
   have kZ:∀ n',St.get ⟨sto,n'⟩ Z = _:=fun _ => (hw2.fr Z Zaa aZ.1 aZ.2).trans qZ
   (try rw [Z0])
   (try simp (maxSteps:=2000000) (disch:=first | omega | rfl | assumption) only [↓Yaa,Yab,Nae,Naa,rA,rB,rC,rD,reduceIte,unP,rE,g2,g3,g5,g8,g9,kX,kY,kZ,hc.r5,fk1,fk4,fk2,fk5,fk3,fk6,fk7,fo17])
   refine Nbg (Na0 hc (k:=(e.J,-1)) hb1 (hw2.up Zac) Zae) ?_
   clear kX kY kZ
   rintro r1 ⟨sto,c3⟩ hw3
   have kX:∀ n',St.get ⟨sto,n'⟩ X = _:=fun _ => (hw3.fr X Zaa aX.1 aX.2).trans qX
   have kY:∀ n',St.get ⟨sto,n'⟩ Y = _:=fun _ => (hw3.fr Y Zaa aY.1 aY.2).trans qY
   have kZ:∀ n',St.get ⟨sto,n'⟩ Z = _:=fun _ => (hw3.fr Z Zaa aZ.1 aZ.2).trans qZ
   (try rw [Z0])
   (try simp (maxSteps:=2000000) (disch:=first | omega | rfl | assumption) only [↓Yaa,Yab,Nae,Naa,rA,rB,rC,rD,reduceIte,unP,rE,g2,g3,g5,g8,g9,kX,kY,kZ,fk1,fk4,fk2,fk5,fk3,fk6,fk7,fo17])
   subst hX
   exact ⟨nofun,_,rfl,(hre (hw3.up Zac)).cast (by simp [Na4,NaR,hk7,ho17] <;> (repeat' (first | split | omega | rfl | simp_all))) (by simp [NaY,hk7,ho17] <;> (repeat' (first | split | omega | rfl | simp_all)))⟩
 have fk7:((k:Int) == Int.ofNat 7) = false:=by simp; omega
 by_cases hk8:k = 8
 ·have fk8:((k:Int) == Int.ofNat 8) = true:=by simp; omega
  iterate 17
   (try rw [Z0])
   (try simp (maxSteps:=2000000) (disch:=first | omega | rfl | assumption) only [↓Yaa,Yab,Nae,Naa,rA,rB,rC,rD,reduceIte,unP,rE,g2,g3,g5,g8,g9,kX,kY,kZ,hc.r5,fk1,fk4,fk2,fk5,fk3,fk6,fk7,fk8])
  refine Nbg (Na1 hc (k:=(e.J,-1)) hb1 (hwa _ Zac) hn sn) ?_
  clear kX kY kZ
  rintro r0 ⟨sto,c2⟩ hw2
  have kX:∀ n',St.get ⟨sto,n'⟩ X = _:=fun _ => (hw2.fr X Zaa aX.1 aX.2).trans qX
  have kY:∀ n',St.get ⟨sto,n'⟩ Y = _:=fun _ => (hw2.fr Y Zaa aY.1 aY.2).trans qY
  have kZ:∀ n',St.get ⟨sto,n'⟩ Z = _:=fun _ => (hw2.fr Z Zaa aZ.1 aZ.2).trans qZ
  (try rw [Z0])
  (try simp (maxSteps:=2000000) (disch:=first | omega | rfl | assumption) only [↓Yaa,Yab,Nae,Naa,rA,rB,rC,rD,reduceIte,unP,rE,g2,g3,g5,g8,g9,kX,kY,kZ,hc.r5,fk1,fk4,fk2,fk5,fk3,fk6,fk7,fk8])
  refine Nbg (Na0 hc (k:=(e.J,-1)) hb1 (hw2.up Zac) Zae) ?_
  clear kX kY kZ
  rintro r1 ⟨sto,c3⟩ hw3
  have kX:∀ n',St.get ⟨sto,n'⟩ X = _:=fun _ => (hw3.fr X Zaa aX.1 aX.2).trans qX
  have kY:∀ n',St.get ⟨sto,n'⟩ Y = _:=fun _ => (hw3.fr Y Zaa aY.1 aY.2).trans qY
  have kZ:∀ n',St.get ⟨sto,n'⟩ Z = _:=fun _ => (hw3.fr Z Zaa aZ.1 aZ.2).trans qZ
  (try rw [Z0])
  (try simp (maxSteps:=2000000) (disch:=first | omega | rfl | assumption) only [↓Yaa,Yab,Nae,Naa,rA,rB,rC,rD,reduceIte,unP,rE,g2,g3,g5,g8,g9,kX,kY,kZ,fk1,fk4,fk2,fk5,fk3,fk6,fk7,fk8])
  subst hX
  exact ⟨nofun,_,rfl,(hre (hw3.up Zac)).cast (by simp [Na4,NaR,hk8] <;> (repeat' (first | split | omega | rfl | simp_all))) (by simp [NaY,hk8] <;> (repeat' (first | split | omega | rfl | simp_all)))⟩
 have fk8:((k:Int) == Int.ofNat 8) = false:=by simp; omega
 iterate 20
  (try rw [Z0])
  (try simp (maxSteps:=2000000) (disch:=first | omega | rfl | assumption) only [↓Yaa,Yab,Nae,Naa,rA,rB,rC,rD,reduceIte,unP,rE,g2,g3,g5,g8,g9,kX,kY,kZ,fk1,fk4,fk2,fk5,fk3,fk6,fk7,fk8])
 subst hX
 exact ⟨nofun,_,rfl,(hre (hwa _ Zac)).cast (by simp [Na4,NaR,hk1,hk4,hk2,hk5,hk3,hk6,hk7,hk8]) (by simp [NaY,hk1,hk4,hk2,hk5,hk3,hk6,hk7,hk8])⟩
end Go.Pe
