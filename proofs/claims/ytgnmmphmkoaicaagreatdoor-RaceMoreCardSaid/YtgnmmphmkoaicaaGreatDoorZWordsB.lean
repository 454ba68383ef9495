/-
 Words: what is passed over, by the interpreter of plain data. No condition.
-/
import Derived.Test.YtgnmmphmkoaicaaGreatDoorZPe4
import Derived.Test.YtgnmmphmkoaicaaGreatDoorZPeTbl
set_option linter.unusedVariables false
set_option linter.unusedSimpArgs false
open Nat renaming reduceAdd → rA,reduceMul → rB,reduceLT → rC,reduceEqDiff → rD,reduceLeDiff → rE
namespace Go.Pe
open Go

def Ndf (c:UInt8):Bool:=c == 9 || c == 10 || c == 13 || c == 32
def NmQ (c:UInt8):Bool:=decide (48 ≤ c.toNat) && decide (c.toNat ≤ 57)
def NkZ (c:UInt8):Bool:=(decide (97 ≤ c.toNat) && decide (c.toNat ≤ 122)) || (decide (65 ≤ c.toNat) && decide (c.toNat ≤ 90)) || c == 95
def Nob (c:UInt8):Bool:=c == 60 || c == 43 || c == 45 || c == 42 || c == 40 || c == 41 || c == 123 || c == 125 || c == 59 || c == 61
def cls (c:UInt8):Nat:=if Ndf c then 1 else if c == 35 then 2 else if NmQ c then 3 else if NkZ c then 4 else if Nob c then 5 else 0
def clsCells:List PV:=(List.range 256).map fun i => .i .u8 (cls (UInt8.ofNat i))
def NcR:Bool → List UInt8 → Nat
 | _,[] => 0
 | true,c :: r => 1 + (if c = 10 then NcR false r else NcR true r)
 | false,c :: r => if Ndf c then 1 + NcR false r else if c = 35 then 1 + NcR true r else 0
theorem Nep:∀ (b:Bool) (l:List UInt8),NcR b l ≤ l.length
 | true,[] => Nat.le_refl _
 | false,[] => Nat.le_refl _
 | true,c :: r => by
   simp only [NcR,List.length_cons]
   have:=Nep true r; have:=Nep false r
   split <;> omega
 | false,c :: r => by
   simp only [NcR,List.length_cons]
   have:=Nep true r; have:=Nep false r
   split
   ·omega
   ·split <;> omega
theorem Nft (c:UInt8):∀ (l:List UInt8) (n:Nat),NfE c l n = -1 ∨ (n:Int) ≤ NfE c l n
 | [],n => .inl rfl
 | b :: l,n => by
   unfold NfE
   split
   ·exact .inr (Int.le_refl _)
   ·rcases Nft c l (n + 1) with h | h
    ·exact .inl h
    ·right; omega
theorem Ngn:∀ (l:List UInt8) (n:Nat),NfE 10 l n = -1 → NcR true l = l.length
 | [],n,_ => rfl
 | b :: l,n,h => by
   unfold NfE at h
   split at h
   ·omega
   ·rename_i hb
    simp only [NcR,if_neg hb,List.length_cons]
    rw [Ngn l _ h]; omega
theorem Ngo:∀ (l:List UInt8) (n:Nat) (p:Nat),NfE 10 l n = (n + p:Nat) → NcR true l = p + NcR false (l.drop p) ∧ p < l.length
 | [],n,p,h => by simp [NfE] at h; omega
 | b :: l,n,p,h => by
   unfold NfE at h
   split at h
   ·rename_i hb
    have:p = 0:=by omega
    subst this
    subst hb
    simp [NcR,Ndf]
   ·rename_i hb
    rcases Nft 10 l (n + 1) with h1 | h1
    ·rw [h1] at h; omega
    ·obtain ⟨q,rfl⟩:∃ q,p = q + 1:=⟨p - 1,by omega⟩
     obtain ⟨h2,h3⟩:=Ngo l (n + 1) q (by rw [h]; omega)
     simp only [NcR,if_neg hb,List.drop_succ_cons,List.length_cons,h2]
     omega
theorem NpD {c:UInt8} (h:Ndf c = true):cls c = 1:=by simp [cls,h]
theorem NpE {c:UInt8} (h:c = 35):cls c = 2:=by subst h; decide
theorem NpC {c:UInt8} (h:¬ Ndf c = true) (h2:¬ c = 35):cls c ≠ 1 ∧ cls c ≠ 2:=by
 unfold cls
 rw [if_neg h,if_neg (by simpa using h2)]
 constructor <;> (repeat' split) <;> decide
theorem Nb8 {text:List UInt8} {i:Nat} (h:i < text.length):text.drop i = text.getD i 0 :: text.drop (i + 1):=by
 rw [List.drop_eq_getElem_cons h]
 simp [List.getD_eq_getElem?_getD,List.getElem?_eq_getElem h]
def Nlj (first:Nat):List UInt8 → Nat
 | [] => 0
 | c :: r => if cls c = 3 ∨ (cls c = 4 ∧ first = 4) then 1 + Nlj first r else 0
theorem NjW (first:Nat):∀ l,Nlj first l ≤ l.length
 | [] => Nat.le_refl _
 | c :: r => by
   simp only [Nlj,List.length_cons]
   have:=NjW first r
   split <;> omega
def Nit:List UInt8 → Nat
 | [] => 0
 | c :: r => if cls c = 5 then (if (c :: r).take 2 = [45,62] ∨ (c :: r).take 2 = [61,61] then 2 else 1) else 1 + Nlj (cls c) r
def Njt:Nat → List UInt8 → Option Nat
 | n,[] => some n
 | n,c :: r => if (9223372036854775807 - (c.toNat + 208) % 256) / 10 < n then none else Njt (n * 10 + (c.toNat + 208) % 256) r
end Go.Pe
namespace Go.Pe
open Go

theorem NnO:∀ i,i < 256 → cut? clsCells i 1 = some [.i .u8 (cls (UInt8.ofNat i))]:=by
 intro i hi
 unfold cut? clsCells
 rw [if_pos Zah]
 apply congrArg
 apply List.ext_getElem?
 intro j
 cases j with
 | zero => simp [List.getElem?_take,List.getElem?_drop,List.getElem?_map,List.getElem?_range,hi]
 | succ j => simp [List.getElem?_take]
theorem NdL {st:St} {k:Nat} {fz:Bool} (hk:st.get k = some (.cells clsCells fz)) (c:UInt8):Nba st 1 (.ptr k (0 + c.toNat * 1)) = some [.i .u8 (cls c)]:=by
 unfold Nba
 simp only [hk]
 have h:=NnO c.toNat c.toNat_lt
 simp only [UInt8.ofNat_toNat] at h
 simpa using h

theorem NiG {cfg:Cfg} (hf:cfg.fn 86 = some m86) (hx:cfg.ext 113 = some gIndexByte) {fuel:Nat} {text:List UInt8} {at0:Nat} (hat:at0 ≤ text.length) (hlen:text.length ≤ 16384) (hfu:text.length < fuel) {st:St} {k:Nat} {fz:Bool} (hk:st.get k = some (.cells clsCells fz)) :
 ∃ r st',NaE cfg (fuel + 1) 86 [.ptr k 0,.s text,.i .i64 at0] st = some (r,st') ∧ (r = .i .i64 ((at0 + NcR false (text.drop at0):Nat):Int) ∧ st'.sto = st.sto ∧ st.cnt ≤ st'.cnt):=by
 refine NaB hf ?_
 delta m86 Qa Qc Ql Qt Qk Qm
 simp only [Nal,↓Z0,↓Xp,↓Xt,Xq,Xc,Nae,Naa,rA,rB,rC,rD,reduceIte]
 refine Z9 (k:=text.length - at0) (fun d x => ∃ i:Nat,i ≤ text.length ∧ d = text.length - i ∧ i + NcR false (text.drop i) = at0 + NcR false (text.drop at0) ∧ x.env.get 0 = .ptr k 0 ∧ x.env.get 1 = .s text ∧ x.env.get 2 = .i .i64 i ∧ x.st.sto = st.sto ∧ st.cnt ≤ x.st.cnt) ?_ ⟨at0,hat,rfl,rfl,?_⟩ Zaa
 ·rintro d ⟨env,st1⟩ ⟨i,hi,rfl,hp,h0,h1,h2,hs,hc⟩
  simp only at h0 h1 h2 hs hc
  simp only [↓Z0,↓Xp,↓Xt,Xq,Xc,Nae,Naa,rA,rB,rC,rD,reduceIte,h0,h1,h2]
  have hk1:∀ c,St.get ⟨st1.sto,c⟩ k = some (.cells clsCells fz):=by
   intro c
   show Trie.get (Nat.add k 1) st1.sto k = _
   rw [hs]; exact hk
  have hld:=fun (c:Nat) (b:UInt8) => NdL (hk1 c) b
  refine ⟨fun hlt => ?_,fun hlt => ?_⟩
  ·have hlt':i < text.length:=by omega
   have hd:=Nb8 hlt'
   rw [hd] at hp
   refine ⟨by omega,hlt',by have:=(text.getD i 0).toNat_lt; omega,?_⟩
   have hb1:=(text.getD i 0).toNat_lt
   generalize text.getD i 0 = c at *
   simp only [↓Z0,↓Xp,↓Xt,Xq,Xc,Nae,Naa,rA,rB,rC,rD,reduceIte,hld]
   by_cases hb:Ndf c = true
   ·have hp':1 + NcR false (text.drop (i + 1)) + i = at0 + NcR false (text.drop at0):=by
     rw [← hp]; simp [NcR,hb]; omega
    simp only [↓Z0,↓Xp,↓Xt,Xq,Xc,Nae,Naa,rA,rB,rC,rD,reduceIte,NpD hb]
    simp only [show (((1:Nat):Int) == Int.ofNat 1) = true from rfl,↓Z0,↓Xp,↓Xt,Xq,Xc,Nae,Naa,rA,rB,rC,rD,reduceIte]
    refine ⟨text.length - (i + 1),by omega,i + 1,by omega,rfl,by omega,?_,hs,by omega⟩
    rw [Nbz _ ⟨by show _ ≤ (i:Int) + 1; omega,by show (i:Int) + 1 < _; omega⟩]
    rfl
   ·by_cases hr:c = 35
    ·simp only [↓Z0,↓Xp,↓Xt,Xq,Xc,Nae,Naa,rA,rB,rC,rD,reduceIte,NpE hr]
     simp only [show (((2:Nat):Int) == Int.ofNat 1) = false from rfl,show (((2:Nat):Int) == Int.ofNat 2) = true from rfl,↓Z0,↓Xp,↓Xt,Xq,Xc,Nae,Naa,rA,rB,rC,rD,reduceIte,h1,h2]
     rw [Ncz ⟨by omega,by omega⟩]
     simp only [↓Z0,↓Xp,↓Xt,Xq,Xc,Nae,Naa,rA,rB,rC,rD,reduceIte]
     have hsub:List.take (text.length - i) (text.drop i) = text.drop i:=List.take_of_length_le Zag
     rw [hsub,Nay (r:=.i .i64 (NfE 10 (text.drop i) 0)) rfl (by rw [Nbj hx]; rfl) rfl]
     simp only [↓Z0,↓Xp,↓Xt,Xq,Xc,Nae,Naa,rA,rB,rC,rD,reduceIte]
     have hpf:NcR false (c :: text.drop (i + 1)) = 1 + NcR true (text.drop (i + 1)):=by
      simp only [NcR]
      rw [if_neg hb,if_pos hr]
     have hc10:c ≠ 10:=by rw [hr]; decide
     have hpt:NcR true (text.drop i) = 1 + NcR true (text.drop (i + 1)):=by
      rw [hd]; simp only [NcR,hc10,if_false]
     rcases Nft 10 (text.drop i) 0 with hn | hn
     ·have h1:=Ngn _ _ hn
      simp only [List.length_drop] at h1
      rw [hn]
      simp only [show ((-1:Int) < Int.ofNat 0) from by decide,↓Z0,↓Xp,↓Xt,Xq,Xc,Nae,Naa,rA,rB,rC,rD,reduceIte]
      refine ⟨nofun,_,rfl,?_,hs,by omega⟩
      simp only [NaA,↓Z0,↓Xp,↓Xt,Xq,Xc,Nae,Naa,rA,rB,rC,rD,reduceIte]
      congr 1
      rw [hpf] at hp
      omega
     ·obtain ⟨p,hpp⟩:∃ p:Nat,NfE 10 (text.drop i) 0 = p:=⟨(NfE 10 (text.drop i) 0).toNat,by omega⟩
      obtain ⟨h1,h2⟩:=Ngo (text.drop i) 0 p (by rw [hpp]; simp)
      simp only [List.length_drop,List.drop_drop] at h1 h2
      rw [hpp]
      have hneg:¬ ((p:Int) < Int.ofNat 0):=by
       show ¬ ((p:Int) < 0); omega
      simp only [hneg,↓Z0,↓Xp,↓Xt,Xq,Xc,Nae,Naa,rA,rB,rC,rD,reduceIte]
      have hp0:p ≠ 0:=by
       intro h0
       subst h0
       rw [hd] at hpp
       unfold NfE at hpp
       rw [if_neg hc10] at hpp
       rcases Nft 10 (text.drop (i + 1)) (0 + 1) with h | h <;> omega
      refine ⟨text.length - (i + p),by omega,i + p,by omega,rfl,by omega,?_,hs,by omega⟩
      rw [Nbz _ ⟨by omega,by omega⟩]
      simp
    ·obtain ⟨n1,n2⟩:=NpC hb hr
     have hp':i = at0 + NcR false (text.drop at0):=by
      rw [← hp]; simp [NcR,hb,hr]
     have e1:(((cls c:Nat):Int) == Int.ofNat 1) = false:=by
      simp only [beq_eq_false_iff_ne,ne_eq]; show ¬ ((cls c:Nat):Int) = ((1:Nat):Int); omega
     have e2:(((cls c:Nat):Int) == Int.ofNat 2) = false:=by
      simp only [beq_eq_false_iff_ne,ne_eq]; show ¬ ((cls c:Nat):Int) = ((2:Nat):Int); omega
     simp only [e1,e2,↓Z0,↓Xp,↓Xt,Xq,Xc,Nae,Naa,rA,rB,rC,rD,reduceIte,h1,h2]
     refine ⟨nofun,_,rfl,?_,hs,by omega⟩
     simp only [NaA,↓Z0,↓Xp,↓Xt,Xq,Xc,Nae,Naa,rA,rB,rC,rD,reduceIte]
     congr 1
     omega
  ·have:i = text.length:=by omega
   subst this
   refine ⟨nofun,_,rfl,?_,hs,by omega⟩
   simp only [NaA,↓Z0,↓Xp,↓Xt,Xq,Xc,Nae,Naa,rA,rB,rC,rD,reduceIte]
   congr 1
   simp [NcR] at hp
   omega
 ·simp [Yac]
end Go.Pe
