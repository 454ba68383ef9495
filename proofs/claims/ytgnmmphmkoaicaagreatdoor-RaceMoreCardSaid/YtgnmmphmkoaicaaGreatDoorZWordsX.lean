/-
 Words: the token at a place, by the interpreter of plain data. No condition.
-/
import Derived.Test.YtgnmmphmkoaicaaGreatDoorZWordsE
import Derived.Test.YtgnmmphmkoaicaaGreatDoorZPe4
set_option linter.unusedVariables false
set_option linter.unusedSimpArgs false
set_option maxHeartbeats 2000000
open Nat renaming reduceAdd → rA,reduceMul → rB,reduceLT → rC,reduceEqDiff → rD,reduceLeDiff → rE
namespace Go.Pe
open Go

def numR (l:List UInt8):PV:=match Njt 0 l with
 | some n => .tup [.i .i64 n,.b true]
 | none => .tup [.i .i64 0,.b false]
theorem Nju {cfg:Cfg} (hf:cfg.fn 89 = some m89) {fuel:Nat} {l:List UInt8} (hlen:l.length ≤ 16384) (hfu:l.length < fuel) {st:St} :
 ∃ r st',NaE cfg (fuel + 1) 89 [.s l] st = some (r,st') ∧ r = numR l:=by
 refine NaB hf ?_
 delta m89 Qa Qr Ql Qt Qk Qm
 simp only [Nal,↓Z0,↓Xp,↓Xt,Xq,Xc,Nae,Naa,rA,rB,rC,rD,reduceIte]
 refine ⟨by show l.length ≤ 140737488355328; omega,?_⟩
 simp only [↓Z0,↓Xp,↓Xt,Xq,Xc,Nae,Naa,rA,rB,rC,rD,reduceIte,NgU]
 refine Z9 (k:=l.length - 0) (fun d x => ∃ i n:Nat,i ≤ l.length ∧ d = l.length - i ∧ n ≤ 9223372036854775807 ∧ Njt n (l.drop i) = Njt 0 l ∧ (∃ kk,x.env.get 9 = .rsl kk 1 0 l.length ∧ x.st.get kk = some (.cells (Nbw l) false)) ∧ x.env.get 10 = .i .i64 l.length ∧ x.env.get 11 = .i .i64 i ∧ x.env.get 4 = .i .i64 n) ?_ ⟨0,0,Nat.zero_le _,rfl,by omega,rfl,⟨st.cnt + 32,?_,?_⟩,?_⟩ Zaa
 ·rintro d ⟨env,st1⟩ ⟨i,n,hi,rfl,hn,hp,⟨kk,g9,hk⟩,g10,g11,g4⟩
  simp only at g9 hk g10 g11 g4
  by_cases hlt:i < l.length
  ·have hd:=Nb8 hlt
   rw [hd] at hp
   have hlti:((i:Nat):Int) < ((l.length:Nat):Int):=by omega
   have hld:=fun c => Njk (st:=⟨st1.sto,c⟩) (k:=kk) (fz:=false) (l:=l) hk hlt
   have hb:=(l.getD i 0).toNat_lt
   have hw8:∀ c:UInt8,IntKind.u8.wrap ((c.toNat:Int) - Int.ofNat 48) = (((c.toNat + 208) % 256:Nat):Int):=by
    intro c
    rw [IntKind.wrap_u8]
    show ((c.toNat:Int) - 48) % 256 = _
    omega
   have hwd:∀ m:Nat,m < 256 → IntKind.i64.wrap (m:Int) = (m:Int):=fun m hm => Nbz _ ⟨by omega,by omega⟩
   have hm:=Nat.mod_lt ((l.getD i 0).toNat + 208) (show 256 > 0 by omega)
   generalize hdd:((l.getD i 0).toNat + 208) % 256 = dd at *
   have hws:IntKind.i64.wrap (Int.ofNat 9223372036854775807 - (dd:Int)) = ((9223372036854775807 - dd:Nat):Int):=by
    rw [Nbz _ ⟨by show _ ≤ (9223372036854775807:Int) - dd; omega,by show (9223372036854775807:Int) - dd < _; omega⟩]
    show (9223372036854775807:Int) - dd = _
    omega
   have hq:(((9223372036854775807 - dd:Nat):Int)).tdiv (Int.ofNat 10) = (((9223372036854775807 - dd) / 10:Nat):Int):=rfl
   have hwq:IntKind.i64.wrap ((((9223372036854775807 - dd) / 10:Nat):Int)) = (((9223372036854775807 - dd) / 10:Nat):Int):=Nbz _ ⟨by omega,by omega⟩
   have hz:¬ (Int.ofNat 10 = 0):=by decide
   have hwi:IntKind.i64.wrap ((i:Int) + Int.ofNat 1) = ((i + 1:Nat):Int):=by
    rw [Nbz _ ⟨by show _ ≤ (i:Int) + 1; omega,by show (i:Int) + 1 < _; omega⟩]; rfl
   have hnl:Njt n (l.getD i 0 :: l.drop (i + 1)) = if (9223372036854775807 - dd) / 10 < n then none else Njt (n * 10 + dd) (l.drop (i + 1)):=by
    rw [← hdd]; rfl
   rw [hnl] at hp
   by_cases hgt:(9223372036854775807 - dd) / 10 < n
   ·have hgt':((n:Nat):Int) > (((9223372036854775807 - dd) / 10:Nat):Int):=by omega
    simp only [↓Z0,↓Xp,↓Xt,Xq,Xc,Nae,Naa,rA,rB,rC,rD,reduceIte,g9,g10,g11,g4,hlti,hld,hw8,hdd,hwd dd hm,hws,hz,hq,hwq,hgt']
    rw [if_pos hgt] at hp
    refine ⟨by omega,nofun,_,rfl,?_⟩
    simp only [numR,← hp,NaA,↓Z0,↓Xp,↓Xt,Xq,Xc,Nae,Naa,rA,rB,rC,rD,reduceIte]
    rfl
   ·have hgt':¬ (((n:Nat):Int) > (((9223372036854775807 - dd) / 10:Nat):Int)):=by omega
    have hwm:IntKind.i64.wrap ((n:Int) * Int.ofNat 10) = ((n * 10:Nat):Int):=by
     rw [Nbz _ ⟨by show _ ≤ (n:Int) * 10; omega,by show (n:Int) * 10 < _; omega⟩]; rfl
    have hwa:IntKind.i64.wrap (((n * 10:Nat):Int) + (dd:Int)) = ((n * 10 + dd:Nat):Int):=by
     rw [Nbz _ ⟨by omega,by omega⟩]; rfl
    simp only [↓Z0,↓Xp,↓Xt,Xq,Xc,Nae,Naa,rA,rB,rC,rD,reduceIte,g9,g10,g11,g4,hlti,hld,hw8,hdd,hwd dd hm,hws,hz,hq,hwq,hgt',hwi,hwm,hwa]
    rw [if_neg hgt] at hp
    exact ⟨by omega,l.length - (i + 1),by omega,i + 1,n * 10 + dd,by omega,rfl,by omega,hp,⟨kk,rfl,hk⟩,rfl,rfl⟩
  ·have hie:i = l.length:=by omega
   subst hie
   simp only [↓Z0,↓Xp,↓Xt,Xq,Xc,Nae,Naa,rA,rB,rC,rD,reduceIte,g9,g10,g11,g4,Int.lt_irrefl]
   refine ⟨nofun,_,rfl,?_⟩
   simp only [List.drop_length,Njt] at hp
   simp only [numR,← hp,NaA,↓Z0,↓Xp,↓Xt,Xq,Xc,Nae,Naa,rA,rB,rC,rD,reduceIte]
 ·simp [Yac]
 ·simp [St.get_cnt,Yae]
 ·simp [Yac]
end Go.Pe
namespace Go.Pe
open Go Go.Am Go.RowKit

def NqI:FuncId → Option (List PV → Option PV):=fun f => if f = 90 then some gContains else if f = 87 then some gCount else if f = 113 then some gIndexByte else none
noncomputable def cfgW:Cfg:={ fn:=fun f => NcZ f tblL,ext:=NqI }
theorem Nh2 (n:Nat):fvP cfgW (n + 60) 85 [] = some (.agg clsCells):=by
 kernel_rfl
def Ndh:List UInt8:=[32,97,99,113,117,105,114,101,32,97,100,100,32,97,114,114,105,118,101,32,98,97,114,114,105,101,114,32,98,114,111,97,100,99,97,115,116,32,99,111,110,100,32,100,111,32,100,111,110,101,32,101,108,115,101,32,105,102,32,108,111,99,107,32,108,111,99,107,102,111,114,32,108,111,111,112,32,109,117,116,101,120,32,111,110,99,101,32,112,117,116,32,113,117,101,117,101,32,114,101,97,100,32,114,101,108,101,97,115,101,32,114,108,111,99,107,32,114,117,110,108,111,99,107,32,114,119,108,111,99,107,32,115,101,109,32,115,101,116,32,115,105,103,110,97,108,32,116,97,107,101,32,116,104,114,101,97,100,32,116,114,121,97,99,113,117,105,114,101,32,116,114,121,108,111,99,107,32,117,110,108,111,99,107,32,118,97,114,32,119,97,105,116,32,119,97,105,116,102,111,114,32,119,97,105,116,111,110,32,119,108,111,99,107,32,119,114,105,116,101,32,119,117,110,108,111,99,107,32]
def NbY (err line:Int):PV:=.tup [.agg [.i .u8 0,.s [],.i .i64 0,.i .i64 0,.i .i64 0,.i .i64 0],.agg [.i .i64 err,.i .i64 line]]
def NeG (kind:Int) (s:List UInt8) (n line a e:Int):PV:=.tup [.agg [.i .u8 kind,.s s,.i .i64 n,.i .i64 line,.i .i64 a,.i .i64 e],.agg [.i .i64 0,.i .i64 0]]
def NdC (text:List UInt8) (at0:Nat):PV :=
 let a:=at0 + NcR false (text.drop at0)
 let line:Int:=Nh5 10 (text.take a) 0 + 1
 if a = text.length then NeG 5 [] 0 line a a else
 let e:=a + Nit (text.drop a)
 let s:=(text.drop a).take (Nit (text.drop a))
 let c:=cls (text.getD a 0)
 if c = 3 then match Njt 0 s with
  | some n => NeG 1 [] n line a e
  | none => NbY 100 line
 else if c = 4 then NeG (if Njb (32 :: s ++ [32]) Ndh then 3 else 2) s 0 line a e
 else if c = 5 ∧ s ≠ [61] then NeG 4 s 0 line a e
 else NbY 100 line
theorem Nfe (n:Nat):Nak cfgW (NaE cfgW (n + 60)) 85 [] = some (.agg clsCells):=by
 have h:=Nh2 n
 rw [NlN] at h
 exact h
theorem Np0:cfgW.ext 113 = some gIndexByte:=by kernel_rfl
theorem NpY:cfgW.ext 87 = some gCount:=by kernel_rfl
theorem NpX:cfgW.ext 90 = some gContains:=by kernel_rfl
theorem NpW:cfgW.ext 86 = none:=by kernel_rfl
theorem NpZ:cfgW.ext 88 = none:=by kernel_rfl
theorem Np1:cfgW.ext 89 = none:=by kernel_rfl
theorem NpT:cfgW.fn 86 = some m86:=by kernel_rfl
theorem NpU:cfgW.fn 88 = some m88:=by kernel_rfl
theorem NpV:cfgW.fn 89 = some m89:=by kernel_rfl
theorem NkU:cfgW.fn 52 = some m52:=by kernel_rfl
theorem NfQ:clsCells.length = 256:=by simp [clsCells]
theorem NfR:clsCells.all PV.one = true:=by
 rw [List.all_eq_true]
 intro p hp
 simp only [clsCells,List.mem_map] at hp
 obtain ⟨i,_,rfl⟩:=hp
 rfl
theorem NbG {st:St} {k n:Nat} {cs:List PV} {v:PV} (hk:st.get k = some (.cells cs false)) (hv:v.cells.length = n) (hn:cs.length = n) (h1:v.cells.all PV.one = true):Nbc st n (.ptr k 0) v = some (st.put k (some (.cells v.cells false))):=by
 unfold Nbc
 simp only [hk]
 rw [if_pos ⟨hv,by omega,h1⟩]
 have:List.drop n cs = []:=List.drop_of_length_le Zaa
 simp [this]
theorem Nbt {st:St} {k n:Nat} {cs:List PV} {fz:Bool} (hk:st.get k = some (.cells cs fz)) (hn:cs.length = n):Nba st n (.ptr k 0) = some cs:=by
 unfold Nba
 simp only [hk]
 unfold cut?
 rw [if_pos Zaa]
 subst hn
 simp
theorem NbV {st:St} {k off:Nat} {cs:List PV} {v:PV} (hk:st.get k = some (.cells cs false)) (ho:off < cs.length) (hv:v.cells = [v]) (h1:v.one = true):Nbc st 1 (.ptr k off) v = some (st.put k (some (.cells (cs.set off v) false))):=by
 unfold Nbc
 simp only [hk,hv]
 rw [if_pos ⟨rfl,by omega,by simp [h1]⟩]
 rw [List.set_eq_take_append_cons_drop,if_pos ho]
 simp
theorem Nds {env:Env} {st:St} {w w0 f f0:List PV} {R:PV} (h4:env.get 4 = .ptr 1 0) (h5:env.get 5 = .ptr 9 0) (k1:st.get 1 = some (.cells w0 false)) (k9:st.get 9 = some (.cells f0 false)) (l0:w0.length = 6) (lf0:f0.length = 2) (lw:w.length = 6) (lf:f.length = 2) (ow:w.all PV.one = true) (of:f.all PV.one = true) (hR:R = .tup [.agg w,.agg f]) :
 WV (Option.map (fun x => (PV.tup [],x)) (Nbc st 6 (.ptr 1 0) (.agg w))) fun v st' => WV (Option.map (fun x => (PV.tup [],x)) (Nbc st' 2 (.ptr 9 0) (.agg f))) fun v st' =>
  (∀ (id:Nat),¬ MExit.ret = MExit.ex id) ∧ ∃ vs,mapO (Nha ⟨env,st'⟩) [MRes.cell 4 true 6,MRes.cell 5 true 2] = some vs ∧ NaA vs = R:=by
 rw [NbG (v:=.agg w) k1 lw l0 ow]
 simp only [map_some,Zx,PV.cells]
 rw [NbG (v:=.agg f) (st:=st.put 1 (some (.cells w false))) (by rw [Yad (by decide)]; exact k9) lf lf0 of]
 simp only [map_some,Zx,PV.cells]
 refine ⟨nofun,[.agg w,.agg f],?_,by rw [hR]; rfl⟩
 have q1:((st.put 1 (some (.cells w false))).put 9 (some (.cells f false))).get 1 = some (.cells w false):=by
  rw [Yad Zai,Yae]
 have q9:=Yae (st.put 1 (some (.cells w false))) 9 (some (.cells f false))
 simp only [mapO,Nha,h4,h5,Nbt q1 lw,Nbt q9 lf,Naa,if_true]
theorem Nk5 {M:Nat} {s:List UInt8} (hl:s.length ≤ 16384) (hM:s.length < M):Nak cfgW (NaE cfgW (M + 60)) 89 [.s s] = some (numR s):=by
 obtain ⟨r,st',h1,h2⟩:=Nju (fuel:=M + 59) NpV hl Zaa (st:={ sto:=.leaf,cnt:=1 })
 unfold Nak
 simp only [Np1]
 unfold NgB
 have h1':NaE cfgW (M + 60) 89 (NaM [.s s]).1 (NaM [.s s]).2 = some (r,st'):=h1
 have hc:Na5 st' (numR s) = some (numR s):=by
  unfold numR
  cases Njt 0 s with
  | none => exact Ndr (vs:=[.i .i64 0,.b false]) rfl
  | some n => exact Ndr (vs:=[.i .i64 n,.b true]) rfl
 rw [h1',h2]
 exact hc
end Go.Pe
