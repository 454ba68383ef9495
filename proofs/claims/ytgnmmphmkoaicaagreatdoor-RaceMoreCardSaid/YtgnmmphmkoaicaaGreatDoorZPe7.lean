/-
 Slices of one's own in runs over plain data: nil, or an object; what appends and calls do to them. No condition; nothing of the program.
-/
import Derived.Test.YtgnmmphmkoaicaaGreatDoorZPe4
set_option linter.unusedVariables false
set_option linter.unusedSimpArgs false
namespace Go.Pe
open Go

end Go.Pe
namespace Go.Pe
open Go

theorem Njw (n:Nat):Int.ofNat n = (n:Int):=Eq.trans rfl rfl
theorem Ngd (n:Nat):Int.negSucc n = -((n + 1:Nat):Int):=Eq.trans rfl rfl
theorem ltT {a b:Int} (h:a < b):(a < b) = True:=eq_true h
theorem ltF {a b:Int} (h:¬ a < b):(a < b) = False:=eq_false h
theorem leT {a b:Int} (h:a ≤ b):(a ≤ b) = True:=eq_true h
theorem leF {a b:Int} (h:¬ a ≤ b):(a ≤ b) = False:=eq_false h
theorem gtT {a b:Int} (h:a > b):(a > b) = True:=eq_true h
theorem gtF {a b:Int} (h:¬ a > b):(a > b) = False:=eq_false h
theorem geT {a b:Int} (h:a ≥ b):(a ≥ b) = True:=eq_true h
theorem geF {a b:Int} (h:¬ a ≥ b):(a ≥ b) = False:=eq_false h
theorem beT {a b:Int} (h:a = b):(a == b) = true:=by simp [h]
theorem beF {a b:Int} (h:¬ a = b):(a == b) = false:=by simp [h]
theorem neT {a b:Int} (h:¬ a = b):(a != b) = true:=by simp [h]
theorem neF {a b:Int} (h:a = b):(a != b) = false:=by simp [h]
theorem NqL {a b:Nat} (h:a < b):(a < b) = True:=eq_true h
theorem NqK {a b:Nat} (h:¬ a < b):(a < b) = False:=eq_false h
theorem NqJ {a b:Nat} (h:a ≤ b):(a ≤ b) = True:=eq_true h
theorem leFn {a b:Nat} (h:¬ a ≤ b):(a ≤ b) = False:=eq_false h
theorem Nl3 (n m:Nat):(n:Int).tdiv (m:Int) = ((n / m:Nat):Int):=Eq.trans rfl rfl
theorem Nl5 (n m:Nat):(n:Int).tmod (m:Int) = ((n % m:Nat):Int):=Eq.trans rfl rfl
theorem NlV (a b:Nat):(a:Int) + (b:Int) = ((a + b:Nat):Int):=Eq.trans rfl rfl
theorem Nfa (a b:Nat):((a:Int) - (b:Int)).toNat = a - b:=by omega
theorem Ngv (a b:Nat):((a:Int) + (b:Int)).toNat = a + b:=by omega
theorem Xa:type_of% @Njw ∧ type_of% @Ngd ∧ type_of% @ltT ∧ type_of% @ltF ∧ type_of% @leT ∧ type_of% @leF ∧ type_of% @gtT ∧ type_of% @gtF ∧ type_of% @geT ∧ type_of% @geF ∧ type_of% @beT ∧ type_of% @beF ∧ type_of% @neT ∧ type_of% @neF ∧ type_of% @Nl3 ∧ type_of% @Nl5 ∧ type_of% @Nbz ∧ type_of% @Nma ∧ type_of% @Nl9 ∧ type_of% @NoB ∧ type_of% @false_and ∧ type_of% @and_false ∧ type_of% @not_false_eq_true ∧ type_of% @Ngv ∧ type_of% @Nfa ∧ type_of% @NlV ∧ type_of% @Nat.mul_one ∧ type_of% @Nat.zero_add :=
 ⟨@Njw,@Ngd,@ltT,@ltF,@leT,@leF,@gtT,@gtF,@geT,@geF,@beT,@beF,@neT,@neF,@Nl3,@Nl5,@Nbz,@Nma,@Nl9,@NoB,@false_and,@and_false,@not_false_eq_true,@Ngv,@Nfa,@NlV,@Nat.mul_one,@Nat.zero_add⟩
theorem Xn:type_of% @NqL ∧ type_of% @NqK ∧ type_of% @NqJ ∧ type_of% @leFn:=⟨@NqL,@NqK,@NqJ,@leFn⟩
theorem Xl:type_of% @NoE ∧ type_of% @NoF ∧ type_of% @NiA ∧ type_of% @Nas ∧ type_of% @Nar ∧ type_of% @NoG ∧ type_of% @Z0L_ ∧ type_of% @NaC ∧ type_of% @NoH ∧ type_of% @NoI ∧ type_of% @NoJ ∧ type_of% @NoK ∧ type_of% @NoL ∧ type_of% @NoM ∧ type_of% @NoN ∧ type_of% @NoO ∧ type_of% @NoP ∧ type_of% @NoQ ∧ type_of% @NoR ∧ type_of% @NoS ∧ type_of% @NoT ∧ type_of% @No1 ∧ type_of% @No2 ∧ type_of% @No3 ∧ type_of% @No4 ∧ type_of% @No5 ∧ type_of% @No6 ∧ type_of% @No7 ∧ type_of% @No8 ∧ type_of% @No9 ∧ type_of% @Npa ∧ type_of% @Npb ∧ type_of% @Npc ∧ type_of% @Npd ∧ type_of% @Npe ∧ type_of% @Npf ∧ type_of% @Npg ∧ type_of% @Nph ∧ type_of% @List.take_succ_cons.{0} ∧ type_of% @List.take_zero.{0} ∧ type_of% @List.drop_succ_cons.{0} ∧ type_of% @List.drop_zero.{0} ∧ type_of% @List.cons_append.{0} ∧ type_of% @List.nil_append.{0} ∧ type_of% @List.append_nil.{0} ∧ type_of% @List.all_cons.{0} ∧ type_of% @List.all_nil.{0} ∧ type_of% @Bool.and_self ∧ type_of% @Bool.and_true ∧ type_of% @Bool.true_and ∧ type_of% @Nat.zero_add ∧ type_of% @Nat.add_zero ∧ type_of% @Nat.le_refl ∧ type_of% @List.getElem?_cons_zero.{0} ∧ type_of% @List.getElem?_cons_succ.{0} ∧ type_of% @Nat.add_left_cancel_iff ∧ type_of% @Nat.left_eq_add ∧ type_of% @Nat.add_eq_left ∧ type_of% @not_false_eq_true ∧ type_of% @Npi ∧ type_of% @Npj ∧ type_of% @Npk ∧ type_of% @Z1k_ :=
 ⟨@NoE,@NoF,@NiA,@Nas,@Nar,@NoG,@Z0L_,@NaC,@NoH,@NoI,@NoJ,@NoK,@NoL,@NoM,@NoN,@NoO,@NoP,@NoQ,@NoR,@NoS,@NoT,@No1,@No2,@No3,@No4,@No5,@No6,@No7,@No8,@No9,@Npa,@Npb,@Npc,@Npd,@Npe,@Npf,@Npg,@Nph,@List.take_succ_cons.{0},@List.take_zero.{0},@List.drop_succ_cons.{0},@List.drop_zero.{0},@List.cons_append.{0},@List.nil_append.{0},@List.append_nil.{0},@List.all_cons.{0},@List.all_nil.{0},@Bool.and_self,@Bool.and_true,@Bool.true_and,@Nat.zero_add,@Nat.add_zero,@Nat.le_refl,@List.getElem?_cons_zero.{0},@List.getElem?_cons_succ.{0},@Nat.add_left_cancel_iff,@Nat.left_eq_add,@Nat.add_eq_left,@not_false_eq_true,@Npi,@Npj,@Npk,@Z1k_⟩
end Go.Pe
namespace Go.Pe
open Go

def keyOf:PV → List Nat
 | .rsl k _ _ _ => [k]
 | _ => []
def Own (st:St) (sz:Nat) (v:PV) (n:Nat) (cs:List PV):Prop :=
 (v = .nsl ∧ n = 0 ∧ cs = []) ∨ ∃ k,v = .rsl k sz 0 n ∧ st.get k = some (.cells cs false) ∧ cs.length = n * sz ∧ k < st.cnt
theorem Own.nil (st:St) (sz:Nat):Own st sz .nsl 0 []:=.inl ⟨rfl,rfl,rfl⟩
theorem Own.len {st:St} {sz n:Nat} {v:PV} {cs:List PV} (h:Own st sz v n cs):NgU v = some (.i .i64 n):=by
 rcases h with ⟨rfl,rfl,_⟩ | ⟨k,rfl,_⟩ <;> rfl
theorem Own.lt {st:St} {sz n:Nat} {v:PV} {cs:List PV} (h:Own st sz v n cs):∀ k,k ∈ keyOf v → k < st.cnt:=by
 rcases h with ⟨rfl,_,_⟩ | ⟨k,rfl,_,_,hk⟩
 ·intro k hk; simp [keyOf] at hk
 ·intro j hj; simp [keyOf] at hj; omega
theorem Own.cells {st:St} {sz n:Nat} {v:PV} {cs:List PV} (h:Own st sz v n cs):cellsOf st sz v = some (n,cs):=by
 rcases h with ⟨rfl,rfl,rfl⟩ | ⟨k,rfl,h1,h2,_⟩
 ·rfl
 ·unfold cellsOf
  simp only [h1,cut?,Nat.zero_add,List.drop_zero,ne_eq,not_true_eq_false,if_false]
  rw [if_pos Zaa,← h2,List.take_length]
  rfl
theorem Own.move {st st':St} {sz n:Nat} {v:PV} {cs:List PV} (h:Own st sz v n cs) (hc:st.cnt ≤ st'.cnt) (hg:∀ j,j ∈ keyOf v → j < st.cnt → st'.get j = st.get j):Own st' sz v n cs:=by
 rcases h with h | ⟨k,rfl,h1,h2,h3⟩
 ·exact .inl h
 ·exact .inr ⟨k,rfl,by rw [hg k (by simp [keyOf]) h3]; exact h1,h2,by omega⟩
theorem Own.cnt {sto:Trie PObj} {c c' sz n:Nat} {v:PV} {cs:List PV} (h:Own ⟨sto,c⟩ sz v n cs) (hc:c ≤ c'):Own ⟨sto,c'⟩ sz v n cs:=h.move hc fun _ _ _ => rfl
theorem Own.put {st:St} {k sz n:Nat} {v:PV} {cs:List PV} {o:Option PObj} (h:Own st sz v n cs) (hk:k ∉ keyOf v):Own (st.put k o) sz v n cs:=h.move (Nat.le_refl _) fun j hj _ => Yad fun e => hk (e ▸ hj)
theorem Own.deep {st:St} {sz n:Nat} {v:PV} {cs:List PV} (h:Own st sz v n cs) (hf:cs.all PV.flat = true):(v = .nsl ∧ n = 0 ∧ cs = [] ∧ Go.Pe.deep st 12 v = some .nsl) ∨ Go.Pe.deep st 12 v = some (.fsl n cs):=by
 rcases h with ⟨rfl,rfl,rfl⟩ | ⟨k,rfl,h1,h2,_⟩
 ·exact .inl ⟨rfl,rfl,rfl,rfl⟩
 ·refine .inr ?_
  show Go.Pe.deep st (11 + 1) _ = _
  unfold Go.Pe.deep
  simp only [h1,cut?,Nat.zero_add,List.drop_zero]
  rw [if_pos Zaa,← h2,List.take_length]
  have:mapO (Go.Pe.deep st 11) cs = some cs:=by
   clear h1 h2
   induction cs with
   | nil => rfl
   | cons c r ih =>
     simp only [List.all_cons,Bool.and_eq_true] at hf
     have e:Go.Pe.deep st 11 c = some c:=by
      cases c <;> first | rfl | (simp [PV.flat] at hf)
     simp only [mapO,e,ih hf.2]
  simp only [this]
  rfl
theorem Own.obj {st:St} {sz n:Nat} {v:PV} {cs:List PV} (h:Own st sz v n cs) (hn:n ≠ 0):∃ k,v = .rsl k sz 0 n ∧ st.get k = some (.cells cs false) ∧ cs.length = n * sz ∧ k < st.cnt:=by
 rcases h with ⟨_,h,_⟩ | h
 ·exact absurd h hn
 ·exact h
theorem NbM {S:St} {key sz byt n m:Nat} {v:PV} {cs news:List PV} {Q:PV → St → Prop} (h:Own S sz v n cs) (hk:key < S.cnt) (hf:key ∉ keyOf v) (hm:news.length = m * sz) (hs:0 < sz) (hl:(n + m) * byt ≤ NaL)
 (q:∀ v' st',Own st' sz v' (n + m) (cs ++ news) → st'.cnt = S.cnt → (∀ j,j ∈ keyOf v' → j = key) → (∀ j,j ≠ key → j ∉ keyOf v → st'.get j = S.get j) → Q v' st'):WV (Nbo S key sz byt m news v) Q:=by
 rcases h with ⟨rfl,rfl,rfl⟩ | ⟨k,rfl,h1,h2,h3⟩
 ·by_cases h0:m = 0
  ·subst h0
   have hn:news = []:=List.length_eq_zero_iff.1 Zaa
   subst hn
   exact ⟨.nsl,S,rfl,q _ _ (.inl ⟨rfl,rfl,rfl⟩) rfl (by intro j hj; simp [keyOf] at hj) (fun _ _ _ => rfl)⟩
  ·refine ⟨.rsl key sz 0 m,S.put key (some (.cells news false)),?_,q _ _ (.inr ⟨key,by rw [Nat.zero_add],Yae _ _ _,?_,hk⟩) rfl (by intro j hj; simpa [keyOf] using hj) (fun j hj _ => Yad fun e => hj e.symm)⟩
   ·unfold Nbo
    rw [if_neg h0,if_pos (by simpa using hl)]
   ·simpa using hm
 ·have hkk:key ≠ k:=by simpa [keyOf] using hf
  refine ⟨.rsl key sz 0 (n + m),(S.put k none).put key (some (.cells (cs ++ news) false)),?_,q _ _ (.inr ⟨key,rfl,Yae _ _ _,?_,hk⟩) rfl (by intro j hj; simpa [keyOf] using hj) ?_⟩
  ·unfold Nbo
   simp only [h1]
   rw [if_pos ⟨trivial,trivial,h2,hl⟩]
  ·rw [List.length_append,h2,hm,Nat.add_mul]
  ·intro j hj hjk
   rw [Yad (fun e => hj e.symm),Yad (fun e => hjk (by simp [keyOf,e]))]
theorem Nke {g:List PV → Option PV} {st:St} {key sz n:Nat} {ps ps' cs:List PV} {Q:PV → St → Prop} (hd:Nbf st ps = some ps') (hg:g ps' = some (.osl sz n cs)) (hc:(PV.osl sz n cs).closedB = true) (hl:cs.length = n * sz) (hk:key < st.cnt)
 (q:∀ st',Own st' sz (.rsl key sz 0 n) n cs → st'.get key = some (.cells cs false) → st'.cnt = st.cnt → (∀ j,j ≠ key → st'.get j = st.get j) → Q (.rsl key sz 0 n) st'):WV (Nam g false st key ps) Q:=by
 refine ⟨.rsl key sz 0 n,st.put key (some (.cells cs false)),?_,q _ (.inr ⟨key,rfl,Yae _ _ _,hl,hk⟩) (Yae _ _ _) rfl (fun j hj => Yad fun e => hj e.symm)⟩
 unfold Nam
 simp only [hd,hg,hc,if_true,NaI]
theorem Nfb {g:List PV → Option PV} {st:St} {key:Nat} {ps ps':List PV} {r:PV} {Q:PV → St → Prop} (hd:Nbf st ps = some ps') (hg:g ps' = some r) (hc:r.closedB = true) (hr:NaI st key r = some (r,st)) (q:Q r st):WV (Nam g false st key ps) Q:=by
 refine ⟨r,st,?_,q⟩
 unfold Nam
 simp only [hd,hg,hc,if_true,hr]
theorem Naj (S:St) (k sz n:Nat) (cs:List PV) (fz:Bool):cellsOf (S.put k (some (.cells cs fz))) sz (.rsl k sz 0 n) = if n * sz ≤ cs.length then some (n,cs.take (n * sz)) else none:=by
 unfold cellsOf
 simp only [Yae,cut?,Nat.zero_add,List.drop_zero,ne_eq,not_true_eq_false,if_false]
 split <;> rfl
theorem NfH {g:List PV → Option PV} {st:St} {key sz n:Nat} {ps ps' cs:List PV} {Q:PV → St → Prop} (hd:Nbf st ps = some ps') (hg:g ps' = some (.osl sz n cs)) (hc:(PV.osl sz n cs).closedB = true) (hl:cs.length = n * sz) (hk:key < st.cnt)
 (q:∀ st',Own st' sz (.rsl key sz 0 n) n cs → st'.get key = some (.cells cs false) → st'.cnt = st.cnt → (∀ j,j ≠ key → st'.get j = st.get j) → Q (.rsl key sz 0 n) st') :
 WV (match Nbf st ps with
  | some l => match g l with
    | some r => if r.closedB then NaI st key r else none
    | none => none
  | none => none) Q:=by
 refine ⟨.rsl key sz 0 n,st.put key (some (.cells cs false)),?_,q _ (.inr ⟨key,rfl,Yae _ _ _,hl,hk⟩) (Yae _ _ _) rfl (fun j hj => Yad fun e => hj e.symm)⟩
 simp only [hd,hg,hc,if_true,NaI]
theorem NbA {g:List PV → Option PV} {st:St} {key:Nat} {ps ps':List PV} {r:PV} {Q:PV → St → Prop} (hd:Nbf st ps = some ps') (hg:g ps' = some r) (hc:r.closedB = true) (hr:NaI st key r = some (r,st)) (q:Q r st) :
 WV (match Nbf st ps with
  | some l => match g l with
    | some r => if r.closedB then NaI st key r else none
    | none => none
  | none => none) Q:=by
 refine ⟨r,st,?_,q⟩
 simp only [hd,hg,hc,if_true,hr]
end Go.Pe
