/-
 Calls by value that hand out a list beside plain data, in runs over plain data. No condition; nothing of the program.
-/
import Derived.Test.YtadblicfhhllgaaPe8
set_option linter.unusedVariables false
set_option linter.unusedSimpArgs false
namespace Go.Pe
open Go

def PV.scal : PV → Bool
 | .i .. | .b _ | .s _ => true
 | _ => false
def OutV (r : PV) (sz n : Nat) (cs : List PV) : Prop := (r = .nsl ∧ n = 0 ∧ cs = []) ∨ r = .osl sz n cs
theorem OutV.nil (sz : Nat) : OutV .nsl sz 0 [] := .inl ⟨rfl, rfl, rfl⟩
theorem OutV.osl (sz n : Nat) (cs : List PV) : OutV (.osl sz n cs) sz n cs := .inr rfl
theorem Nex {n : Nat} {v : PV} (h : v.scal = true) : PV.closed (n + 1) v = true := by
 cases v <;> first | (simp [PV.scal] at h; done) | rfl
theorem Ned {v : PV} (h : v.scal = true) : v.isO = none := by
 cases v <;> first | (simp [PV.scal] at h; done) | rfl
theorem Neo : ∀ {l : List PV}, l.all PV.scal = true → Nb5 l = none
 | [], _ => rfl
 | v :: l, h => by
   simp only [List.all_cons, Bool.and_eq_true] at h
   simp only [Nb5, Ned h.1, Neo h.2, Option.map_none]
theorem Ngj : ∀ {pre post : List PV} {sz n : Nat} {cs : List PV}, pre.all PV.scal = true → Nb5 (pre ++ .osl sz n cs :: post) = some (pre.length, sz, n, cs)
 | [], post, sz, n, cs, _ => rfl
 | v :: l, post, sz, n, cs, h => by
   simp only [List.all_cons, Bool.and_eq_true] at h
   simp only [List.cons_append, Nb5, Ned h.1, Ngj h.2, Option.map_some, List.length_cons]
theorem Nmb : ∀ {pre post : List PV} {x y : PV}, (pre ++ x :: post).set pre.length y = pre ++ y :: post
 | [], post, x, y => rfl
 | v :: l, post, x, y => by simp only [List.cons_append, List.length_cons, List.set_cons_succ, Nmb]
def PV.leafB : PV → Bool
 | .i .. | .b _ | .s _ | .nsl => true
 | _ => false
def clO (cs : List PV) : Bool := cs.all PV.leafB
theorem Ne0 {cs : List PV} (h : clO cs = true) (n : Nat) : cs.all (PV.closed (n + 1)) = true := by
 unfold clO at h
 rw [List.all_eq_true] at h ⊢
 intro x hx
 have := h x hx
 cases x <;> first | (simp [PV.leafB] at this; done) | rfl
theorem Nhu {pre post : List PV} {sz n : Nat} {cs : List PV} (h1 : pre.all PV.scal = true) (h2 : post.all PV.scal = true) (hc : clO cs = true) : PV.closedB (.tup (pre ++ .osl sz n cs :: post)) = true := by
 have hs : ∀ l : List PV, l.all PV.scal = true → l.all (PV.closed 11) = true := by
  intro l h
  rw [List.all_eq_true] at h ⊢
  exact fun x hx => Nex (h x hx)
 show (pre ++ .osl sz n cs :: post).all (PV.closed 11) = true
 rw [List.all_append, List.all_cons, hs _ h1, hs _ h2]
 show (true && (cs.all (PV.closed 10) && true)) = true
 rw [Ne0 hc]; rfl
theorem NjR {st : St} {key : Nat} {pre post : List PV} {sz n : Nat} {cs : List PV} (h1 : pre.all PV.scal = true) (h2 : post.all PV.scal = true) : Nau st key (.tup (pre ++ .osl sz n cs :: post)) = some (.tup (pre ++ .rsl key sz 0 n :: post), st.put key (some (.cells cs false))) := by
 have hn : (pre ++ PV.und :: post).all (fun v => v.isO.isNone) = true := by
  have hs : ∀ l : List PV, l.all PV.scal = true → l.all (fun v => v.isO.isNone) = true := by
   intro l h
   rw [List.all_eq_true] at h ⊢
   exact fun x hx => by rw [Ned (h x hx)]; rfl
  rw [List.all_append, List.all_cons, hs _ h1, hs _ h2]; rfl
 unfold Nau
 simp only [Ngj h1, Nmb, hn, if_true]
theorem NgS {pre post : List PV} (h1 : pre.all PV.scal = true) (h2 : post.all PV.scal = true) : PV.closedB (.tup (pre ++ .nsl :: post)) = true := by
 have hs : ∀ l : List PV, l.all PV.scal = true → l.all (PV.closed 11) = true := by
  intro l h
  rw [List.all_eq_true] at h ⊢
  exact fun x hx => Nex (h x hx)
 show (pre ++ .nsl :: post).all (PV.closed 11) = true
 rw [List.all_append, List.all_cons, hs _ h1, hs _ h2]; rfl
theorem NjA {st : St} {key : Nat} {pre post : List PV} (h1 : pre.all PV.scal = true) (h2 : post.all PV.scal = true) : Nau st key (.tup (pre ++ .nsl :: post)) = some (.tup (pre ++ .nsl :: post), st) := by
 have hf : Nb5 (pre ++ .nsl :: post) = none := by
  induction pre with
  | nil => simp only [List.nil_append, Nb5, PV.isO, Neo h2, Option.map_none]
  | cons v l ih =>
    simp only [List.all_cons, Bool.and_eq_true] at h1
    simp only [List.cons_append, Nb5, Ned h1.1, ih h1.2, Option.map_none]
 unfold Nau
 simp only [hf]
theorem Nd9 {g : List PV → Option PV} {st : St} {key sz n : Nat} {ps ps' pre post cs : List PV} {r : PV} {Q : PV → St → Prop} (hd : NaW st ps = some ps') (hg : g ps' = some (.tup (pre ++ r :: post))) (ho : OutV r sz n cs) (h1 : pre.all PV.scal = true) (h2 : post.all PV.scal = true) (hc : clO cs = true) (hl : cs.length = n * sz) (hk : key < st.cnt)
 (q : ∀ v' st', Own st' sz v' n cs → (∀ j, j ∈ keyOf v' → j = key) → st'.cnt = st.cnt → (∀ j, j ≠ key → st'.get j = st.get j) → Q (.tup (pre ++ v' :: post)) st') : WV (Nae g false st key ps) Q := by
 rcases ho with ⟨rfl, rfl, rfl⟩ | rfl
 ·refine ⟨_, st, ?_, q .nsl st (Own.nil _ _) (fun j hj => by simp [keyOf] at hj) rfl (fun _ _ => rfl)⟩
  unfold Nae
  simp only [hd, hg, NgS h1 h2, if_true, NjA h1 h2]
 ·refine ⟨_, st.put key (some (.cells cs false)), ?_, q (.rsl key sz 0 n) _ (.inr ⟨key, rfl, St.get_putk _ _ _, hl, hk⟩) (fun j hj => by simpa [keyOf] using hj) rfl (fun j hj => St.get_put_ne fun e => hj e.symm)⟩
  unfold Nae
  simp only [hd, hg, Nhu h1 h2 hc, if_true, NjR h1 h2]
theorem Nk6 {g : List PV → Option PV} {st : St} {key sz n : Nat} {ps ps' cs : List PV} {r : PV} {Q : PV → St → Prop} (hd : NaW st ps = some ps') (hg : g ps' = some r) (ho : OutV r sz n cs) (hc : clO cs = true) (hl : cs.length = n * sz) (hk : key < st.cnt)
 (q : ∀ v' st', Own st' sz v' n cs → (∀ j, j ∈ keyOf v' → j = key) → st'.cnt = st.cnt → (∀ j, j ≠ key → st'.get j = st.get j) → Q v' st') : WV (Nae g false st key ps) Q := by
 rcases ho with ⟨rfl, rfl, rfl⟩ | rfl
 ·refine ⟨_, st, ?_, q .nsl st (Own.nil _ _) (fun j hj => by simp [keyOf] at hj) rfl (fun _ _ => rfl)⟩
  unfold Nae
  simp only [hd, hg, Nau]
  simp only [show PV.nsl.closedB = true from rfl, if_true]
 ·have hcl : (PV.osl sz n cs).closedB = true := Ne0 hc 10
  refine ⟨_, st.put key (some (.cells cs false)), ?_, q (.rsl key sz 0 n) _ (.inr ⟨key, rfl, St.get_putk _ _ _, hl, hk⟩) (fun j hj => by simpa [keyOf] using hj) rfl (fun j hj => St.get_put_ne fun e => hj e.symm)⟩
  unfold Nae
  simp only [hd, hg, hcl, if_true, Nau]
def Nqs (v : PV) (n : Nat) (cs : List PV) : PV := match v with
 | .nsl => .nsl
 | _ => .fsl n cs
theorem Own.deepO {st : St} {sz n : Nat} {v : PV} {cs : List PV} (h : Own st sz v n cs) (hf : cs.all PV.flat = true) : Go.Pe.deep st 12 v = some (Nqs v n cs) := by
 have h0 := h
 rcases h with ⟨rfl, rfl, h2⟩ | ⟨k, rfl, _⟩
 ·rfl
 ·rcases h0.deep hf with ⟨h3, _⟩ | h3
  ·simp at h3
  ·rw [h3]; rfl
theorem Ngi (L : List UInt8) : clO (Nab L) = true := by
 unfold clO
 rw [List.all_eq_true]
 intro p hp
 simp only [Nab, List.mem_map] at hp
 obtain ⟨c, _, rfl⟩ := hp
 rfl
theorem Na9 (n : Nat) (cs : List PV) : NeU (.fsl n cs) = some (.i .i64 n) := rfl
theorem Nba (a b c n : Nat) : NeU (.rsl a b c n) = some (.i .i64 n) := rfl
theorem Na8 : NeU .nsl = some (.i .i64 ((0 : Nat) : Int)) := rfl
theorem Own.over {s0 st st' : St} {key sz n : Nat} {v : PV} {cs : List PV} (h : Own s0 sz v n cs) (f : ∀ j, j ≠ key → st'.get j = st.get j) (hs : st.sto = s0.sto) (hk : s0.cnt ≤ key) (hc : s0.cnt ≤ st'.cnt) : Own st' sz v n cs :=
 h.move hc fun j hj hj2 => by
  rw [f j (by omega)]
  unfold St.get
  rw [hs]
theorem NcQ {st : St} {w v : PV} (h : Go.Pe.deep st 12 w = some v) : NaW st [w] = some [v] := by
 have h' : Go.Pe.deep st Nco w = some v := h
 unfold NaW
 simp only [mapO, h']
theorem Ndi {st : St} {w1 v1 w2 v2 : PV} (h1 : Go.Pe.deep st 12 w1 = some v1) (h2 : Go.Pe.deep st 12 w2 = some v2) : NaW st [w1, w2] = some [v1, v2] := by
 have h1' : Go.Pe.deep st Nco w1 = some v1 := h1
 have h2' : Go.Pe.deep st Nco w2 = some v2 := h2
 unfold NaW
 simp only [mapO, h1', h2']
end Go.Pe
