/-
  Calls by value that hand out a list beside plain data, in runs over plain data. No condition; nothing of the program.
-/
import Derived.Test.YtjnofhibldppoaaPe8
set_option linter.unusedVariables false
set_option linter.unusedSimpArgs false
namespace Go.Pe
open Go

def PV.scal : PV → Bool
  | .i .. | .b _ | .s _ => true
  | _ => false
def OutV (r : PV) (sz n : Nat) (cs : List PV) : Prop := (r = .nsl ∧ n = 0 ∧ cs = []) ∨ r = .osl sz n cs
theorem OutV.nil (sz : Nat) : OutV .nsl sz 0 [] := .inl ⟨rfl, rfl, rfl⟩
theorem OutV.osl (sz n : Nat) (cs : List PV) : OutV (.osl sz n cs) sz n cs := .inr rfl
theorem closed_scal {n : Nat} {v : PV} (h : v.scal = true) : PV.closed (n + 1) v = true := by
  cases v <;> first | (simp [PV.scal] at h; done) | rfl
theorem closed_flatN {n : Nat} {v : PV} (h : v.flat = true) (hs : ∀ m cs, v ≠ .fsl m cs) : PV.closed (n + 1) v = true := by
  cases v <;> first | (simp [PV.flat] at h; done) | rfl | (rename_i m cs; exact absurd rfl (hs m cs))
theorem isO_scal {v : PV} (h : v.scal = true) : v.isO = none := by
  cases v <;> first | (simp [PV.scal] at h; done) | rfl
theorem firstO_scal : ∀ {l : List PV}, l.all PV.scal = true → firstO l = none
  | [], _ => rfl
  | v :: l, h => by
    simp only [List.all_cons, Bool.and_eq_true] at h
    simp only [firstO, isO_scal h.1, firstO_scal h.2, Option.map_none]
theorem firstO_at : ∀ {pre post : List PV} {sz n : Nat} {cs : List PV}, pre.all PV.scal = true → firstO (pre ++ .osl sz n cs :: post) = some (pre.length, sz, n, cs)
  | [], post, sz, n, cs, _ => rfl
  | v :: l, post, sz, n, cs, h => by
    simp only [List.all_cons, Bool.and_eq_true] at h
    simp only [List.cons_append, firstO, isO_scal h.1, firstO_at h.2, Option.map_some, List.length_cons]
theorem set_at : ∀ {pre post : List PV} {x y : PV}, (pre ++ x :: post).set pre.length y = pre ++ y :: post
  | [], post, x, y => rfl
  | v :: l, post, x, y => by simp only [List.cons_append, List.length_cons, List.set_cons_succ, set_at]
def PV.leafB : PV → Bool
  | .i .. | .b _ | .s _ | .nsl => true
  | _ => false
def clO (cs : List PV) : Bool := cs.all PV.leafB
theorem closed_clO {cs : List PV} (h : clO cs = true) (n : Nat) : cs.all (PV.closed (n + 1)) = true := by
  unfold clO at h
  rw [List.all_eq_true] at h ⊢
  intro x hx
  have := h x hx
  cases x <;> first | (simp [PV.leafB] at this; done) | rfl
theorem flat_clO {cs : List PV} (h : clO cs = true) : cs.all PV.flat = true := by
  unfold clO at h
  rw [List.all_eq_true] at h ⊢
  intro x hx
  have := h x hx
  cases x <;> first | (simp [PV.leafB] at this; done) | rfl
theorem closed_tupO {pre post : List PV} {sz n : Nat} {cs : List PV} (h1 : pre.all PV.scal = true) (h2 : post.all PV.scal = true) (hc : clO cs = true) : PV.closedB (.tup (pre ++ .osl sz n cs :: post)) = true := by
  have hs : ∀ l : List PV, l.all PV.scal = true → l.all (PV.closed 11) = true := by
    intro l h
    rw [List.all_eq_true] at h ⊢
    exact fun x hx => closed_scal (h x hx)
  show (pre ++ .osl sz n cs :: post).all (PV.closed 11) = true
  rw [List.all_append, List.all_cons, hs _ h1, hs _ h2]
  show (true && (cs.all (PV.closed 10) && true)) = true
  rw [closed_clO hc]; rfl
theorem recv_tupO {st : St} {key : Nat} {pre post : List PV} {sz n : Nat} {cs : List PV} (h1 : pre.all PV.scal = true) (h2 : post.all PV.scal = true) : recvRes st key (.tup (pre ++ .osl sz n cs :: post)) = some (.tup (pre ++ .rsl key sz 0 n :: post), st.put key (some (.cells cs false))) := by
  have hn : (pre ++ PV.und :: post).all (fun v => v.isO.isNone) = true := by
    have hs : ∀ l : List PV, l.all PV.scal = true → l.all (fun v => v.isO.isNone) = true := by
      intro l h
      rw [List.all_eq_true] at h ⊢
      exact fun x hx => by rw [isO_scal (h x hx)]; rfl
    rw [List.all_append, List.all_cons, hs _ h1, hs _ h2]; rfl
  unfold recvRes
  simp only [firstO_at h1, set_at, hn, if_true]
theorem closed_tupN {pre post : List PV} (h1 : pre.all PV.scal = true) (h2 : post.all PV.scal = true) : PV.closedB (.tup (pre ++ .nsl :: post)) = true := by
  have hs : ∀ l : List PV, l.all PV.scal = true → l.all (PV.closed 11) = true := by
    intro l h
    rw [List.all_eq_true] at h ⊢
    exact fun x hx => closed_scal (h x hx)
  show (pre ++ .nsl :: post).all (PV.closed 11) = true
  rw [List.all_append, List.all_cons, hs _ h1, hs _ h2]; rfl
theorem recv_tupN {st : St} {key : Nat} {pre post : List PV} (h1 : pre.all PV.scal = true) (h2 : post.all PV.scal = true) : recvRes st key (.tup (pre ++ .nsl :: post)) = some (.tup (pre ++ .nsl :: post), st) := by
  have hf : firstO (pre ++ .nsl :: post) = none := by
    induction pre with
    | nil => simp only [List.nil_append, firstO, PV.isO, firstO_scal h2, Option.map_none]
    | cons v l ih =>
      simp only [List.all_cons, Bool.and_eq_true] at h1
      simp only [List.cons_append, firstO, isO_scal h1.1, ih h1.2, Option.map_none]
  unfold recvRes
  simp only [hf]
theorem WV_callT {g : List PV → Option PV} {st : St} {key sz n : Nat} {ps ps' pre post cs : List PV} {r : PV} {Q : PV → St → Prop} (hd : deepL st ps = some ps') (hg : g ps' = some (.tup (pre ++ r :: post))) (ho : OutV r sz n cs) (h1 : pre.all PV.scal = true) (h2 : post.all PV.scal = true) (hc : clO cs = true) (hl : cs.length = n * sz) (hk : key < st.cnt)
    (q : ∀ v' st', Own st' sz v' n cs → (∀ j, j ∈ keyOf v' → j = key) → st'.cnt = st.cnt → (∀ j, j ≠ key → st'.get j = st.get j) → Q (.tup (pre ++ v' :: post)) st') : WV (callStep g false st key ps) Q := by
  rcases ho with ⟨rfl, rfl, rfl⟩ | rfl
  · refine ⟨_, st, ?_, q .nsl st (Own.nil _ _) (fun j hj => by simp [keyOf] at hj) rfl (fun _ _ => rfl)⟩
    unfold callStep
    simp only [hd, hg, closed_tupN h1 h2, if_true, recv_tupN h1 h2]
  · refine ⟨_, st.put key (some (.cells cs false)), ?_, q (.rsl key sz 0 n) _ (.inr ⟨key, rfl, St.get_putk _ _ _, hl, hk⟩) (fun j hj => by simpa [keyOf] using hj) rfl (fun j hj => St.get_put_ne fun e => hj e.symm)⟩
    unfold callStep
    simp only [hd, hg, closed_tupO h1 h2 hc, if_true, recv_tupO h1 h2]
theorem WV_callV {g : List PV → Option PV} {st : St} {key sz n : Nat} {ps ps' cs : List PV} {r : PV} {Q : PV → St → Prop} (hd : deepL st ps = some ps') (hg : g ps' = some r) (ho : OutV r sz n cs) (hc : clO cs = true) (hl : cs.length = n * sz) (hk : key < st.cnt)
    (q : ∀ v' st', Own st' sz v' n cs → (∀ j, j ∈ keyOf v' → j = key) → st'.cnt = st.cnt → (∀ j, j ≠ key → st'.get j = st.get j) → Q v' st') : WV (callStep g false st key ps) Q := by
  rcases ho with ⟨rfl, rfl, rfl⟩ | rfl
  · refine ⟨_, st, ?_, q .nsl st (Own.nil _ _) (fun j hj => by simp [keyOf] at hj) rfl (fun _ _ => rfl)⟩
    unfold callStep
    simp only [hd, hg, recvRes]
    simp only [show PV.nsl.closedB = true from rfl, if_true]
  · have hcl : (PV.osl sz n cs).closedB = true := closed_clO hc 10
    refine ⟨_, st.put key (some (.cells cs false)), ?_, q (.rsl key sz 0 n) _ (.inr ⟨key, rfl, St.get_putk _ _ _, hl, hk⟩) (fun j hj => by simpa [keyOf] using hj) rfl (fun j hj => St.get_put_ne fun e => hj e.symm)⟩
    unfold callStep
    simp only [hd, hg, hcl, if_true, recvRes]
def valO (v : PV) (n : Nat) (cs : List PV) : PV := match v with
  | .nsl => .nsl
  | _ => .fsl n cs
theorem Own.deepO {st : St} {sz n : Nat} {v : PV} {cs : List PV} (h : Own st sz v n cs) (hf : cs.all PV.flat = true) : Go.Pe.deep st 12 v = some (valO v n cs) := by
  have h0 := h
  rcases h with ⟨rfl, rfl, h2⟩ | ⟨k, rfl, _⟩
  · rfl
  · rcases h0.deep hf with ⟨h3, _⟩ | h3
    · simp at h3
    · rw [h3]; rfl
def outO (v : PV) (sz n : Nat) (cs : List PV) : PV := match v with
  | .nsl => .nsl
  | _ => .osl sz n cs
theorem whole_scal {st : St} {v : PV} (h : v.scal = true) : whole? st v = none := by
  cases v <;> first | (simp [PV.scal] at h; done) | rfl
theorem fw_scal {st : St} : ∀ {l : List PV}, l.all PV.scal = true → firstWhole st l = none
  | [], _ => rfl
  | v :: l, h => by
    simp only [List.all_cons, Bool.and_eq_true] at h
    simp only [firstWhole, whole_scal h.1, fw_scal h.2, Option.map_none]
theorem fw_at {st : St} {v : PV} {x : Nat × Nat × Nat × List PV} (hw : whole? st v = some x) : ∀ {pre post : List PV}, pre.all PV.scal = true → firstWhole st (pre ++ v :: post) = some (pre.length, x)
  | [], post, _ => by simp only [List.nil_append, firstWhole, hw]; rfl
  | u :: l, post, h => by
    simp only [List.all_cons, Bool.and_eq_true] at h
    simp only [List.cons_append, firstWhole, whole_scal h.1, fw_at hw h.2, Option.map_some, List.length_cons]
theorem scal_flat {l : List PV} (h : l.all PV.scal = true) : l.all PV.flat = true := by
  rw [List.all_eq_true] at h ⊢
  intro x hx
  have := h x hx
  cases x <;> first | (simp [PV.scal] at this; done) | rfl
theorem close_tupO {st : St} {pre post cs : List PV} {sz n : Nat} {v : PV} (h : Own st sz v n cs) (h1 : pre.all PV.scal = true) (h2 : post.all PV.scal = true) (hc : clO cs = true) (hs : 0 < sz) : closeRes st (.tup (pre ++ v :: post)) = some (.tup (pre ++ outO v sz n cs :: post)) := by
  have hu : (pre ++ PV.und :: post).all PV.flat = true := by
    rw [List.all_append, List.all_cons, scal_flat h1, scal_flat h2]; rfl
  rcases h with ⟨rfl, rfl, rfl⟩ | ⟨k, rfl, hk, hl, _⟩
  · have hf : firstWhole st (pre ++ .nsl :: post) = none := by
      clear hu
      induction pre with
      | nil => simp only [List.nil_append, firstWhole, whole?, fw_scal h2, Option.map_none]
      | cons u l ih =>
        simp only [List.all_cons, Bool.and_eq_true] at h1
        simp only [List.cons_append, firstWhole, whole_scal h1.1, ih h1.2, Option.map_none]
    have hfl : (pre ++ PV.nsl :: post).all PV.flat = true := by
      rw [List.all_append, List.all_cons, scal_flat h1, scal_flat h2]; rfl
    unfold closeRes
    simp only [hf, deepL_flat hfl]
    rfl
  · have hw : whole? st (.rsl k sz 0 n) = some (k, sz, n, cs) := by
      unfold whole?
      simp only [hk]
      rw [if_pos ⟨trivial, hl, hs⟩]
    unfold closeRes
    simp only [fw_at hw h1, set_at, keysL_flat (flat_clO hc), keysL_flat hu, deepL_flat (flat_clO hc), deepL_flat hu]
    rfl
theorem clO_bytes (L : List UInt8) : clO (ofBytes L) = true := by
  unfold clO
  rw [List.all_eq_true]
  intro p hp
  simp only [ofBytes, List.mem_map] at hp
  obtain ⟨c, _, rfl⟩ := hp
  rfl
theorem u32_wf {x : Int} (h : (Lit.int .u32 x).wf = true) : 0 ≤ x ∧ x < 4294967296 := by
  simp [Lit.wf, IntKind.min, IntKind.max, IntKind.signed, IntKind.bits] at h
  omega
theorem eqb_same (a : Bool) : eqbP false (.b a) (.b a) = some (.b true) := by cases a <;> rfl
theorem len_f (n : Nat) (cs : List PV) : lenP (.fsl n cs) = some (.i .i64 n) := rfl
theorem len_r (a b c n : Nat) : lenP (.rsl a b c n) = some (.i .i64 n) := rfl
theorem len_n : lenP .nsl = some (.i .i64 ((0 : Nat) : Int)) := rfl
theorem Own.over {s0 st st' : St} {key sz n : Nat} {v : PV} {cs : List PV} (h : Own s0 sz v n cs) (f : ∀ j, j ≠ key → st'.get j = st.get j) (hs : st.sto = s0.sto) (hk : s0.cnt ≤ key) (hc : s0.cnt ≤ st'.cnt) : Own st' sz v n cs :=
  h.move hc fun j hj hj2 => by
    rw [f j (by omega)]
    unfold St.get
    rw [hs]
theorem deepL_one {st : St} {w v : PV} (h : Go.Pe.deep st 12 w = some v) : deepL st [w] = some [v] := by
  have h' : Go.Pe.deep st deepN w = some v := h
  unfold deepL
  simp only [mapO, h']
theorem deepL_two {st : St} {w1 v1 w2 v2 : PV} (h1 : Go.Pe.deep st 12 w1 = some v1) (h2 : Go.Pe.deep st 12 w2 = some v2) : deepL st [w1, w2] = some [v1, v2] := by
  have h1' : Go.Pe.deep st deepN w1 = some v1 := h1
  have h2' : Go.Pe.deep st deepN w2 = some v2 := h2
  unfold deepL
  simp only [mapO, h1', h2']
end Go.Pe
