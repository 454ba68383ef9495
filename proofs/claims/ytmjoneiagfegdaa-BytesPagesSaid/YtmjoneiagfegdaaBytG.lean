/-
  Pages: plain mathematics; page and like by the interpreter of plain data. No condition.
-/
import Derived.Test.YtmjoneiagfegdaaBytB
import Derived.Test.YtmjoneiagfegdaaPe9
set_option linter.unusedVariables false
set_option linter.unusedSimpArgs false
namespace Go.Pe
open Go Go.Am Go.RowKit

structure En where
  K : UInt8
  N : Nat
  B : List UInt8
  deriving DecidableEq
def En.none : En := ⟨0, 0, []⟩
def EnIn (e : En) : Prop := e.N < 18446744073709551616 ∧ e.B.length ≤ 1000
def enC (e : En) : List PV := [.i .u8 (e.K.toNat : Int), .i .u64 (e.N : Int), .fsl e.B.length (ofBytes e.B)]
def ensC (l : List En) : List PV := l.flatMap enC
theorem ensC_len : ∀ l : List En, (ensC l).length = l.length * 3
  | [] => rfl
  | e :: r => by
    have : ensC (e :: r) = enC e ++ ensC r := rfl
    rw [this, List.length_append, ensC_len r, List.length_cons]
    show 3 + _ = _
    omega
theorem ensC_flat (l : List En) : (ensC l).all PV.flat = true := by
  rw [List.all_eq_true]
  intro p hp
  simp only [ensC, List.mem_flatMap] at hp
  obtain ⟨e, _, h⟩ := hp
  simp only [enC, List.mem_cons, List.not_mem_nil, or_false] at h
  rcases h with rfl | rfl | rfl <;> rfl
theorem ensC_one (l : List En) : (ensC l).all PV.one = true := by
  rw [List.all_eq_true]
  intro p hp
  simp only [ensC, List.mem_flatMap] at hp
  obtain ⟨e, _, h⟩ := hp
  simp only [enC, List.mem_cons, List.not_mem_nil, or_false] at h
  rcases h with rfl | rfl | rfl <;> rfl
theorem ensC_app (l m : List En) : ensC (l ++ m) = ensC l ++ ensC m := by unfold ensC; rw [List.flatMap_append]
theorem ens_at : ∀ {l : List En} {i : Nat}, i < l.length → ((ensC l).drop (i * 3)).take 3 = enC (l.getD i .none)
  | [], i, h => by simp at h
  | e :: r, 0, _ => by
    show ((enC e ++ ensC r).drop 0).take 3 = _
    rfl
  | e :: r, i + 1, h => by
    have : ensC (e :: r) = enC e ++ ensC r := rfl
    rw [this, List.drop_append, show (enC e).length = 3 from rfl, List.drop_of_length_le (by show 3 ≤ _; omega), List.nil_append, show (i + 1) * 3 - 3 = i * 3 by omega, ens_at (l := r) (i := i) (by simpa using h)]
    rfl
theorem load_en {st : St} {l : List En} {i : Nat} (hi : i < l.length) : loadP st 3 (.fptr ((ensC l).drop (i * 3))) = some (enC (l.getD i .none)) := by
  show cut? _ 0 3 = _
  unfold cut?
  rw [if_pos (by rw [List.length_drop, ensC_len]; omega), List.drop_zero, ens_at hi]
def ensOf : List PV → Option (List En)
  | [] => some []
  | .i .u8 k :: .i .u64 n :: .fsl m bs :: r => match bytesOf? bs with
    | some b => if 0 ≤ k ∧ k < 256 ∧ 0 ≤ n ∧ n < 18446744073709551616 ∧ m = b.length ∧ b.length ≤ 1000 then (ensOf r).map (⟨UInt8.ofNat k.toNat, n.toNat, b⟩ :: ·) else none
    | none => none
  | _ => none
theorem ensOf_ensC : ∀ {l : List En}, (∀ e ∈ l, EnIn e) → ensOf (ensC l) = some l
  | [], _ => rfl
  | e :: r, h => by
    have h1 := h e (by simp)
    have hk := e.K.toNat_lt
    show ensOf (.i .u8 (e.K.toNat : Int) :: .i .u64 (e.N : Int) :: .fsl e.B.length (ofBytes e.B) :: ensC r) = _
    rw [ensOf]
    simp only [bytesOf_of]
    rw [if_pos ⟨by omega, by omega, by omega, by have := h1.1; omega, trivial, h1.2⟩, ensOf_ensC (l := r) fun e he => h e (by simp [he])]
    simp
theorem ensC_ensOf : ∀ {cs : List PV} {l : List En}, ensOf cs = some l → cs = ensC l ∧ ∀ e ∈ l, EnIn e
  | cs, l, h => by
    unfold ensOf at h
    split at h
    · simp only [Option.some.injEq] at h
      subst h
      exact ⟨rfl, by simp⟩
    · rename_i k n m bs r
      split at h
      · rename_i b hb
        split at h
        · rename_i hc
          simp only [Option.map_eq_some_iff] at h
          obtain ⟨l', h1, rfl⟩ := h
          obtain ⟨q1, q2⟩ := ensC_ensOf h1
          refine ⟨?_, ?_⟩
          · show _ = .i .u8 (((UInt8.ofNat k.toNat).toNat : Nat) : Int) :: .i .u64 ((n.toNat : Nat) : Int) :: .fsl b.length (ofBytes b) :: ensC l'
            rw [← q1, UInt8.toNat_ofNat', of_bytesOf hb, hc.2.2.2.2.1, show ((k.toNat % 2 ^ 8 : Nat) : Int) = k by omega, show ((n.toNat : Nat) : Int) = n by omega]
          · intro e he
            rcases List.mem_cons.1 he with rfl | he
            · exact ⟨by show n.toNat < _; omega, hc.2.2.2.2.2⟩
            · exact q2 e he
        · cases h
      · cases h
    · cases h
  termination_by cs => cs.length
  decreasing_by all_goals (simp_wf; subst_vars; simp; omega)
def inEn : PV → Option (List En)
  | .nsl => some []
  | .fsl n cs => match ensOf cs with
    | some l => if n = l.length then some l else none
    | none => none
  | _ => none
theorem inEn_fsl {l : List En} (h : ∀ e ∈ l, EnIn e) : inEn (.fsl l.length (ensC l)) = some l := by
  unfold inEn
  simp only [ensOf_ensC h, if_true]
theorem inEn_cases {v : PV} {l : List En} (h : inEn v = some l) : (v = .nsl ∧ l = [] ∨ v = .fsl l.length (ensC l)) ∧ ∀ e ∈ l, EnIn e := by
  unfold inEn at h
  split at h
  · cases h; exact ⟨.inl ⟨rfl, rfl⟩, by simp⟩
  · split at h
    · rename_i l' hl
      obtain ⟨q1, q2⟩ := ensC_ensOf hl
      split at h
      · rename_i hn
        cases h
        exact ⟨.inr (by rw [← q1, ← hn]), q2⟩
      · cases h
    · cases h
  · cases h
def item (e : En) : List UInt8 := if e.K.toNat % 3 = 0 then varint e.N else if e.K.toNat % 3 = 1 then varint (foldN (IntKind.i64.wrap (e.N : Int))) else varint e.B.length ++ e.B
def pageL (l : List En) : List UInt8 := l.flatMap item
def likeE (x y : En) : Bool := if x.K.toNat % 3 = 2 then x.B == y.B else x.N == y.N
theorem item_len (e : En) : 1 ≤ (item e).length ∧ (item e).length ≤ 10 + e.B.length := by
  unfold item
  split
  · exact ⟨varint_pos _, Nat.le_trans (varint_le _) (by omega)⟩
  split
  · exact ⟨varint_pos _, Nat.le_trans (varint_le _) (by omega)⟩
  · have h1 := varint_pos e.B.length
    have h2 := varint_le e.B.length
    rw [List.length_append]; omega
theorem pageL_len : ∀ {l : List En}, (∀ e ∈ l, EnIn e) → (pageL l).length ≤ l.length * 1010
  | [], _ => by simp [pageL]
  | e :: r, h => by
    have h1 := item_len e
    have h2 := pageL_len (l := r) fun e he => h e (by simp [he])
    have h3 := (h e (by simp)).2
    have : pageL (e :: r) = item e ++ pageL r := rfl
    rw [this, List.length_append, List.length_cons]
    omega
theorem wrapN_in (n : Nat) : in64 (IntKind.i64.wrap (n : Int)) := by
  unfold in64
  rw [IntKind.wrap_i64]; omega
theorem wrapN_inj {a b : Nat} (ha : a < 18446744073709551616) (hb : b < 18446744073709551616) (h : IntKind.i64.wrap (a : Int) = IntKind.i64.wrap (b : Int)) : a = b := by
  simp only [IntKind.wrap_i64] at h; omega
theorem varint_inj2 {a b : Nat} (ha : a < 18446744073709551616) (hb : b < 18446744073709551616) {r s : List UInt8} (h : varint a ++ r = varint b ++ s) : a = b ∧ r = s := by
  have h1 := parse_varint ha r
  rw [h, parse_varint hb s] at h1
  have e : a = b := (Prod.mk.inj h1).1.symm
  subst e
  exact ⟨rfl, List.append_cancel_left h⟩
theorem item_inj {x y : En} (hk : x.K = y.K) (hx : EnIn x) (hy : EnIn y) {r s : List UInt8} (h : item x ++ r = item y ++ s) : likeE x y = true ∧ r = s := by
  unfold item at h
  unfold likeE
  rw [← hk] at h
  by_cases h0 : x.K.toNat % 3 = 0
  · rw [if_pos h0, if_pos h0] at h
    obtain ⟨e, q⟩ := varint_inj2 hx.1 hy.1 h
    rw [if_neg (by omega)]
    exact ⟨by simpa using e, q⟩
  rw [if_neg h0, if_neg h0] at h
  by_cases h1 : x.K.toNat % 3 = 1
  · rw [if_pos h1, if_pos h1] at h
    obtain ⟨e, q⟩ := varint_inj2 (foldN_lt (wrapN_in _)) (foldN_lt (wrapN_in _)) h
    have e2 := congrArg openI e
    rw [openI_foldN, openI_foldN] at e2
    rw [if_neg (by omega)]
    exact ⟨by simpa using wrapN_inj hx.1 hy.1 e2, q⟩
  rw [if_neg h1, if_neg h1, List.append_assoc, List.append_assoc] at h
  have l1 := hx.2
  have l2 := hy.2
  obtain ⟨e, q⟩ := varint_inj2 (by omega) (by omega) h
  obtain ⟨e2, q2⟩ := List.append_inj q e
  rw [if_pos (by omega)]
  exact ⟨by simpa using e2, q2⟩
theorem item_like {x y : En} (hk : x.K = y.K) (h : likeE x y = true) : item x = item y := by
  unfold likeE at h
  unfold item
  rw [← hk]
  by_cases h2 : x.K.toNat % 3 = 2
  · rw [if_pos h2] at h
    have : x.B = y.B := by simpa using h
    rw [this, if_neg (by omega), if_neg (by omega), if_neg (by omega), if_neg (by omega)]
  · rw [if_neg h2] at h
    have : x.N = y.N := by simpa using h
    rw [this]
    by_cases h0 : x.K.toNat % 3 = 0
    · rw [if_pos h0, if_pos h0]
    · rw [if_neg h0, if_neg h0, if_pos (by omega), if_pos (by omega)]
theorem page_inj : ∀ {l m : List En}, l.map En.K = m.map En.K → (∀ e ∈ l, EnIn e) → (∀ e ∈ m, EnIn e) → (pageL l == pageL m) = (l.zip m).all fun p => likeE p.1 p.2
  | [], [], _, _, _ => rfl
  | [], _ :: _, h, _, _ => by simp at h
  | _ :: _, [], h, _, _ => by simp at h
  | x :: l, y :: m, h, hl, hm => by
    simp only [List.map_cons, List.cons.injEq] at h
    have ih := page_inj h.2 (fun e he => hl e (by simp [he])) (fun e he => hm e (by simp [he]))
    simp only [List.zip_cons_cons, List.all_cons]
    rw [← ih, Bool.eq_iff_iff]
    simp only [beq_iff_eq, Bool.and_eq_true]
    constructor
    · intro e
      exact item_inj h.1 (hl x (by simp)) (hm y (by simp)) e
    · rintro ⟨e1, e2⟩
      show item x ++ pageL l = item y ++ pageL m
      rw [item_like h.1 e1, e2]
theorem WV_callOut {g : List PV → Option PV} {st : St} {key : Nat} {v : PV} {l l' : List UInt8} {rest : List PV} {Q : PV → St → Prop} (ho : OutOK st v l) (hr : rest.all PV.flat = true) (hg : ∀ v', outL v' = some l → g (v' :: rest) = some (.osl 1 l'.length (ofBytes l'))) (hk : key < st.cnt)
    (q : ∀ st', OutOK st' (.rsl key 1 0 l'.length) l' → st'.cnt = st.cnt → (∀ j, j ≠ key → (∀ a b c, v ≠ .rsl j a b c) → st'.get j = st.get j) → Q (.rsl key 1 0 l'.length) st') : WV (callStep g true st key (v :: rest)) Q := by
  obtain ⟨st', h1, h2, h3, h4⟩ := call_out ho hr hg
  exact ⟨_, st', h1, q st' (.inr ⟨key, rfl, h2, by omega⟩) h3 h4⟩
end Go.Pe
