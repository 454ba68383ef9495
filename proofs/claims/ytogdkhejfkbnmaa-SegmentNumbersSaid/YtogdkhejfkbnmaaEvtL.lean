/-
  Events: what is framed is read, what is read was framed. Plain mathematics. No condition.
-/
import Derived.Test.YtogdkhejfkbnmaaEvtH
import Derived.Test.YtogdkhejfkbnmaaEvtA0
set_option linter.unusedVariables false
set_option linter.unusedSimpArgs false
namespace Go.Pe
open Go Go.Am Go.RowKit

def EvIn (e : Ev) : Prop := in64 e.T ∧ in64 e.J ∧ in64 e.A ∧ in64 e.B
def pt (x e : Ev) : List UInt8 := e.O :: (dInt x.T e.T ++ (dInt x.J e.J ++ (dInt x.A e.A ++ dInt x.B e.B)))
def pts (x : Ev) : List Ev → List UInt8
  | [] => []
  | e :: r => pt x e ++ pts e r
theorem putE_pt (acc : List UInt8) (x e : Ev) : putE acc x e = acc ++ pt x e := by
  unfold putE putL pt
  simp only [List.append_assoc, List.singleton_append]
  rfl
theorem putsL_pts (l : List Ev) : ∀ (acc : List UInt8) (x : Ev), putsL acc x l = acc ++ pts x l := by
  induction l with
  | nil => intro acc x; show acc = acc ++ []; simp
  | cons e r ih =>
    intro acc x
    show putsL (putE acc x e) e r = acc ++ (pt x e ++ pts e r)
    rw [ih, putE_pt, List.append_assoc]
theorem wrap_back {x e : Int} (h : in64 e) : IntKind.i64.wrap (x + IntKind.i64.wrap (e - x)) = e := by
  unfold in64 at h
  simp only [IntKind.wrap_i64]
  omega
theorem wrap_forth {x e : Int} (h : in64 e) : IntKind.i64.wrap (IntKind.i64.wrap (x + e) - x) = e := by
  unfold in64 at h
  simp only [IntKind.wrap_i64]
  omega
theorem drop_more {xs l rest : List UInt8} {a : Nat} (h : xs.drop a = l ++ rest) : xs.drop (a + l.length) = rest := by
  rw [← List.drop_drop, h, List.drop_left]
theorem drop_le {xs l rest : List UInt8} {a : Nat} (h : xs.drop a = l ++ rest) (ha : a ≤ xs.length) : a + l.length ≤ xs.length := by
  have := congrArg List.length h
  simp only [List.length_drop, List.length_append] at this
  omega
theorem getSt_put {xs rest : List UInt8} {a : Nat} {x e : Int} (h : xs.drop a = dInt x e ++ rest) (ha : a ≤ xs.length) (he : in64 e) : getSt xs x ((a : Int), 0) = (e, ((a + (dInt x e).length : Nat) : Int), 0) := by
  unfold dInt at h ⊢
  have hg := getU_varint h ha (foldN_lt (wrap_in _))
  unfold getSt getI
  simp only [hg, if_true, openI_foldN, wrap_back he, Int.natCast_add]
theorem getE_put {xs rest : List UInt8} {a : Nat} {x e : Ev} (h : xs.drop a = pt x e ++ rest) (ha : a ≤ xs.length) (he : EvIn e) : getE xs a x = (e, ((a + (pt x e).length : Nat) : Int), 0) := by
  obtain ⟨h1, h2, h3, h4⟩ := he
  unfold pt at h ⊢
  simp only [List.cons_append, List.append_assoc] at h
  have hx : xs.drop a = [e.O] ++ (dInt x.T e.T ++ (dInt x.J e.J ++ (dInt x.A e.A ++ (dInt x.B e.B ++ rest)))) := h
  have d1 := drop_more hx
  have l1 := drop_le hx ha
  have d2 := drop_more d1
  have l2 := drop_le d1 l1
  have d3 := drop_more d2
  have l3 := drop_le d2 l2
  have d4 := drop_more d3
  have l4 := drop_le d3 l3
  have s1 := getSt_put d1 l1 h1
  have s2 := getSt_put d2 l2 h2
  have s3 := getSt_put d3 l3 h3
  have s4 := getSt_put d4 l4 h4
  have e1 : ((a + ([e.O] : List UInt8).length : Nat) : Int) = (a : Int) + 1 := rfl
  rw [e1] at s1
  have hO : xs.getD a 0 = e.O := by
    have := congrArg (fun l => l.getD 0 0) hx
    simpa [List.getD_eq_getElem?_getD] using this
  unfold getE
  have l1' : a < xs.length := by simp only [List.length_singleton] at l1; omega
  rw [if_neg (by omega), if_neg (by omega)]
  simp only [s1, s2, s3, s4, if_true, Int.toNat_natCast, hO]
  refine Prod.ext rfl (Prod.ext ?_ rfl)
  show (((a + ([e.O] : List UInt8).length + (dInt x.T e.T).length + (dInt x.J e.J).length + (dInt x.A e.A).length + (dInt x.B e.B).length : Nat)) : Int) = _
  simp only [List.length_cons, List.length_append, List.length_nil]
  omega
theorem readsL_put (l : List Ev) : ∀ {xs rest : List UInt8} {a : Nat} {x : Ev} (acc : List Ev), xs.drop a = pts x l ++ rest → a ≤ xs.length → (∀ e ∈ l, EvIn e) → readsL xs l.length a x acc = some (acc ++ l, ((a + (pts x l).length : Nat) : Int)) := by
  induction l with
  | nil => intro xs rest a x acc h ha he; show some (acc, (a : Int)) = some (acc ++ [], ((a + 0 : Nat) : Int)); simp
  | cons e r ih =>
    intro xs rest a x acc h ha he
    have hx : xs.drop a = pt x e ++ (pts e r ++ rest) := by rw [h]; show (pt x e ++ pts e r) ++ rest = _; rw [List.append_assoc]
    have hg := getE_put hx ha (he e (by simp))
    show (if (getE xs a x).2.2 = 0 then readsL xs r.length (getE xs a x).2.1 (getE xs a x).1 (acc ++ [(getE xs a x).1]) else none) = _
    rw [hg, if_pos rfl]
    rw [ih (acc ++ [e]) (drop_more hx) (drop_le hx ha) (fun q hq => he q (by simp [hq]))]
    have : pts x (e :: r) = pt x e ++ pts e r := rfl
    rw [this, List.append_assoc, List.singleton_append, List.length_append, Nat.add_assoc]
theorem eventsL_body {l : List Ev} (h1 : 1 ≤ l.length) (h2 : l.length ≤ 4096) (he : ∀ e ∈ l, EvIn e) : eventsL (bodyL l) = some (l, true) := by
  have hb : bodyL l = varint l.length ++ pts .zero l := putsL_pts l _ _
  have hg := getU_varint (xs := bodyL l) (a := 0) (n := l.length) (rest := pts .zero l) hb (Nat.zero_le _) (by omega)
  have hd : (bodyL l).drop (varint l.length).length = pts .zero l ++ [] := by rw [hb, List.drop_left, List.append_nil]
  have hr := readsL_put l [] hd (by rw [hb, List.length_append]; omega) he
  have hg' : getU (bodyL l) 0 = (l.length, ((varint l.length).length : Int), 0) := by rw [show (0 : Int) = ((0 : Nat) : Int) from rfl, hg]; simp
  unfold eventsL
  rw [hg', if_pos ⟨rfl, h1, h2⟩]
  simp only [hr, List.nil_append]
  rw [hb, List.length_append]
  simp
theorem bodyL_le {l : List Ev} (h2 : l.length ≤ 4096) : (bodyL l).length ≤ 167946 := by
  have q1 := putsL_len l (varint l.length) .zero
  have q2 := varint_le l.length
  unfold bodyL
  omega
theorem sealB_len (l : List UInt8) : (sealB l).length = l.length + 4 := by unfold sealB be4; simp
theorem frameL_len (l : List Ev) : (frameL l).length = (varint (bodyL l).length).length + ((bodyL l).length + 4) := by
  unfold frameL; rw [List.length_append, sealB_len]
theorem readL_frame {l : List Ev} (h1 : 1 ≤ l.length) (h2 : l.length ≤ 4096) (he : ∀ e ∈ l, EvIn e) {b rest : List UInt8} {a : Nat} (h : b.drop a = frameL l ++ rest) (ha : a ≤ b.length) : readL b a = .inl (l, ((a + (frameL l).length : Nat) : Int)) := by
  have hB := bodyL_le h2
  have hx : b.drop a = varint (bodyL l).length ++ (sealB (bodyL l) ++ rest) := by rw [h]; unfold frameL; rw [List.append_assoc]
  have hg := getU_varint hx ha (by omega)
  have hd := drop_more hx
  have hl := drop_le hd (drop_le hx ha)
  have hs := sealB_len (bodyL l)
  have e0 : ((a : Int) + (varint (bodyL l).length).length).toNat = a + (varint (bodyL l).length).length := by omega
  have t1 : (sealB (bodyL l) ++ rest).take ((bodyL l).length + 4) = sealB (bodyL l) := by rw [← hs, List.take_left]
  have t2 : (sealB (bodyL l) ++ rest).take (bodyL l).length = bodyL l := by
    unfold sealB; rw [List.append_assoc, List.take_left]
  unfold readL
  simp only [hg, ne_eq, not_true_eq_false, if_false, e0, hd, t1, t2, if_true, eventsL_body h1 h2 he]
  rw [if_neg (by omega), if_neg (by omega), frameL_len]
  congr 2
  omega
end Go.Pe
