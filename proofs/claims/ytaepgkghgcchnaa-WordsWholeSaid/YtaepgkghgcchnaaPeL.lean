/-
  A logic for the interpreter of plain data: what holds behind a piece of code. No condition; nothing of the program.
-/
import Derived.Test.YtaepgkghgcchnaaPeF
import Derived.Laws.BitsLemmas
import Derived.Laws.Bits64
set_option linter.unusedVariables false
set_option linter.unusedSimpArgs false
namespace Go.Pe
open Go

/-- behind operations -/
def WO (cfg : Cfg) (callE : CallE) (ops : List MOper) (key : Nat) (c : Loc) (Q : Loc → Prop) : Prop := ∃ c', evOps cfg callE ops key c = some c' ∧ Q c'
/-- behind code -/
def WC (cfg : Cfg) (callE : CallE) (n : Nat) (m : MCode) (x : Now) (Q : MExit → Now → Prop) : Prop := ∃ e x', evCode cfg callE n m x = some (e, x') ∧ Q e x'
/-- one operation's answer -/
def WV (r : Option (PV × St)) (Q : PV → St → Prop) : Prop := ∃ v st, r = some (v, st) ∧ Q v st
@[congr] theorem WV_congr {r r' : Option (PV × St)} (h : r = r') (Q : PV → St → Prop) : WV r Q = WV r' Q := by rw [h]
@[congr] theorem WO_congr {cfg : Cfg} {callE : CallE} {ops : List MOper} {key key' : Nat} {c c' : Loc} (h : key = key') (h2 : c = c') (Q : Loc → Prop) : WO cfg callE ops key c Q = WO cfg callE ops key' c' Q := by rw [h, h2]
@[congr] theorem WC_congr {cfg : Cfg} {callE : CallE} {n : Nat} {m : MCode} {x x' : Now} (h : x = x') (Q : MExit → Now → Prop) : WC cfg callE n m x Q = WC cfg callE n m x' Q := by rw [h]
/-- a test that is not decided yet -/
def WI (c A B : Prop) : Prop := (c → A) ∧ (¬ c → B)
@[congr] theorem WI_congr {c c' : Prop} (h : c = c') (A B : Prop) : WI c A B = WI c' A B := by rw [h]
theorem WI_true (A B : Prop) : WI True A B ↔ A := by simp [WI]
theorem WI_false (A B : Prop) : WI False A B ↔ B := by simp [WI]
theorem WI_ite (c A B : Prop) [Decidable c] : (if c then A else B) ↔ WI c A B := by
  by_cases h : c <;> simp [WI, h]
theorem WV_some (v : PV) (st : St) (Q : PV → St → Prop) : WV (some (v, st)) Q ↔ Q v st := by
  constructor
  · rintro ⟨a, b, h, q⟩
    simp only [Option.some.injEq, Prod.mk.injEq] at h
    obtain ⟨rfl, rfl⟩ := h
    exact q
  · intro q; exact ⟨v, st, rfl, q⟩
theorem WV_ite (c : Prop) [Decidable c] (r : Option (PV × St)) (Q : PV → St → Prop) : WV (if c then r else none) Q ↔ c ∧ WV r Q := by
  by_cases h : c
  · simp [h]
  · simp [h, WV]
theorem WO_nil (cfg : Cfg) (callE : CallE) (key : Nat) (c : Loc) (Q : Loc → Prop) : WO cfg callE [] key c Q ↔ Q c := by
  constructor
  · rintro ⟨c', h, q⟩
    simp only [evOps, Option.some.injEq] at h
    subst h; exact q
  · intro q; exact ⟨c, rfl, q⟩
/-- an operation without a guard -/
theorem WO_cons (cfg : Cfg) (callE : CallE) (d : MDst) (op : MOp) (l : List MOper) (key : Nat) (env loc : Env) (st : St) (Q : Loc → Prop) :
    WO cfg callE (⟨d, op, none⟩ :: l) key ⟨env, loc, st⟩ Q ↔ WV (evOp cfg callE (Loc.rd ⟨env, loc, st⟩) st key op) fun v st' => WO cfg callE l (key + 8) ((⟨env, loc, st'⟩ : Loc).wr d v) Q := by
  unfold WO WV
  simp only [evOps, guardP]
  cases evOp cfg callE (Loc.rd ⟨env, loc, st⟩) st key op with
  | none => simp
  | some p =>
    obtain ⟨v, st'⟩ := p
    constructor
    · rintro ⟨c', h, q⟩; exact ⟨v, st', rfl, c', h, q⟩
    · rintro ⟨a, b, h, c', h2, q⟩
      simp only [Option.some.injEq, Prod.mk.injEq] at h
      obtain ⟨rfl, rfl⟩ := h
      exact ⟨c', h2, q⟩
theorem WO_guard (cfg : Cfg) (callE : CallE) (d : MDst) (op : MOp) (x : Arg) (w y : Bool) (l : List MOper) (key : Nat) (env loc : Env) (st : St) (Q : Loc → Prop) (h : Loc.rd ⟨env, loc, st⟩ x = .b y) :
    WO cfg callE (⟨d, op, some (x, w)⟩ :: l) key ⟨env, loc, st⟩ Q ↔ if y = w then WV (evOp cfg callE (Loc.rd ⟨env, loc, st⟩) st key op) (fun v st' => WO cfg callE l (key + 8) ((⟨env, loc, st'⟩ : Loc).wr d v) Q) else WO cfg callE l (key + 8) ((⟨env, loc, st⟩ : Loc).wr d (.tup [])) Q := by
  have hg : guardP ⟨env, loc, st⟩ (some (x, w)) = some (y == w) := by unfold guardP; simp only [h]
  by_cases hw : y = w
  · rw [if_pos hw, ← WO_cons]
    have h1 : guardP ⟨env, loc, st⟩ (some (x, w)) = some true := by rw [hg, hw]; simp
    unfold WO
    simp only [evOps, h1]
    simp only [guardP]
  · rw [if_neg hw]
    have h1 : guardP ⟨env, loc, st⟩ (some (x, w)) = some false := by rw [hg]; simp [hw]
    unfold WO
    simp only [evOps, h1]
theorem WC_region (cfg : Cfg) (callE : CallE) (n : Nat) (l : List MOper) (env : Env) (st : St) (Q : MExit → Now → Prop) :
    WC cfg callE n (.region l) ⟨env, st⟩ Q ↔ WO cfg callE l st.cnt ⟨env, .leaf, { st with cnt := st.cnt + 8 * l.length }⟩ fun c => Q .nrm ⟨c.env, c.st⟩ := by
  unfold WC WO
  simp only [evCode, evRegion, Option.map_map, Option.map_eq_some_iff, Function.comp_def]
  constructor
  · rintro ⟨e, x', ⟨c', h, h2⟩, q⟩
    simp only [Prod.mk.injEq] at h2
    obtain ⟨rfl, rfl⟩ := h2
    exact ⟨c', h, q⟩
  · rintro ⟨c', h, q⟩
    exact ⟨.nrm, _, ⟨c', h, rfl⟩, q⟩
/-- and then -/
def thenQ (Q : MExit → Now → Prop) (k : Now → Prop) : MExit → Now → Prop
  | .nrm, x => k x
  | .ex id, x => Q (.ex id) x
  | .ret, x => Q .ret x
theorem WC_seq (cfg : Cfg) (callE : CallE) (n : Nat) (a b : MCode) (x : Now) (Q : MExit → Now → Prop) : WC cfg callE n (.seq a b) x Q ↔ WC cfg callE n a x (thenQ Q fun x' => WC cfg callE n b x' Q) := by
  unfold WC
  simp only [evCode]
  cases evCode cfg callE n a x with
  | none => simp
  | some r =>
    obtain ⟨e, x'⟩ := r
    cases e <;> simp [thenQ, and_assoc]
theorem WC_skip (cfg : Cfg) (callE : CallE) (n : Nat) (x : Now) (Q : MExit → Now → Prop) : WC cfg callE n .skip x Q ↔ Q .nrm x := by simp [WC, evCode, and_assoc]
theorem WC_exit (cfg : Cfg) (callE : CallE) (n id : Nat) (x : Now) (Q : MExit → Now → Prop) : WC cfg callE n (.exit id) x Q ↔ Q (.ex id) x := by simp [WC, evCode, and_assoc]
theorem WC_ret (cfg : Cfg) (callE : CallE) (n : Nat) (x : Now) (Q : MExit → Now → Prop) : WC cfg callE n .ret x Q ↔ Q .ret x := by simp [WC, evCode, and_assoc]
theorem WC_scope (cfg : Cfg) (callE : CallE) (n : Nat) (a : MCode) (x : Now) (Q : MExit → Now → Prop) : WC cfg callE n (.scope a) x Q ↔ WC cfg callE n a x Q := by simp [WC, evCode]
theorem WC_cond (cfg : Cfg) (callE : CallE) (n : Nat) (t : Arg) (a b : MCode) (env : Env) (st : St) (Q : MExit → Now → Prop) (y : Bool) (h : Loc.rd ⟨env, .leaf, st⟩ t = .b y) :
    WC cfg callE n (.cond t a b) ⟨env, st⟩ Q ↔ if y = true then WC cfg callE n a ⟨env, st⟩ Q else WC cfg callE n b ⟨env, st⟩ Q := by
  unfold WC
  simp only [evCode, h]
  cases y <;> simp
def blockQ (id : Nat) (Q : MExit → Now → Prop) : MExit → Now → Prop
  | .nrm, x => Q .nrm x
  | .ex j, x => if j = id then Q .nrm x else Q (.ex j) x
  | .ret, x => Q .ret x
theorem WC_block (cfg : Cfg) (callE : CallE) (n id : Nat) (a : MCode) (x : Now) (Q : MExit → Now → Prop) : WC cfg callE n (.block id a) x Q ↔ WC cfg callE n a x (blockQ id Q) := by
  unfold WC
  simp only [evCode]
  cases evCode cfg callE n a x with
  | none => simp
  | some r =>
    obtain ⟨e, x'⟩ := r
    cases e with
    | nrm => simp [blockQ, and_assoc]
    | ret => simp [blockQ, and_assoc]
    | ex j =>
      by_cases hj : j = id
      · simp [blockQ, hj, and_assoc]
      · simp [blockQ, hj, and_assoc]
/-- a loop: a measure goes down -/
theorem WC_loop {cfg : Cfg} {callE : CallE} {n : Nat} {a : MCode} {Q : MExit → Now → Prop} (I : Nat → Now → Prop)
    (h : ∀ k x, I k x → WC cfg callE n a x fun e x' => match e with | .nrm => ∃ j, j < k ∧ I j x' | .ex id => Q (.ex id) x' | .ret => Q .ret x')
    {k : Nat} {x : Now} (hI : I k x) (hk : k < n) : WC cfg callE n (.loop a) x Q := by
  have key : ∀ m k x, I k x → k < m → ∃ e x', loopE (evCode cfg callE n a) m x = some (e, x') ∧ e ≠ .nrm ∧ Q e x' := by
    intro m
    induction m with
    | zero => intro k x _ h; omega
    | succ m ih =>
      intro k x hx hm
      obtain ⟨e, x', h1, h2⟩ := h k x hx
      simp only [loopE, h1]
      cases e with
      | nrm =>
        obtain ⟨j, hj, h3⟩ := h2
        exact ih j x' h3 (by omega)
      | ex id => exact ⟨_, _, rfl, by simp, h2⟩
      | ret => exact ⟨_, _, rfl, by simp, h2⟩
  obtain ⟨e, x', h1, h2, h3⟩ := key n k x hI hk
  refine ⟨e, x', ?_, h3⟩
  simp only [evCode, h1]
  cases e with
  | nrm => exact absurd rfl h2
  | ex id => rfl
  | ret => rfl
theorem WC.mono {cfg : Cfg} {callE : CallE} {n : Nat} {m : MCode} {x : Now} {Q Q' : MExit → Now → Prop} (h : WC cfg callE n m x Q) (q : ∀ e x', Q e x' → Q' e x') : WC cfg callE n m x Q' := by
  obtain ⟨e, x', h1, h2⟩ := h
  exact ⟨e, x', h1, q _ _ h2⟩
theorem thenQ_nrm (Q : MExit → Now → Prop) (k : Now → Prop) (x : Now) : thenQ Q k .nrm x ↔ k x := Iff.trans Iff.rfl Iff.rfl
theorem thenQ_ex (Q : MExit → Now → Prop) (k : Now → Prop) (id : Nat) (x : Now) : thenQ Q k (.ex id) x ↔ Q (.ex id) x := Iff.trans Iff.rfl Iff.rfl
theorem thenQ_ret (Q : MExit → Now → Prop) (k : Now → Prop) (x : Now) : thenQ Q k .ret x ↔ Q .ret x := Iff.trans Iff.rfl Iff.rfl
theorem blockQ_nrm (id : Nat) (Q : MExit → Now → Prop) (x : Now) : blockQ id Q .nrm x ↔ Q .nrm x := Iff.trans Iff.rfl Iff.rfl
theorem blockQ_ex (id j : Nat) (Q : MExit → Now → Prop) (x : Now) : blockQ id Q (.ex j) x ↔ if j = id then Q .nrm x else Q (.ex j) x := Iff.trans Iff.rfl Iff.rfl
theorem blockQ_ret (id : Nat) (Q : MExit → Now → Prop) (x : Now) : blockQ id Q .ret x ↔ Q .ret x := Iff.trans Iff.rfl Iff.rfl
/-- slots -/
theorem Env.get_leaf (u : Nat) : Env.get .leaf u = .und := rfl
theorem rd_t (env loc : Env) (st : St) (t : Nat) : Loc.rd ⟨env, loc, st⟩ (.t t) = env.get t := Eq.trans rfl rfl
theorem rd_l (env loc : Env) (st : St) (t : Nat) : Loc.rd ⟨env, loc, st⟩ (.l t) = Env.get loc t := Eq.trans rfl rfl
theorem rd_c (env loc : Env) (st : St) (v : PV) : Loc.rd ⟨env, loc, st⟩ (.c v) = v := Eq.trans rfl rfl
theorem wr_no (env loc : Env) (st : St) (v : PV) : Loc.wr ⟨env, loc, st⟩ .no v = ⟨env, loc, st⟩ := Eq.trans rfl rfl
theorem wr_t (env loc : Env) (st : St) (t : Nat) (v : PV) : Loc.wr ⟨env, loc, st⟩ (.t t) v = ⟨env.put t v, loc, st⟩ := Eq.trans rfl rfl
theorem wr_l (env loc : Env) (st : St) (t : Nat) (v : PV) : Loc.wr ⟨env, loc, st⟩ (.l t) v = ⟨env, Env.put loc t v, st⟩ := Eq.trans rfl rfl
/-- a function's body -/
theorem evFn_of {cfg : Cfg} {fuel : Nat} {f : FuncId} {m : MFunc} (hf : cfg.fn f = some m) {args : List PV} {st : St} {r : PV} {st' : St}
    (h : WC cfg (evFn cfg fuel) (fuel + 1) m.body ⟨putArgs args 0 .leaf, st⟩ fun e x => (∀ id, e ≠ .ex id) ∧ x.st = st' ∧ ∃ vs, mapO (resP x) m.res = some vs ∧ r = (match vs with | [v] => v | vs => .tup vs)) : evFn cfg (fuel + 1) f args st = some (r, st') := by
  obtain ⟨e, x, h1, h2, rfl, vs, h3, rfl⟩ := h
  show (match cfg.fn f with
    | some m => evBody cfg (evFn cfg fuel) (fuel + 1) m args st
    | none => none) = _
  rw [hf]
  simp only [evBody, h1, h3]
  cases e with
  | ex id => exact absurd rfl (h2 id)
  | nrm =>
    match vs with
    | [] => rfl
    | [v] => rfl
    | _ :: _ :: _ => rfl
  | ret =>
    match vs with
    | [] => rfl
    | [v] => rfl
    | _ :: _ :: _ => rfl
/-- a test -/
def WB (v : PV) (A B : Prop) : Prop := match v with
  | .b y => if y = true then A else B
  | _ => False
@[congr] theorem WB_congr {v v' : PV} (h : v = v') (A B : Prop) : WB v A B = WB v' A B := by rw [h]
theorem WB_b (y : Bool) (A B : Prop) : WB (.b y) A B ↔ WI (y = true) A B := WI_ite _ _ _
theorem WC_cond' (cfg : Cfg) (callE : CallE) (n : Nat) (t : Arg) (a b : MCode) (env : Env) (st : St) (Q : MExit → Now → Prop) :
    WC cfg callE n (.cond t a b) ⟨env, st⟩ Q ↔ WB (Loc.rd ⟨env, .leaf, st⟩ t) (WC cfg callE n a ⟨env, st⟩ Q) (WC cfg callE n b ⟨env, st⟩ Q) := by
  cases h : Loc.rd ⟨env, .leaf, st⟩ t with
  | b y => rw [WC_cond cfg callE n t a b env st Q y h]; rfl
  | _ =>
    unfold WC WB
    simp only [evCode, h]
    simp
/-- a guard -/
def WG (v : PV) (w : Bool) (A B : Prop) : Prop := match v with
  | .b y => if y = w then A else B
  | .tup [] => B
  | _ => False
@[congr] theorem WG_congr {v v' : PV} (h : v = v') (w : Bool) (A B : Prop) : WG v w A B = WG v' w A B := by rw [h]
theorem WG_b (y w : Bool) (A B : Prop) : WG (.b y) w A B ↔ WI (y = w) A B := WI_ite _ _ _
theorem WG_tt (A B : Prop) : WG (.b true) true A B ↔ A := by simp [WG]
theorem WG_tf (A B : Prop) : WG (.b true) false A B ↔ B := by simp [WG]
theorem WG_ft (A B : Prop) : WG (.b false) true A B ↔ B := by simp [WG]
theorem WG_ff (A B : Prop) : WG (.b false) false A B ↔ A := by simp [WG]
theorem WB_t (A B : Prop) : WB (.b true) A B ↔ A := by simp [WB]
theorem WB_f (A B : Prop) : WB (.b false) A B ↔ B := by simp [WB]
theorem WG_tup (w : Bool) (A B : Prop) : WG (.tup []) w A B ↔ B := Iff.trans Iff.rfl Iff.rfl
theorem WO_guard' (cfg : Cfg) (callE : CallE) (d : MDst) (op : MOp) (x : Arg) (w : Bool) (l : List MOper) (key : Nat) (env loc : Env) (st : St) (Q : Loc → Prop) :
    WO cfg callE (⟨d, op, some (x, w)⟩ :: l) key ⟨env, loc, st⟩ Q ↔ WG (Loc.rd ⟨env, loc, st⟩ x) w (WV (evOp cfg callE (Loc.rd ⟨env, loc, st⟩) st key op) (fun v st' => WO cfg callE l (key + 8) ((⟨env, loc, st'⟩ : Loc).wr d v) Q)) (WO cfg callE l (key + 8) ((⟨env, loc, st⟩ : Loc).wr d (.tup [])) Q) := by
  cases h : Loc.rd ⟨env, loc, st⟩ x with
  | b y => rw [WO_guard cfg callE d op x w y l key env loc st Q h]; rfl
  | tup vs =>
    cases vs with
    | nil =>
      have h1 : guardP ⟨env, loc, st⟩ (some (x, w)) = some false := by unfold guardP; simp only [h]
      unfold WO
      simp only [evOps, h1]
      rfl
    | cons a r =>
      have h1 : guardP ⟨env, loc, st⟩ (some (x, w)) = none := by unfold guardP; simp only [h]
      unfold WO WG
      simp only [evOps, h1]
      simp
  | _ =>
    have h1 : guardP ⟨env, loc, st⟩ (some (x, w)) = none := by unfold guardP; simp only [h]
    unfold WO WG
    simp only [evOps, h1]
    simp
/-- memory -/
theorem St.get_cnt (st : St) (c k : Nat) : St.get ⟨st.sto, c⟩ k = st.get k := rfl
theorem St.sto_mk (s : Trie PObj) (c : Nat) : (⟨s, c⟩ : St).sto = s := rfl
theorem St.cnt_mk (s : Trie PObj) (c : Nat) : (⟨s, c⟩ : St).cnt = c := rfl
theorem St.cnt_put (st : St) (k : Nat) (o : Option PObj) : (st.put k o).cnt = st.cnt := rfl
theorem St.get_put' (st : St) (k k' : Nat) (o : Option PObj) (h : k ≠ k') : (st.put k o).get k' = st.get k' := St.get_put_ne h
/-- numbers -/
theorem wr_i64 (n : Int) (h : -9223372036854775808 ≤ n ∧ n < 9223372036854775808) : IntKind.i64.wrap n = n := by
  rw [IntKind.wrap_i64]; omega
theorem wr_u8 (n : Int) (h : 0 ≤ n ∧ n < 256) : IntKind.u8.wrap n = n := by
  rw [IntKind.wrap_u8]; omega
theorem wr_u64 (n : Int) (h : 0 ≤ n ∧ n < 18446744073709551616) : IntKind.u64.wrap n = n := by
  rw [IntKind.wrap_u64]; omega
theorem wr_u32 (n : Int) (h : 0 ≤ n ∧ n < 4294967296) : IntKind.u32.wrap n = n := by
  rw [IntKind.wrap_u32]; omega
theorem map_some {α β : Type} (f : α → β) (a : α) : (some a).map f = some (f a) := rfl
theorem WV_map_ite {α : Type} (c : Prop) [Decidable c] (r : Option α) (f : α → PV × St) (Q : PV → St → Prop) : WV ((if c then r else none).map f) Q ↔ c ∧ WV (r.map f) Q := by
  by_cases h : c
  · simp [h]
  · simp [h, WV]
/-- a byte of a text -/
theorem WV_none (Q : PV → St → Prop) : WV none Q ↔ False := by simp [WV]
theorem WV_get (l : List UInt8) (n : Nat) (f : UInt8 → PV × St) (Q : PV → St → Prop) : WV ((l[n]?).map f) Q ↔ n < l.length ∧ WV (some (f (l.getD n 0))) Q := by
  by_cases h : n < l.length
  · simp only [List.getElem?_eq_getElem h, Option.map_some, List.getD_eq_getElem?_getD, Option.getD_some, h, true_and]
  · have e : l[n]? = none := List.getElem?_eq_none (by omega)
    rw [e]
    simp [WV, h]
def tupV (vs : List PV) : PV := match vs with
  | [v] => v
  | vs => .tup vs
/-- a function among objects -/
theorem evFn_W {cfg : Cfg} {fuel : Nat} {f : FuncId} {m : MFunc} (hf : cfg.fn f = some m) {args : List PV} {st : St} {R : PV → St → Prop}
    (h : WC cfg (evFn cfg fuel) (fuel + 1) m.body ⟨putArgs args 0 .leaf, st⟩ fun e x => (∀ id, e ≠ .ex id) ∧ ∃ vs, mapO (resP x) m.res = some vs ∧ R (tupV vs) x.st) : ∃ r st', evFn cfg (fuel + 1) f args st = some (r, st') ∧ R r st' := by
  obtain ⟨e, x, h1, h2, vs, h3, h4⟩ := h
  refine ⟨tupV vs, x.st, ?_, h4⟩
  refine evFn_of hf ⟨e, x, h1, h2, rfl, vs, h3, ?_⟩
  unfold tupV; rfl
/-- a call among objects whose answer is known -/
theorem WV_of {r : Option (PV × St)} {Q R : PV → St → Prop} (h : ∃ v st, r = some (v, st) ∧ R v st) (q : ∀ v st, R v st → Q v st) : WV r Q := by
  obtain ⟨v, st, h1, h2⟩ := h
  exact ⟨v, st, h1, q v st h2⟩
theorem bound_none (d most : Nat) : bound none d most = some d := rfl
theorem bound_ok {k : IntKind} {n : Int} {d most : Nat} (h : 0 ≤ n ∧ n ≤ most) : bound (some (.i k n)) d most = some n.toNat := by
  show (if 0 ≤ n ∧ n ≤ (most : Int) then some n.toNat else none) = some n.toNat
  rw [if_pos h]
theorem runPure_ext {cfg : Cfg} {callE : CallE} {f : FuncId} {g : List PV → Option PV} (h : cfg.ext f = some g) (args : List PV) : runPure cfg callE f args = g args := by
  unfold runPure; rw [h]
/-- neither memory nor functions in it -/
def PV.flat : PV → Bool
  | .i .. | .b _ | .s _ | .nsl | .fsl .. | .und => true
  | _ => false
theorem deepL_flat {st : St} : ∀ {l : List PV}, l.all PV.flat = true → deepL st l = some l
  | [], _ => rfl
  | v :: l, h => by
    simp only [List.all_cons, Bool.and_eq_true] at h
    have ih := deepL_flat (st := st) h.2
    unfold deepL at ih ⊢
    have e : deep st deepN v = some v := by cases v <;> first | rfl | (simp [PV.flat] at h; done)
    simp only [mapO, e, ih]
theorem keysL_flat {st : St} : ∀ {l : List PV}, l.all PV.flat = true → keysL st l = []
  | [], _ => rfl
  | v :: l, h => by
    simp only [List.all_cons, Bool.and_eq_true] at h
    have ih := keysL_flat (st := st) h.2
    unfold keysL at ih ⊢
    have e : keysP st deepN v = [] := by cases v <;> first | rfl | (simp [PV.flat] at h; done)
    simp only [List.flatMap_cons, e, ih, List.append_nil]
theorem callStep_flat {g : List PV → Option PV} {st : St} {key : Nat} {ps : List PV} {r : PV} (hp : ps.all PV.flat = true) (hg : g ps = some r) (hr : recvRes st key r = some (r, st)) : callStep g false st key ps = some (r, st) := by
  unfold callStep
  simp only [deepL_flat hp, hg, keysL_flat hp, freezeK, ite_self, hr]
theorem closeRes_tup {st : St} {vs : List PV} (h : vs.all PV.flat = true) : closeRes st (.tup vs) = some (.tup vs) := by
  have e : ∀ l : List PV, l.all PV.flat = true → firstWhole st l = none := by
    intro l
    induction l with
    | nil => intro _; rfl
    | cons v l ih =>
      intro hl
      simp only [List.all_cons, Bool.and_eq_true] at hl
      have hv : whole? st v = none := by cases v <;> first | rfl | (simp [PV.flat] at hl; done)
      simp only [firstWhole, hv, ih hl.2, Option.map_none]
  simp only [closeRes, e vs h, deepL_flat h, map_some]
theorem closeRes_flat {st : St} {v : PV} (h : v.flat = true) : closeRes st v = some v := by
  cases v <;> first | rfl | (simp [PV.flat] at h; done)
/-- a byte of a slice of bytes -/
theorem load_byte {st : St} {k : Nat} {fz : Bool} {l : List UInt8} (hk : st.get k = some (.cells (ofBytes l) fz)) {i : Nat} (hi : i < l.length) : loadP st 1 (.ptr k (0 + i * 1)) = some [.i .u8 (l.getD i 0).toNat] := by
  have hc : cut? (ofBytes l) (0 + i * 1) 1 = some [.i .u8 (l.getD i 0).toNat] := by
    unfold cut? ofBytes
    rw [if_pos (by simp; omega)]
    apply congrArg
    apply List.ext_getElem?
    intro j
    cases j with
    | zero => simp [List.getElem?_take, List.getElem?_drop, List.getElem?_map, List.getElem?_eq_getElem hi, List.getD_eq_getElem?_getD]
    | succ j => simp [List.getElem?_take]
  unfold loadP
  simp only [hk, hc]
end Go.Pe
