/-
  One rule an operation, for the logic of plain data. No condition; nothing of the program. (Printed by gen_logic.py.)
-/
import Derived.Test.YtaepgkghgcchnaaPeL
set_option linter.unusedVariables false
set_option linter.unusedSimpArgs false
namespace Go.Pe
open Go
theorem WV_mv (cfg : Cfg) (callE : CallE) (ρ : Arg → PV) (st : St) (key : Nat) (x : Arg) (Q : PV → St → Prop) : WV (evOp cfg callE ρ st key (.mv x)) Q ↔ WV (some (ρ x, st)) Q := Iff.trans Iff.rfl Iff.rfl
theorem WV_pick (cfg : Cfg) (callE : CallE) (ρ : Arg → PV) (st : St) (key : Nat) (c : Arg) (a : Arg) (b : Arg) (Q : PV → St → Prop) : WV (evOp cfg callE ρ st key (.pick c a b)) Q ↔ WV (match ρ c with
    | .b x => some (if x then ρ a else ρ b, st)
    | _ => none) Q := Iff.trans Iff.rfl Iff.rfl
theorem WV_alloc (cfg : Cfg) (callE : CallE) (ρ : Arg → PV) (st : St) (key : Nat) (zero : List PV) (Q : PV → St → Prop) : WV (evOp cfg callE ρ st key (.alloc zero)) Q ↔ WV (some (.ptr key 0, st.put key (some (.cells zero false)))) Q := Iff.trans Iff.rfl Iff.rfl
theorem WV_box (cfg : Cfg) (callE : CallE) (ρ : Arg → PV) (st : St) (key : Nat) (x : Arg) (Q : PV → St → Prop) : WV (evOp cfg callE ρ st key (.box x)) Q ↔ WV (if (ρ x).cells.all PV.one then some (.ptr key 0, st.put key (some (.cells (ρ x).cells false))) else none) Q := Iff.trans Iff.rfl Iff.rfl
theorem WV_build (cfg : Cfg) (callE : CallE) (ρ : Arg → PV) (st : St) (key : Nat) (zero : List PV) (parts : List (Nat × Nat × Arg)) (Q : PV → St → Prop) : WV (evOp cfg callE ρ st key (.build zero parts)) Q ↔ WV ((fillP zero (parts.map fun p => (p.1, p.2.1, ρ p.2.2))).map fun cs => (.agg cs, st)) Q := Iff.trans Iff.rfl Iff.rfl
theorem WV_bslice (cfg : Cfg) (callE : CallE) (ρ : Arg → PV) (st : St) (key : Nat) (len : Nat) (sz : Nat) (zero : List PV) (parts : List (Nat × Nat × Arg)) (Q : PV → St → Prop) : WV (evOp cfg callE ρ st key (.bslice len sz zero parts)) Q ↔ WV (match fillP zero (parts.map fun p => (p.1, p.2.1, ρ p.2.2)) with
    | some cs => if 0 < sz ∧ cs.length = len * sz then some (.rsl key sz 0 len, st.put key (some (.cells cs false))) else none
    | none => none) Q := Iff.trans Iff.rfl Iff.rfl
theorem WV_load (cfg : Cfg) (callE : CallE) (ρ : Arg → PV) (st : St) (key : Nat) (agg : Bool) (n : Nat) (a : Arg) (Q : PV → St → Prop) : WV (evOp cfg callE ρ st key (.load agg n a)) Q ↔ WV (match loadP st n (ρ a) with
    | some cs => (ofCells agg cs).map (·, st)
    | none => none) Q := Iff.trans Iff.rfl Iff.rfl
theorem WV_store (cfg : Cfg) (callE : CallE) (ρ : Arg → PV) (st : St) (key : Nat) (n : Nat) (a : Arg) (x : Arg) (Q : PV → St → Prop) : WV (evOp cfg callE ρ st key (.store n a x)) Q ↔ WV ((storeP st n (ρ a) (ρ x)).map (.tup [], ·)) Q := Iff.trans Iff.rfl Iff.rfl
theorem WV_nilck (cfg : Cfg) (callE : CallE) (ρ : Arg → PV) (st : St) (key : Nat) (x : Arg) (Q : PV → St → Prop) : WV (evOp cfg callE ρ st key (.nilck x)) Q ↔ WV (match ρ x with
    | .ptr k o => some (.ptr k o, st)
    | .fptr cs => some (.fptr cs, st)
    | _ => none) Q := Iff.trans Iff.rfl Iff.rfl
theorem WV_bin (cfg : Cfg) (callE : CallE) (ρ : Arg → PV) (st : St) (key : Nat) (op : BinOp) (x : Arg) (y : Arg) (Q : PV → St → Prop) : WV (evOp cfg callE ρ st key (.bin op x y)) Q ↔ WV ((binP op (ρ x) (ρ y)).map (·, st)) Q := Iff.trans Iff.rfl Iff.rfl
theorem WV_eqb (cfg : Cfg) (callE : CallE) (ρ : Arg → PV) (st : St) (key : Nat) (neg : Bool) (x : Arg) (y : Arg) (Q : PV → St → Prop) : WV (evOp cfg callE ρ st key (.eqb neg x y)) Q ↔ WV ((eqbP neg (ρ x) (ρ y)).map (·, st)) Q := Iff.trans Iff.rfl Iff.rfl
theorem WV_eqn (cfg : Cfg) (callE : CallE) (ρ : Arg → PV) (st : St) (key : Nat) (kd : Nat) (neg : Bool) (x : Arg) (y : Arg) (Q : PV → St → Prop) : WV (evOp cfg callE ρ st key (.eqn kd neg x y)) Q ↔ WV ((eqnP kd neg (ρ x) (ρ y)).map (·, st)) Q := Iff.trans Iff.rfl Iff.rfl
theorem WV_eqs (cfg : Cfg) (callE : CallE) (ρ : Arg → PV) (st : St) (key : Nat) (neg : Bool) (fs : List (Nat × Nat)) (x : Arg) (y : Arg) (Q : PV → St → Prop) : WV (evOp cfg callE ρ st key (.eqs neg fs x y)) Q ↔ WV (match ρ x, ρ y with
    | .agg ps, .agg qs => (eqsP fs ps qs).map fun b => (.b (b != neg), st)
    | _, _ => none) Q := Iff.trans Iff.rfl Iff.rfl
theorem WV_mkmap (cfg : Cfg) (callE : CallE) (ρ : Arg → PV) (st : St) (key : Nat)  (Q : PV → St → Prop) : WV (evOp cfg callE ρ st key (.mkmap )) Q ↔ WV (some (.mp key, st.put key (some (.map [])))) Q := Iff.trans Iff.rfl Iff.rfl
theorem WV_lookup (cfg : Cfg) (callE : CallE) (ρ : Arg → PV) (st : St) (key : Nat) (ck : Nat) (ok : Bool) (zero : PV) (m : Arg) (k : Arg) (Q : PV → St → Prop) : WV (evOp cfg callE ρ st key (.lookup ck ok zero m k)) Q ↔ WV (match ρ m with
    | .nmp => some (if ok then .tup [zero, .b false] else zero, st)
    | .mp j => match st.get j with
      | some (.map es) => (mapget ck (ρ k) es).map fun r => (if ok then .tup [r.getD zero, .b r.isSome] else r.getD zero, st)
      | _ => none
    | _ => none) Q := Iff.trans Iff.rfl Iff.rfl
theorem WV_mapup (cfg : Cfg) (callE : CallE) (ρ : Arg → PV) (st : St) (key : Nat) (ck : Nat) (m : Arg) (k : Arg) (v : Arg) (Q : PV → St → Prop) : WV (evOp cfg callE ρ st key (.mapup ck m k v)) Q ↔ WV (match ρ m with
    | .mp j => match st.get j with
      | some (.map es) => (mapput ck (ρ k) (ρ v) es).map fun es' => (.tup [], st.put j (some (.map es')))
      | _ => none
    | _ => none) Q := Iff.trans Iff.rfl Iff.rfl
theorem WV_mlen (cfg : Cfg) (callE : CallE) (ρ : Arg → PV) (st : St) (key : Nat) (m : Arg) (Q : PV → St → Prop) : WV (evOp cfg callE ρ st key (.mlen m)) Q ↔ WV (match ρ m with
    | .nmp => some (.i .i64 0, st)
    | .mp j => match st.get j with
      | some (.map es) => some (.i .i64 es.length, st)
      | _ => none
    | _ => none) Q := Iff.trans Iff.rfl Iff.rfl
theorem WV_srange (cfg : Cfg) (callE : CallE) (ρ : Arg → PV) (st : St) (key : Nat) (x : Arg) (Q : PV → St → Prop) : WV (evOp cfg callE ρ st key (.srange x)) Q ↔ WV (match ρ x with
    | .s l => some (.ptr key 0, st.put key (some (.iter l 0)))
    | _ => none) Q := Iff.trans Iff.rfl Iff.rfl
theorem WV_snext (cfg : Cfg) (callE : CallE) (ρ : Arg → PV) (st : St) (key : Nat) (x : Arg) (Q : PV → St → Prop) : WV (evOp cfg callE ρ st key (.snext x)) Q ↔ WV (match ρ x with
    | .ptr k 0 => match st.get k with
      | some (.iter l p) => if p < l.length then some (.tup [.b true, .i .i64 p, .i .i32 (Utf8.decode ⟨l.toArray⟩ p).1], st.put k (some (.iter l (p + (Utf8.decode ⟨l.toArray⟩ p).2)))) else some (.tup [.b false], st)
      | _ => none
    | _ => none) Q := Iff.trans Iff.rfl Iff.rfl
theorem WV_mark (cfg : Cfg) (callE : CallE) (ρ : Arg → PV) (st : St) (key : Nat) (x : Arg) (Q : PV → St → Prop) : WV (evOp cfg callE ρ st key (.mark x)) Q ↔ WV (match ρ x with
    | .rsl k z off n => match st.get k with
      | some (.cells _ _) => some (.rsl k z off n, st)
      | _ => none
    | _ => none) Q := Iff.trans Iff.rfl Iff.rfl
theorem WV_bad (cfg : Cfg) (callE : CallE) (ρ : Arg → PV) (st : St) (key : Nat)  (Q : PV → St → Prop) : WV (evOp cfg callE ρ st key (.bad )) Q ↔ WV (none) Q := Iff.trans Iff.rfl Iff.rfl
theorem WV_un (cfg : Cfg) (callE : CallE) (ρ : Arg → PV) (st : St) (key : Nat) (op : UnOp) (x : Arg) (Q : PV → St → Prop) : WV (evOp cfg callE ρ st key (.un op x)) Q ↔ WV ((unP op (ρ x)).map (·, st)) Q := Iff.trans Iff.rfl Iff.rfl
theorem WV_conv (cfg : Cfg) (callE : CallE) (ρ : Arg → PV) (st : St) (key : Nat) (c : Cv) (x : Arg) (Q : PV → St → Prop) : WV (evOp cfg callE ρ st key (.conv c x)) Q ↔ WV (match c, ρ x with
    | .int k, .i _ n => some (.i k (k.wrap n), st)
    | .same, .s l => some (.s l, st)
    | .s2b, .s l => if l.length ≤ maxBytes then some (.rsl key 1 0 l.length, st.put key (some (.cells (ofBytes l) false))) else none
    | .b2s, v => match cellsOf st 1 v with
      | some (_, cs) => (bytesOf? cs).map fun l => (.s l, st)
      | none => none
    | _, _ => none) Q := Iff.trans Iff.rfl Iff.rfl
theorem WV_mkfn (cfg : Cfg) (callE : CallE) (ρ : Arg → PV) (st : St) (key : Nat) (f : FuncId) (cap : List Arg) (Q : PV → St → Prop) : WV (evOp cfg callE ρ st key (.mkfn f cap)) Q ↔ WV (some (.fn f (cap.map ρ), st)) Q := Iff.trans Iff.rfl Iff.rfl
theorem WV_mkbfn (cfg : Cfg) (callE : CallE) (ρ : Arg → PV) (st : St) (key : Nat) (f : FuncId) (pre : List Arg) (Q : PV → St → Prop) : WV (evOp cfg callE ρ st key (.mkbfn f pre)) Q ↔ WV (some (.bfn f (pre.map ρ), st)) Q := Iff.trans Iff.rfl Iff.rfl
theorem WV_mkslice (cfg : Cfg) (callE : CallE) (ρ : Arg → PV) (st : St) (key : Nat) (sz : Nat) (bytes : Nat) (zero : List PV) (l : Arg) (Q : PV → St → Prop) : WV (evOp cfg callE ρ st key (.mkslice sz bytes zero l)) Q ↔ WV (match ρ l with
    | .i .i64 n => if 0 ≤ n ∧ n.toNat * bytes ≤ maxBytes ∧ 0 < bytes ∧ zero.length = sz ∧ 0 < sz then some (.rsl key sz 0 n.toNat, st.put key (some (.cells (List.flatten (List.replicate n.toNat zero)) false))) else none
    | _ => none) Q := Iff.trans Iff.rfl Iff.rfl
theorem WV_slice0 (cfg : Cfg) (callE : CallE) (ρ : Arg → PV) (st : St) (key : Nat) (N : Nat) (sz : Nat) (x : Arg) (lo : Option Arg) (hi : Option Arg) (Q : PV → St → Prop) : WV (evOp cfg callE ρ st key (.slice (some N) sz x lo hi)) Q ↔ WV (match ρ x with
    | .ptr k off => match bound (hi.map ρ) N N, st.get k with
      | some h, some (.cells cs _) => match bound (lo.map ρ) 0 h with
        | some l => if l < N ∧ 0 < sz ∧ off + N * sz ≤ cs.length ∧ N < 4294967296 then some (.rsl k sz (off + l * sz) (h - l), st) else none
        | none => none
      | _, _ => none
    | _ => none) Q := Iff.trans Iff.rfl Iff.rfl
theorem WV_slice1 (cfg : Cfg) (callE : CallE) (ρ : Arg → PV) (st : St) (key : Nat) (sz : Nat) (x : Arg) (lo : Option Arg) (hi : Option Arg) (Q : PV → St → Prop) : WV (evOp cfg callE ρ st key (.slice none sz x lo hi)) Q ↔ WV ((sliceP sz (lo.map ρ) (hi.map ρ) (ρ x)).map (·, st)) Q := Iff.trans Iff.rfl Iff.rfl
theorem WV_substr (cfg : Cfg) (callE : CallE) (ρ : Arg → PV) (st : St) (key : Nat) (x : Arg) (lo : Option Arg) (hi : Option Arg) (Q : PV → St → Prop) : WV (evOp cfg callE ρ st key (.substr x lo hi)) Q ↔ WV (match ρ x with
    | .s l => match bound (hi.map ρ) l.length l.length with
      | some h => match bound (lo.map ρ) 0 h with
        | some k => some (.s ((l.drop k).take (h - k)), st)
        | none => none
      | none => none
    | _ => none) Q := Iff.trans Iff.rfl Iff.rfl
theorem WV_fieldAddr (cfg : Cfg) (callE : CallE) (ρ : Arg → PV) (st : St) (key : Nat) (off : Nat) (x : Arg) (Q : PV → St → Prop) : WV (evOp cfg callE ρ st key (.fieldAddr off x)) Q ↔ WV (match ρ x with
    | .ptr k o => some (.ptr k (o + off), st)
    | .fptr cs => some (.fptr (cs.drop off), st)
    | _ => none) Q := Iff.trans Iff.rfl Iff.rfl
theorem WV_field (cfg : Cfg) (callE : CallE) (ρ : Arg → PV) (st : St) (key : Nat) (agg : Bool) (off : Nat) (n : Nat) (x : Arg) (Q : PV → St → Prop) : WV (evOp cfg callE ρ st key (.field agg off n x)) Q ↔ WV (match ρ x with
    | .agg cs => match cut? cs off n with
      | some l => (ofCells agg l).map (·, st)
      | none => none
    | _ => none) Q := Iff.trans Iff.rfl Iff.rfl
theorem WV_indexAddr0 (cfg : Cfg) (callE : CallE) (ρ : Arg → PV) (st : St) (key : Nat) (N : Nat) (sz : Nat) (x : Arg) (i : Arg) (Q : PV → St → Prop) : WV (evOp cfg callE ρ st key (.indexAddr (some N) sz x i)) Q ↔ WV (match ρ x, ρ i with
    | .ptr k o, .i _ j => if 0 ≤ j ∧ j < N then some (.ptr k (o + j.toNat * sz), st) else none
    | .fptr cs, .i _ j => if 0 ≤ j ∧ j < N then some (.fptr (cs.drop (j.toNat * sz)), st) else none
    | _, _ => none) Q := Iff.trans Iff.rfl Iff.rfl
theorem WV_indexAddr1 (cfg : Cfg) (callE : CallE) (ρ : Arg → PV) (st : St) (key : Nat) (sz : Nat) (x : Arg) (i : Arg) (Q : PV → St → Prop) : WV (evOp cfg callE ρ st key (.indexAddr none sz x i)) Q ↔ WV (match ρ x, ρ i with
    | .rsl k z off n, .i _ j => if z = sz ∧ 0 ≤ j ∧ j < n then some (.ptr k (off + j.toNat * sz), st) else none
    | .fsl n cs, .i _ j => if cs.length = n * sz ∧ 0 < sz ∧ 0 ≤ j ∧ j < n then some (.fptr (cs.drop (j.toNat * sz)), st) else none
    | _, _ => none) Q := Iff.trans Iff.rfl Iff.rfl
theorem WV_index (cfg : Cfg) (callE : CallE) (ρ : Arg → PV) (st : St) (key : Nat) (len : Nat) (agg : Bool) (n : Nat) (x : Arg) (i : Arg) (Q : PV → St → Prop) : WV (evOp cfg callE ρ st key (.index len agg n x i)) Q ↔ WV (match ρ x, ρ i with
    | .agg cs, .i _ j => if 0 ≤ j ∧ j < len then match cut? cs (j.toNat * n) n with
        | some l => (ofCells agg l).map (·, st)
        | none => none
      else none
    | _, _ => none) Q := Iff.trans Iff.rfl Iff.rfl
theorem WV_sindex (cfg : Cfg) (callE : CallE) (ρ : Arg → PV) (st : St) (key : Nat) (x : Arg) (i : Arg) (Q : PV → St → Prop) : WV (evOp cfg callE ρ st key (.sindex x i)) Q ↔ WV (match ρ x, ρ i with
    | .s l, .i _ j => if 0 ≤ j then (l[j.toNat]?).map fun c => (.i .u8 c.toNat, st) else none
    | _, _ => none) Q := Iff.trans Iff.rfl Iff.rfl
theorem WV_extract (cfg : Cfg) (callE : CallE) (ρ : Arg → PV) (st : St) (key : Nat) (i : Nat) (x : Arg) (Q : PV → St → Prop) : WV (evOp cfg callE ρ st key (.extract i x)) Q ↔ WV (match ρ x with
    | .tup vs => (vs[i]?).map (·, st)
    | _ => none) Q := Iff.trans Iff.rfl Iff.rfl
theorem WV_call (cfg : Cfg) (callE : CallE) (ρ : Arg → PV) (st : St) (key : Nat) (f : FuncId) (own : Bool) (args : List Arg) (Q : PV → St → Prop) : WV (evOp cfg callE ρ st key (.call f own args)) Q ↔ WV (callStep (runPure cfg callE f) own st key (args.map ρ)) Q := Iff.trans Iff.rfl Iff.rfl
theorem WV_calle (cfg : Cfg) (callE : CallE) (ρ : Arg → PV) (st : St) (key : Nat) (f : FuncId) (args : List Arg) (Q : PV → St → Prop) : WV (evOp cfg callE ρ st key (.calle f args)) Q ↔ WV (match cfg.ext f with
    | some _ => none
    | none => callE f (args.map ρ) st) Q := Iff.trans Iff.rfl Iff.rfl
theorem WV_callq (cfg : Cfg) (callE : CallE) (ρ : Arg → PV) (st : St) (key : Nat) (f : FuncId) (args : List Arg) (Q : PV → St → Prop) : WV (evOp cfg callE ρ st key (.callq f args)) Q ↔ WV (match deepL st (args.map ρ) with
    | some l => match runPure cfg callE f l with
      | some r => if r.closedB then recvRes st key r else none
      | none => none
    | none => none) Q := Iff.trans Iff.rfl Iff.rfl
theorem WV_callv (cfg : Cfg) (callE : CallE) (ρ : Arg → PV) (st : St) (key : Nat) (f : Arg) (args : List Arg) (Q : PV → St → Prop) : WV (evOp cfg callE ρ st key (.callv f args)) Q ↔ WV (match ρ f with
    | .fn g cap => match cfg.ext g with
      | some _ => none
      | none => callE g (args.map ρ ++ cap) st
    | .bfn g pre => match cfg.ext g with
      | some _ => none
      | none => callE g (pre ++ args.map ρ) st
    | _ => none) Q := Iff.trans Iff.rfl Iff.rfl
theorem WV_append (cfg : Cfg) (callE : CallE) (ρ : Arg → PV) (st : St) (key : Nat) (sz : Nat) (bytes : Nat) (s : Arg) (x : Arg) (Q : PV → St → Prop) : WV (evOp cfg callE ρ st key (.append sz bytes s x)) Q ↔ WV (match cellsOf st sz (ρ x) with
    | some (m, news) => if 0 < sz ∧ 0 < bytes ∧ news.all PV.one then appendP st key sz bytes m news (ρ s) else none
    | none => none) Q := Iff.trans Iff.rfl Iff.rfl
theorem WV_appstr (cfg : Cfg) (callE : CallE) (ρ : Arg → PV) (st : St) (key : Nat) (s : Arg) (x : Arg) (Q : PV → St → Prop) : WV (evOp cfg callE ρ st key (.appstr s x)) Q ↔ WV (match ρ x with
    | .s l => appendP st key 1 1 l.length (ofBytes l) (ρ s)
    | _ => none) Q := Iff.trans Iff.rfl Iff.rfl
theorem WV_len (cfg : Cfg) (callE : CallE) (ρ : Arg → PV) (st : St) (key : Nat) (x : Arg) (Q : PV → St → Prop) : WV (evOp cfg callE ρ st key (.len x)) Q ↔ WV ((lenP (ρ x)).map (·, st)) Q := Iff.trans Iff.rfl Iff.rfl
theorem WV_slen (cfg : Cfg) (callE : CallE) (ρ : Arg → PV) (st : St) (key : Nat) (x : Arg) (Q : PV → St → Prop) : WV (evOp cfg callE ρ st key (.slen x)) Q ↔ WV (match ρ x with
    | .s l => some (.i .i64 l.length, st)
    | _ => none) Q := Iff.trans Iff.rfl Iff.rfl
theorem WV_alen (cfg : Cfg) (callE : CallE) (ρ : Arg → PV) (st : St) (key : Nat) (n : Nat) (Q : PV → St → Prop) : WV (evOp cfg callE ρ st key (.alen n)) Q ↔ WV (some (.i .i64 n, st)) Q := Iff.trans Iff.rfl Iff.rfl
theorem WV_copy (cfg : Cfg) (callE : CallE) (ρ : Arg → PV) (st : St) (key : Nat) (sz : Nat) (d : Arg) (s : Arg) (Q : PV → St → Prop) : WV (evOp cfg callE ρ st key (.copy sz d s)) Q ↔ WV (match cellsOf st sz (ρ s) with
    | some (m, cs) => copyP st sz m cs (ρ d)
    | none => none) Q := Iff.trans Iff.rfl Iff.rfl
theorem WV_min (cfg : Cfg) (callE : CallE) (ρ : Arg → PV) (st : St) (key : Nat) (x : Arg) (ys : List Arg) (Q : PV → St → Prop) : WV (evOp cfg callE ρ st key (.min x ys)) Q ↔ WV ((minP (ρ x) (ys.map ρ)).map (·, st)) Q := Iff.trans Iff.rfl Iff.rfl
theorem WV_max (cfg : Cfg) (callE : CallE) (ρ : Arg → PV) (st : St) (key : Nat) (x : Arg) (ys : List Arg) (Q : PV → St → Prop) : WV (evOp cfg callE ρ st key (.max x ys)) Q ↔ WV ((maxP (ρ x) (ys.map ρ)).map (·, st)) Q := Iff.trans Iff.rfl Iff.rfl
end Go.Pe
