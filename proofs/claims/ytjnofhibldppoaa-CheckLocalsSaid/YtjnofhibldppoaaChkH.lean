/-
 CheckLocals: what its cases run. No condition.
-/
import Derived.Test.YtjnofhibldppoaaChkMg
import Derived.Test.YtjnofhibldppoaaPeL6
set_option linter.unusedVariables false
set_option linter.unusedSimpArgs false
set_option maxRecDepth 100000
namespace Go.Pe
open Go Go.Am Go.RowKit

noncomputable def cfgL6c : Cfg := { fn := fun f => Nen f tblX6, ext := Nia }
theorem Ngp {Gl : Gmap} {m : Int} (hg : Gl 0 0 = some (.int .i64 m)) : CfgOK Go.Proofs.Try.prog Gl cfgL6c := NeP NgW (Nha hg)
def Nlq : MCode → MCode
 | .block _ b => b
 | c => c
def Nmj : MCode → MCode
 | .loop b => b
 | c => c
noncomputable def lM : MCode := m6.body
noncomputable def lR4 : MCode := Ngt lM
noncomputable def lR5 : MCode := Ngt (Ndj lM)
noncomputable def lRi : MCode := Ngt (Ngt (Ndj (Ndj lM)))
noncomputable def lBd : MCode := Nmj (Nlq (Ndj (Ngt (Ndj (Ndj lM)))))
noncomputable def lRE : MCode := Ndj (Ndj (Ndj lM))
noncomputable def Njd : MCode := Ngt lBd
noncomputable def Ni2 : MCode := Ngt (Ndj lBd)
noncomputable def lBO : MCode := Nlq (Ngt (Ndj (Ndj lBd)))
noncomputable def NjD : MCode := Ndj (Ndj (Ndj lBd))
noncomputable def Nih : MCode := Ngt lBO
noncomputable def Nh2 : MCode := Ngt (Ndj lBO)
def NgH : MCode := .region [⟨.l 27, .mv (.t 7), none⟩, ⟨.l 28, .bin .rem (.l 27) (.c (.i .u8 (.ofNat 11))), none⟩, ⟨.l 29, .conv (.int .i64) (.l 28), none⟩, ⟨.t 30, .bin .add (.c (.i .i64 (.ofNat 15))) (.l 29), none⟩, ⟨.t 31, .mv (.c (.i .i64 (.ofNat 0))), none⟩]
noncomputable def lB2 : MCode := Ndj (Ngt (Ndj (Ndj lBO)))
noncomputable def NiS : MCode := Ndj (Ndj (Ndj lBO))
theorem NkU : lM = .seq lR4 (.seq lR5 (.seq (.seq lRi (.block 0 (.loop (.seq Njd (.seq Ni2 (.seq (.block 1 (.seq Nih (.seq Nh2 (.seq (.seq NgH lB2) NiS)))) NjD)))))) lRE)) := by kernel_rfl
def Nfz : MExit → Bool
 | .nrm => true
 | _ => false
noncomputable def Njc (a : MCode) (x : Now) : Now := match Nbo a cfgL6c (fFn cfgL6c 300) 301 x with
 | some (_, y) => y
 | none => x
theorem NeN {α : Type} {a : MCode} {x : Now} {f : Now → α} {v : α} (h : (Nbo a cfgL6c (fFn cfgL6c 300) 301 x).map (fun r => (Nfz r.1, f r.2)) = some (true, v)) : Naf cfgL6c (Nas cfgL6c 300) 301 a x = some (.nrm, Njc a x) ∧ f (Njc a x) = v := by
 have hq : Nbo a cfgL6c (fFn cfgL6c 300) 301 x = Naf cfgL6c (Nas cfgL6c 300) 301 a x := by rw [Ne4, Na8]
 unfold Njc
 cases hh : Nbo a cfgL6c (fFn cfgL6c 300) 301 x with
 | none => rw [hh] at h; simp at h
 | some r =>
   obtain ⟨e, y⟩ := r
   rw [hh] at h
   simp only [Option.map_some, Sj, Pj] at h
   obtain ⟨h1, h2⟩ := h
   cases e <;> simp [Nfz] at h1
   exact ⟨by rw [← hq, hh], h2⟩
theorem NiJ {a : MCode} {x : Now} {v : PV} (h : (Nbo a cfgL6c (fFn cfgL6c 300) 301 x).map (fun r => (NiY r.1, r.2.env.get 4)) = some (true, v)) : ∃ y, Naf cfgL6c (Nas cfgL6c 300) 301 a x = some (.ret, y) ∧ y.env.get 4 = v := by
 have hq : Nbo a cfgL6c (fFn cfgL6c 300) 301 x = Naf cfgL6c (Nas cfgL6c 300) 301 a x := by rw [Ne4, Na8]
 cases hh : Nbo a cfgL6c (fFn cfgL6c 300) 301 x with
 | none => rw [hh] at h; simp at h
 | some r =>
   obtain ⟨e, y⟩ := r
   rw [hh] at h
   simp only [Option.map_some, Sj, Pj] at h
   obtain ⟨h1, h2⟩ := h
   cases e <;> simp [NiY] at h1
   exact ⟨y, by rw [← hq, hh], h2⟩
noncomputable def lP1 : MCode := .seq lR4 (.seq lR5 (.seq lRi (.seq Njd (.seq Ni2 (.seq Nih Nh2)))))
noncomputable def lP2 : MCode := .seq lB2 (.seq NiS (.seq NjD (.seq Njd (.seq Ni2 (.seq Nih Nh2)))))
noncomputable def lP3 : MCode := .seq lB2 (.seq NiS (.seq NjD Njd))
noncomputable def lx0 (p q : Int) : Now := { env := (Env.put .leaf 0 (.i .u8 p)).put 1 (.i .u8 q), st := { sto := .leaf, cnt := 1 } }
noncomputable def NfP (x : Now) (m : Nat) : Now := ⟨(x.env.put 30 (.i .i64 (Int.ofNat (15 + m)))).put 31 (.i .i64 (Int.ofNat 0)), ⟨x.st.sto, x.st.cnt + 40⟩⟩
noncomputable def lx2 (p q : Int) : Now := Njc lP1 (lx0 p q)
noncomputable def lx7 (p q : Int) (m : Nat) : Now := Njc lP2 (NfP (lx2 p q) m)
theorem lK1 (p q : Int) : (Nbo lP1 cfgL6c (fFn cfgL6c 300) 301 (lx0 p q)).map (fun r => (Nfz r.1, r.2.env.get 7)) = some (true, .i .u8 p) := by kernel_rfl
theorem lK2 (p q : Int) : (List.range 11).map (fun m => (Nbo lP2 cfgL6c (fFn cfgL6c 300) 301 (NfP (lx2 p q) m)).map (fun r => (Nfz r.1, r.2.env.get 7))) = (List.range 11).map fun _ => some (true, .i .u8 q) := by kernel_rfl
noncomputable def NkA (y : Now) : PV × Option (Bool × PV) := (y.env.get 16, (Nbo lRE cfgL6c (fFn cfgL6c 300) 301 y).map fun r => (NiY r.1, r.2.env.get 4))
noncomputable def Ncq (p q : Int) (m n : Nat) : Option (Bool × PV × Option (Bool × PV)) := (Nbo lP3 cfgL6c (fFn cfgL6c 300) 301 (NfP (lx7 p q m) n)).map (fun r => (Nfz r.1, NkA r.2))
def lK3v : Option (Bool × PV × Option (Bool × PV)) := some (true, .b false, some (true, .b true))
end Go.Pe
