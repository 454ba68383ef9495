/-
 How the arguments of a law are opened: a slice of numbers that came in may be read, its numbers fit, its bytes are within the form's own reach. No condition.
-/
import Derived.Test.YtaepgkghgcchnaaDoorLib
import Derived.ProofKit
import Derived.OpenShut
import Derived.ShutString
import Derived.ChangeOld
import Derived.SizedLaws
namespace Go.Am
open Go.RowKit Go.ChangeShapes Go.WideShapes Go.ChangeAt
set_option linter.unusedVariables false

theorem Nfo {x : Int} (h : (Lit.int .i64 x).wf = true) : Njl x := by
 have := h
 simp [Lit.wf, IntKind.min, IntKind.max, IntKind.signed, IntKind.bits] at this
 unfold Njl
 omega

end Go.Am
