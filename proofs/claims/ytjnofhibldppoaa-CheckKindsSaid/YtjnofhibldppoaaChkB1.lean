/-
  CheckKinds: its cases by the kernel (1). No condition.
-/
import Derived.Test.YtjnofhibldppoaaChkA
set_option linter.unusedVariables false
namespace Go.Pe
open Go

set_option maxRecDepth 100000 in
theorem kinds_1 (op kind line : Int) : (List.range 9).map (fun k => runPre cfgC4 300 301 kindsA kindsL 3 (kindsX op kind line 1 (k + 1)) kindsF) = (List.range 9).map fun k => some (wantC 1 (k + 1) line, wantC 1 (k + 1) line) := by kernel_rfl
set_option maxRecDepth 100000 in
theorem kinds_2 (op kind line : Int) : (List.range 9).map (fun k => runPre cfgC4 300 301 kindsA kindsL 3 (kindsX op kind line 2 (k + 1)) kindsF) = (List.range 9).map fun k => some (wantC 2 (k + 1) line, wantC 2 (k + 1) line) := by kernel_rfl
set_option maxRecDepth 100000 in
theorem kinds_3 (op kind line : Int) : (List.range 9).map (fun k => runPre cfgC4 300 301 kindsA kindsL 3 (kindsX op kind line 3 (k + 1)) kindsF) = (List.range 9).map fun k => some (wantC 3 (k + 1) line, wantC 3 (k + 1) line) := by kernel_rfl
set_option maxRecDepth 100000 in
theorem kinds_4 (op kind line : Int) : (List.range 9).map (fun k => runPre cfgC4 300 301 kindsA kindsL 3 (kindsX op kind line 4 (k + 1)) kindsF) = (List.range 9).map fun k => some (wantC 4 (k + 1) line, wantC 4 (k + 1) line) := by kernel_rfl
set_option maxRecDepth 100000 in
theorem kinds_5 (op kind line : Int) : (List.range 9).map (fun k => runPre cfgC4 300 301 kindsA kindsL 3 (kindsX op kind line 5 (k + 1)) kindsF) = (List.range 9).map fun k => some (wantC 5 (k + 1) line, wantC 5 (k + 1) line) := by kernel_rfl
set_option maxRecDepth 100000 in
theorem kinds_6 (op kind line : Int) : (List.range 9).map (fun k => runPre cfgC4 300 301 kindsA kindsL 3 (kindsX op kind line 6 (k + 1)) kindsF) = (List.range 9).map fun k => some (wantC 6 (k + 1) line, wantC 6 (k + 1) line) := by kernel_rfl
set_option maxRecDepth 100000 in
theorem kinds_7 (op kind line : Int) : (List.range 9).map (fun k => runPre cfgC4 300 301 kindsA kindsL 3 (kindsX op kind line 7 (k + 1)) kindsF) = (List.range 9).map fun k => some (wantC 7 (k + 1) line, wantC 7 (k + 1) line) := by kernel_rfl
end Go.Pe
