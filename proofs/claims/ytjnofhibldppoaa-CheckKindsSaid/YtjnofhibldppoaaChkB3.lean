/-
  CheckKinds: its cases by the kernel (3). No condition.
-/
import Derived.Test.YtjnofhibldppoaaChkA
set_option linter.unusedVariables false
namespace Go.Pe
open Go

set_option maxRecDepth 100000 in
theorem kinds_16 (op kind line : Int) : (List.range 9).map (fun k => runPre cfgC4 300 301 kindsA kindsL 3 (kindsX op kind line 16 (k + 1)) kindsF) = (List.range 9).map fun k => some (wantC 16 (k + 1) line, wantC 16 (k + 1) line) := by kernel_rfl
set_option maxRecDepth 100000 in
theorem kinds_17 (op kind line : Int) : (List.range 9).map (fun k => runPre cfgC4 300 301 kindsA kindsL 3 (kindsX op kind line 17 (k + 1)) kindsF) = (List.range 9).map fun k => some (wantC 17 (k + 1) line, wantC 17 (k + 1) line) := by kernel_rfl
set_option maxRecDepth 100000 in
theorem kinds_18 (op kind line : Int) : (List.range 9).map (fun k => runPre cfgC4 300 301 kindsA kindsL 3 (kindsX op kind line 18 (k + 1)) kindsF) = (List.range 9).map fun k => some (wantC 18 (k + 1) line, wantC 18 (k + 1) line) := by kernel_rfl
set_option maxRecDepth 100000 in
theorem kinds_19 (op kind line : Int) : (List.range 9).map (fun k => runPre cfgC4 300 301 kindsA kindsL 3 (kindsX op kind line 19 (k + 1)) kindsF) = (List.range 9).map fun k => some (wantC 19 (k + 1) line, wantC 19 (k + 1) line) := by kernel_rfl
set_option maxRecDepth 100000 in
theorem kinds_20 (op kind line : Int) : (List.range 9).map (fun k => runPre cfgC4 300 301 kindsA kindsL 3 (kindsX op kind line 20 (k + 1)) kindsF) = (List.range 9).map fun k => some (wantC 20 (k + 1) line, wantC 20 (k + 1) line) := by kernel_rfl
set_option maxRecDepth 100000 in
theorem kinds_21 (op kind line : Int) : (List.range 9).map (fun k => runPre cfgC4 300 301 kindsA kindsL 3 (kindsX op kind line 21 (k + 1)) kindsF) = (List.range 9).map fun k => some (wantC 21 (k + 1) line, wantC 21 (k + 1) line) := by kernel_rfl
set_option maxRecDepth 100000 in
theorem kinds_22 (op kind line : Int) : (List.range 9).map (fun k => runPre cfgC4 300 301 kindsA kindsL 3 (kindsX op kind line 22 (k + 1)) kindsF) = (List.range 9).map fun k => some (wantC 22 (k + 1) line, wantC 22 (k + 1) line) := by kernel_rfl
set_option maxRecDepth 100000 in
theorem kinds_23 (op kind line : Int) : (List.range 9).map (fun k => runPre cfgC4 300 301 kindsA kindsL 3 (kindsX op kind line 23 (k + 1)) kindsF) = (List.range 9).map fun k => some (wantC 23 (k + 1) line, wantC 23 (k + 1) line) := by kernel_rfl
end Go.Pe
