/-
  CheckKinds: its cases by the kernel (2). No condition.
-/
import Derived.Test.YtjnofhibldppoaaChkA
set_option linter.unusedVariables false
namespace Go.Pe
open Go

set_option maxRecDepth 100000 in
theorem kinds_8 (op kind line : Int) : (List.range 9).map (fun k => runPre cfgC4 300 301 kindsA kindsL 3 (kindsX op kind line 8 (k + 1)) kindsF) = (List.range 9).map fun k => some (wantC 8 (k + 1) line, wantC 8 (k + 1) line) := by kernel_rfl
set_option maxRecDepth 100000 in
theorem kinds_9 (op kind line : Int) : (List.range 9).map (fun k => runPre cfgC4 300 301 kindsA kindsL 3 (kindsX op kind line 9 (k + 1)) kindsF) = (List.range 9).map fun k => some (wantC 9 (k + 1) line, wantC 9 (k + 1) line) := by kernel_rfl
set_option maxRecDepth 100000 in
theorem kinds_10 (op kind line : Int) : (List.range 9).map (fun k => runPre cfgC4 300 301 kindsA kindsL 3 (kindsX op kind line 10 (k + 1)) kindsF) = (List.range 9).map fun k => some (wantC 10 (k + 1) line, wantC 10 (k + 1) line) := by kernel_rfl
set_option maxRecDepth 100000 in
theorem kinds_11 (op kind line : Int) : (List.range 9).map (fun k => runPre cfgC4 300 301 kindsA kindsL 3 (kindsX op kind line 11 (k + 1)) kindsF) = (List.range 9).map fun k => some (wantC 11 (k + 1) line, wantC 11 (k + 1) line) := by kernel_rfl
set_option maxRecDepth 100000 in
theorem kinds_12 (op kind line : Int) : (List.range 9).map (fun k => runPre cfgC4 300 301 kindsA kindsL 3 (kindsX op kind line 12 (k + 1)) kindsF) = (List.range 9).map fun k => some (wantC 12 (k + 1) line, wantC 12 (k + 1) line) := by kernel_rfl
set_option maxRecDepth 100000 in
theorem kinds_13 (op kind line : Int) : (List.range 9).map (fun k => runPre cfgC4 300 301 kindsA kindsL 3 (kindsX op kind line 13 (k + 1)) kindsF) = (List.range 9).map fun k => some (wantC 13 (k + 1) line, wantC 13 (k + 1) line) := by kernel_rfl
set_option maxRecDepth 100000 in
theorem kinds_14 (op kind line : Int) : (List.range 9).map (fun k => runPre cfgC4 300 301 kindsA kindsL 3 (kindsX op kind line 14 (k + 1)) kindsF) = (List.range 9).map fun k => some (wantC 14 (k + 1) line, wantC 14 (k + 1) line) := by kernel_rfl
set_option maxRecDepth 100000 in
theorem kinds_15 (op kind line : Int) : (List.range 9).map (fun k => runPre cfgC4 300 301 kindsA kindsL 3 (kindsX op kind line 15 (k + 1)) kindsF) = (List.range 9).map fun k => some (wantC 15 (k + 1) line, wantC 15 (k + 1) line) := by kernel_rfl
end Go.Pe
