/-
  MsgsKnown: rounds of its third loop, part 0.
  No condition.
-/
import Derived.Test.YtamibbjpapkfeaaMsgK
namespace Go.Proofs.Ytamibbjpapkfeaa.Ab
set_option linter.unusedSimpArgs false
set_option linter.unusedVariables false
open Go
set_option maxRecDepth 100000 in
theorem row22_0 : ((List.range 16).all fun n => round22 .normal (0 + n) (0 + n + 1)) = true := by kernel_rfl
set_option maxRecDepth 100000 in
theorem row22_1 : ((List.range 16).all fun n => round22 .normal (16 + n) (16 + n + 1)) = true := by kernel_rfl
set_option maxRecDepth 100000 in
theorem row22_2 : ((List.range 16).all fun n => round22 .normal (32 + n) (32 + n + 1)) = true := by kernel_rfl
set_option maxRecDepth 100000 in
theorem row22_3 : ((List.range 16).all fun n => round22 .normal (48 + n) (48 + n + 1)) = true := by kernel_rfl
set_option maxRecDepth 100000 in
theorem row22_4 : ((List.range 16).all fun n => round22 .normal (64 + n) (64 + n + 1)) = true := by kernel_rfl
set_option maxRecDepth 100000 in
theorem row22_5 : ((List.range 16).all fun n => round22 .normal (80 + n) (80 + n + 1)) = true := by kernel_rfl
set_option maxRecDepth 100000 in
theorem row22_6 : ((List.range 16).all fun n => round22 .normal (96 + n) (96 + n + 1)) = true := by kernel_rfl
set_option maxRecDepth 100000 in
theorem row22_7 : ((List.range 16).all fun n => round22 .normal (112 + n) (112 + n + 1)) = true := by kernel_rfl
end Go.Proofs.Ytamibbjpapkfeaa.Ab
