/-
  MsgsKnown: rounds of its third loop, part 1.
  No condition.
-/
import Derived.Test.YtamibbjpapkfeaaMsgK
namespace Go.Proofs.Ytamibbjpapkfeaa.Ab
set_option linter.unusedSimpArgs false
set_option linter.unusedVariables false
open Go
set_option maxRecDepth 100000 in
theorem row22_8 : ((List.range 16).all fun n => round22 .normal (128 + n) (128 + n + 1)) = true := by kernel_rfl
set_option maxRecDepth 100000 in
theorem row22_9 : ((List.range 16).all fun n => round22 .normal (144 + n) (144 + n + 1)) = true := by kernel_rfl
set_option maxRecDepth 100000 in
theorem row22_10 : ((List.range 16).all fun n => round22 .normal (160 + n) (160 + n + 1)) = true := by kernel_rfl
set_option maxRecDepth 100000 in
theorem row22_11 : ((List.range 16).all fun n => round22 .normal (176 + n) (176 + n + 1)) = true := by kernel_rfl
set_option maxRecDepth 100000 in
theorem row22_12 : ((List.range 16).all fun n => round22 .normal (192 + n) (192 + n + 1)) = true := by kernel_rfl
set_option maxRecDepth 100000 in
theorem row22_13 : ((List.range 16).all fun n => round22 .normal (208 + n) (208 + n + 1)) = true := by kernel_rfl
set_option maxRecDepth 100000 in
theorem row22_14 : ((List.range 16).all fun n => round22 .normal (224 + n) (224 + n + 1)) = true := by kernel_rfl
set_option maxRecDepth 100000 in
theorem row22_15 : ((List.range 16).all fun n => round22 .normal (240 + n) (240 + n + 1)) = true := by kernel_rfl
set_option maxRecDepth 100000 in
theorem last22 : round22 (.exit 4) 256 256 = true := by kernel_rfl
set_option maxRecDepth 100000 in
theorem row5 : ((List.range 10).all fun k => round5 .normal k (k + 1)) = true := by kernel_rfl
set_option maxRecDepth 100000 in
theorem last5 : round5 (.exit 0) 10 10 = true := by kernel_rfl
end Go.Proofs.Ytamibbjpapkfeaa.Ab
