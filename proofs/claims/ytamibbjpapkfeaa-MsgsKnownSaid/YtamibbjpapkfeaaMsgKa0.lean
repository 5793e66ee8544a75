/-
  MsgsKnown: rounds of its second loop, part 0.
  No condition.
-/
import Derived.Test.YtamibbjpapkfeaaMsgK
namespace Go.Proofs.Ytamibbjpapkfeaa.Ab
set_option linter.unusedSimpArgs false
set_option linter.unusedVariables false
open Go
set_option maxRecDepth 100000 in
theorem row8_0 : ((List.range 32).all fun n => round8 .normal 0 n (n + 1)) = true := by kernel_rfl
set_option maxRecDepth 100000 in
theorem last8_0 : round8 (.exit 2) 0 32 32 = true := by kernel_rfl
set_option maxRecDepth 100000 in
theorem row8_1 : ((List.range 32).all fun n => round8 .normal 1 n (n + 1)) = true := by kernel_rfl
set_option maxRecDepth 100000 in
theorem last8_1 : round8 (.exit 2) 1 32 32 = true := by kernel_rfl
set_option maxRecDepth 100000 in
theorem row8_2 : ((List.range 32).all fun n => round8 .normal 2 n (n + 1)) = true := by kernel_rfl
set_option maxRecDepth 100000 in
theorem last8_2 : round8 (.exit 2) 2 32 32 = true := by kernel_rfl
set_option maxRecDepth 100000 in
theorem row8_3 : ((List.range 32).all fun n => round8 .normal 3 n (n + 1)) = true := by kernel_rfl
set_option maxRecDepth 100000 in
theorem last8_3 : round8 (.exit 2) 3 32 32 = true := by kernel_rfl
end Go.Proofs.Ytamibbjpapkfeaa.Ab
