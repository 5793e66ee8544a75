/-
  MsgsKnown: rounds of its second loop, part 2.
  No condition.
-/
import Derived.Test.YtamibbjpapkfeaaMsgK
namespace Go.Proofs.Ytamibbjpapkfeaa.Ab
set_option linter.unusedSimpArgs false
set_option linter.unusedVariables false
open Go
set_option maxRecDepth 100000 in
theorem row8_8 : ((List.range 32).all fun n => round8 .normal 8 n (n + 1)) = true := by kernel_rfl
set_option maxRecDepth 100000 in
theorem last8_8 : round8 (.exit 2) 8 32 32 = true := by kernel_rfl
set_option maxRecDepth 100000 in
theorem row8_9 : ((List.range 32).all fun n => round8 .normal 9 n (n + 1)) = true := by kernel_rfl
set_option maxRecDepth 100000 in
theorem last8_9 : round8 (.exit 2) 9 32 32 = true := by kernel_rfl
set_option maxRecDepth 100000 in
theorem row8_10 : ((List.range 32).all fun n => round8 .normal 10 n (n + 1)) = true := by kernel_rfl
set_option maxRecDepth 100000 in
theorem last8_10 : round8 (.exit 2) 10 32 32 = true := by kernel_rfl
end Go.Proofs.Ytamibbjpapkfeaa.Ab
