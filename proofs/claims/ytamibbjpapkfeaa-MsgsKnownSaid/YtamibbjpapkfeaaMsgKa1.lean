/-
  MsgsKnown: rounds of its second loop, part 1.
  No condition.
-/
import Derived.Test.YtamibbjpapkfeaaMsgK
namespace Go.Proofs.Ytamibbjpapkfeaa.Ab
set_option linter.unusedSimpArgs false
set_option linter.unusedVariables false
open Go
set_option maxRecDepth 100000 in
theorem row8_4 : ((List.range 32).all fun n => round8 .normal 4 n (n + 1)) = true := by kernel_rfl
set_option maxRecDepth 100000 in
theorem last8_4 : round8 (.exit 2) 4 32 32 = true := by kernel_rfl
set_option maxRecDepth 100000 in
theorem row8_5 : ((List.range 32).all fun n => round8 .normal 5 n (n + 1)) = true := by kernel_rfl
set_option maxRecDepth 100000 in
theorem last8_5 : round8 (.exit 2) 5 32 32 = true := by kernel_rfl
set_option maxRecDepth 100000 in
theorem row8_6 : ((List.range 32).all fun n => round8 .normal 6 n (n + 1)) = true := by kernel_rfl
set_option maxRecDepth 100000 in
theorem last8_6 : round8 (.exit 2) 6 32 32 = true := by kernel_rfl
set_option maxRecDepth 100000 in
theorem row8_7 : ((List.range 32).all fun n => round8 .normal 7 n (n + 1)) = true := by kernel_rfl
set_option maxRecDepth 100000 in
theorem last8_7 : round8 (.exit 2) 7 32 32 = true := by kernel_rfl
end Go.Proofs.Ytamibbjpapkfeaa.Ab
