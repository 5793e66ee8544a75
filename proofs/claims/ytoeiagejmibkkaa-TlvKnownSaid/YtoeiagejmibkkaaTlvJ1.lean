/-
  TlvKnown: rounds of its first loop, 0 to 63.
  No condition.
-/
import Derived.Test.YtoeiagejmibkkaaTlvJ
namespace Go.Proofs.Ytoeiagejmibkkaa.Ab
set_option linter.unusedSimpArgs false
set_option linter.unusedVariables false
open Go
set_option maxRecDepth 100000 in
theorem tlvRow0 : tlvRow 0 = true := by kernel_rfl
set_option maxRecDepth 100000 in
theorem tlvRow1 : tlvRow 1 = true := by kernel_rfl
set_option maxRecDepth 100000 in
theorem tlvRow2 : tlvRow 2 = true := by kernel_rfl
set_option maxRecDepth 100000 in
theorem tlvRow3 : tlvRow 3 = true := by kernel_rfl
end Go.Proofs.Ytoeiagejmibkkaa.Ab
