/-
  TlvKnown: rounds of its first loop, 64 to 127.
  No condition.
-/
import Derived.Test.YtoeiagejmibkkaaTlvJ
namespace Go.Proofs.Ytoeiagejmibkkaa.Ab
set_option linter.unusedSimpArgs false
set_option linter.unusedVariables false
open Go
set_option maxRecDepth 100000 in
theorem tlvRow4 : tlvRow 4 = true := by kernel_rfl
set_option maxRecDepth 100000 in
theorem tlvRow5 : tlvRow 5 = true := by kernel_rfl
set_option maxRecDepth 100000 in
theorem tlvRow6 : tlvRow 6 = true := by kernel_rfl
set_option maxRecDepth 100000 in
theorem tlvRow7 : tlvRow 7 = true := by kernel_rfl
end Go.Proofs.Ytoeiagejmibkkaa.Ab
