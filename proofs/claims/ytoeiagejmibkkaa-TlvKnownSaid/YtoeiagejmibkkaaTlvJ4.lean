/-
  TlvKnown: rounds of its first loop, 192 to 255.
  No condition.
-/
import Derived.Test.YtoeiagejmibkkaaTlvJ
namespace Go.Proofs.Ytoeiagejmibkkaa.Ab
set_option linter.unusedSimpArgs false
set_option linter.unusedVariables false
open Go
set_option maxRecDepth 100000 in
theorem tlvRow12 : tlvRow 12 = true := by kernel_rfl
set_option maxRecDepth 100000 in
theorem tlvRow13 : tlvRow 13 = true := by kernel_rfl
set_option maxRecDepth 100000 in
theorem tlvRow14 : tlvRow 14 = true := by kernel_rfl
set_option maxRecDepth 100000 in
theorem tlvRow15 : tlvRow 15 = true := by kernel_rfl
end Go.Proofs.Ytoeiagejmibkkaa.Ab
