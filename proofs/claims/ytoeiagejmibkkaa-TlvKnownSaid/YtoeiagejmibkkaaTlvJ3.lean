/-
  TlvKnown: rounds of its first loop, 128 to 191.
  No condition.
-/
import Derived.Test.YtoeiagejmibkkaaTlvJ
namespace Go.Proofs.Ytoeiagejmibkkaa.Ab
set_option linter.unusedSimpArgs false
set_option linter.unusedVariables false
open Go
set_option maxRecDepth 100000 in
theorem tlvRow8 : tlvRow 8 = true := by kernel_rfl
set_option maxRecDepth 100000 in
theorem tlvRow9 : tlvRow 9 = true := by kernel_rfl
set_option maxRecDepth 100000 in
theorem tlvRow10 : tlvRow 10 = true := by kernel_rfl
set_option maxRecDepth 100000 in
theorem tlvRow11 : tlvRow 11 = true := by kernel_rfl
end Go.Proofs.Ytoeiagejmibkkaa.Ab
