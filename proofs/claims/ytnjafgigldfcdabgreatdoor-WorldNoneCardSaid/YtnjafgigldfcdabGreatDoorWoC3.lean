/-
  WorldNone: the call numbered 3 leaves what is told.
-/
import Derived.Test.YtnjafgigldfcdabGreatDoorWoM
namespace Go.Proofs.YtnjafgigldfcdabGreatDoor.Ab
set_option linter.unusedSimpArgs false
set_option linter.unusedVariables false
open Go
noncomputable section
set_option maxRecDepth 100000 in
theorem m3_chk : m3.chk Tryz.prog none0 5 = true := by kernel_rfl
end
end Go.Proofs.YtnjafgigldfcdabGreatDoor.Ab
