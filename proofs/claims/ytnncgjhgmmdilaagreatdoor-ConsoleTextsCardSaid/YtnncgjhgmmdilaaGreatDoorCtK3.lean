/-
  ConsoleTexts: the call kept as m3 leaves what is told.
  Conditions: as each theorem tells.
-/
import Derived.Test.YtnncgjhgmmdilaaGreatDoorCtM
namespace Go.Proofs.YtnncgjhgmmdilaaGreatDoor.Ab
set_option linter.unusedSimpArgs false
set_option linter.unusedVariables false
open Go Go.Proofs.YtnncgjhgmmdilaaGreatDoor Go.RowKit
noncomputable section
set_option maxRecDepth 100000 in
theorem m3_chk : m3.chkC (evFunD Tryz.prog env1 fL1 1000) fLine = true := by kernel_rfl
end
end Go.Proofs.YtnncgjhgmmdilaaGreatDoor.Ab
