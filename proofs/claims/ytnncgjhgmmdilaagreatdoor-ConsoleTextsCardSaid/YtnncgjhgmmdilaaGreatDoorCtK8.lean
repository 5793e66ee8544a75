/-
  ConsoleTexts: the call kept as m8 leaves what is told.
  Conditions: as each theorem tells.
-/
import Derived.Test.YtnncgjhgmmdilaaGreatDoorCtM
namespace Go.Proofs.YtnncgjhgmmdilaaGreatDoor.Ab
set_option linter.unusedSimpArgs false
set_option linter.unusedVariables false
open Go Go.Proofs.YtnncgjhgmmdilaaGreatDoor Go.RowKit
noncomputable section
set_option maxRecDepth 100000 in
theorem m8_chk : m8.chk Tryz.prog envB fDoW = true := by kernel_rfl
end
end Go.Proofs.YtnncgjhgmmdilaaGreatDoor.Ab
