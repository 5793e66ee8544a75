/-
  ConsoleTexts: the row's closed facts, one by one.
  No condition.
-/
import Derived.Test.YtnncgjhgmmdilaaGreatDoorRows
import Derived.Test.YtnncgjhgmmdilaaGreatDoorChecked
import Derived.ProofKit
import Derived.OpenShut
import Derived.LaidMore
import Derived.SevenTiedAt
namespace Go.Proofs.YtnncgjhgmmdilaaGreatDoor.consoleTexts
set_option linter.unusedSimpArgs false
set_option linter.unusedVariables false
theorem andB {a b : Bool} (h : a = true) (k : b = true) : (a && b) = true := by rw [h, k]; rfl
set_option maxHeartbeats 20000000 in
theorem joined : joinedFacts Tryz.pinned.checked.prog 3 Tryz.f3 Rows.consoleTextsSpec Rows.consoleTextsRow = true := by
  unfold joinedFacts
  repeat' with_reducible refine andB ?_ ?_
  all_goals as_aux_lemma => kernel_rfl
end Go.Proofs.YtnncgjhgmmdilaaGreatDoor.consoleTexts
