/-
  ConsoleTexts: for every input the Go text returns true, and its arguments read behind the call as they did ahead of it. Condition: none (the statement's own).
-/
import Derived.Test.YtnncgjhgmmdilaaGreatDoorCtY
import Derived.Test.YtnncgjhgmmdilaaGreatDoorCtZ
import Derived.Test.YtnncgjhgmmdilaaGreatDoorCards
import Derived.Test.YtnncgjhgmmdilaaGreatDoorTie
import Derived.SevenTiedAt
namespace Go.Proofs.YtnncgjhgmmdilaaGreatDoor.consoleTexts
set_option linter.unusedSimpArgs false
set_option linter.unusedVariables false
open Go.ChangeShapes Go.WideShapes Go.ChangeAt Go.RowKit
open Go.ChangeMaps (open_string shut_string)
set_option maxHeartbeats 20000000 in
theorem proved : Rows.ConsoleTextsSaid := by
  refine OpenClaim.holds_of_wide 3 Tryz.f3 rfl rfl rfl rfl rfl rfl rfl ⟨rfl, rfl, rfl, rfl, rfl⟩ rfl rfl rfl rfl rfl ?f1 Tryz.func3 ?f2 (of_decide_eq_true ?f3) ?f4 (fun os started H enc _ => lifted os started H enc)
  case f1 => as_aux_lemma => kernel_rfl
  case f2 => exact joined
  case f3 => as_aux_lemma => kernel_rfl
  case f4 => unfold Func.isWrapper; first | (rw [if_pos (by decide +kernel)]; kernel_rfl) | (rw [if_neg (by decide +kernel)]; exact ⟨rfl, rfl⟩)
set_option maxHeartbeats 20000000 in
/-- The tied card. -/
theorem card : Rows.ConsoleTextsCardSaid := by
  refine Claim7.holds_tied_plain_at .later [] [.data, .data, .data, .data, .data, .sentinel, .sentinel, .data, .pinned] true (true, "a2a6749fc012a51b719cb47d45460b09c751d0f3bf661cafb5e8a5c49fd4afcd") true
    proved (fun _ h => by cases h) ?f1 (fun _ h => by cases h) consoleTexts_row_tie rfl ⟨rfl, rfl⟩ ?f2 rfl
    (fun f fn hf hfn => by
      obtain rfl : f = 3 := Option.some.inj ((show Tryz.prog.funcNamed "partyline/partylinelaw30.ConsoleTexts" = some 3 by kernel_rfl).symm.trans hf) |>.symm
      obtain rfl : fn = Tryz.f3 := (Option.some.inj (Tryz.func3.symm.trans hfn)).symm
      exact ⟨by kernel_rfl, fun j t ht => by
        rw [Tryz.params3] at ht
        have hm : t ∈ [9] := by simpa using Array.mem_of_getElem? ht
        have hall : ([9].all fun u => !Tryz.prog.wantsStandIn u) = true := by kernel_rfl
        exact (show Tryz.prog.wantsStandIn t = false by simpa using List.all_eq_true.1 hall t hm)⟩)
    ?f3
  case f1 => as_aux_lemma => kernel_rfl
  case f2 => as_aux_lemma => kernel_rfl
  case f3 => as_aux_lemma => kernel_rfl
#print axioms card
end Go.Proofs.YtnncgjhgmmdilaaGreatDoor.consoleTexts
