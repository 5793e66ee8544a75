/-
  ConsoleTexts: the chapter's example, run on what its calls leave.
  Conditions: as each theorem tells.
-/
import Derived.Test.YtnncgjhgmmdilaaGreatDoorCtU
import Derived.Test.YtnncgjhgmmdilaaGreatDoorCtK0
import Derived.Test.YtnncgjhgmmdilaaGreatDoorCtK1
import Derived.Test.YtnncgjhgmmdilaaGreatDoorCtK2
import Derived.Test.YtnncgjhgmmdilaaGreatDoorCtK3
import Derived.Test.YtnncgjhgmmdilaaGreatDoorCtK4
import Derived.Test.YtnncgjhgmmdilaaGreatDoorCtK5
import Derived.Test.YtnncgjhgmmdilaaGreatDoorCtK6
import Derived.Test.YtnncgjhgmmdilaaGreatDoorCtK7
import Derived.Test.YtnncgjhgmmdilaaGreatDoorCtK8
import Derived.Test.YtnncgjhgmmdilaaGreatDoorCtK9
import Derived.Test.YtnncgjhgmmdilaaGreatDoorCtK10
import Derived.Test.YtnncgjhgmmdilaaGreatDoorCtK11
import Derived.Test.YtnncgjhgmmdilaaGreatDoorCtK12
import Derived.Test.YtnncgjhgmmdilaaGreatDoorCtK13
import Derived.Test.YtnncgjhgmmdilaaGreatDoorCtK14
import Derived.Test.YtnncgjhgmmdilaaGreatDoorCtK15
namespace Go.Proofs.YtnncgjhgmmdilaaGreatDoor.Ab
set_option linter.unusedSimpArgs false
set_option linter.unusedVariables false
open Go Go.Proofs.YtnncgjhgmmdilaaGreatDoor Go.RowKit
noncomputable section
theorem newL_chk : ∀ M ∈ newL, M.chk Tryz.prog envB fNewW = true := fun M hM => by
  simp only [newL, List.mem_cons, List.not_mem_nil, or_false] at hM
  subst hM
  exact m2_chk
theorem doL_chk : ∀ M ∈ doL, M.chk Tryz.prog envB fDoW = true := fun M hM => by
  simp only [doL, List.mem_cons, List.not_mem_nil, or_false] at hM
  rcases hM with rfl | rfl | rfl | rfl | rfl | rfl
  · exact m0_chk
  · exact m4_chk
  · exact m6_chk
  · exact m8_chk
  · exact m10_chk
  · exact m12_chk
theorem lms_chk : ∀ M ∈ lms, M.chkC (evFunD Tryz.prog env1 fL1 1000) fLine = true := fun M hM => by
  simp only [lms, List.mem_cons, List.not_mem_nil, or_false] at hM
  rcases hM with rfl | rfl | rfl | rfl | rfl | rfl | rfl | rfl | rfl
  · exact m1_chk
  · exact m3_chk
  · exact m5_chk
  · exact m7_chk
  · exact m9_chk
  · exact m11_chk
  · exact m13_chk
  · exact m14_chk
  · exact m15_chk
theorem env1_ok {ρ : Rho} : @EnvOK ρ Tryz.prog env1 := by
  letI := ρ
  refine envOK_fn (fun f g hg args H o v H' hp hgs ho => ?_) fun _ _ => rfl
  simp only [env1] at hg
  cases hb : Nat.beq f fNewW with
  | true =>
    simp only [hb, cond_true, Option.some.injEq] at hg; subst hg
    obtain rfl := Nat.eq_of_beq_eq_true hb
    exact memoG_ok noCount envB_ok newL_chk hgs
  | false =>
    rw [hb] at hg; simp only [cond_false] at hg
    cases hd : Nat.beq f fDoW with
    | true =>
      simp only [hd, cond_true, Option.some.injEq] at hg; subst hg
      obtain rfl := Nat.eq_of_beq_eq_true hd
      exact memoG_ok noCount envB_ok doL_chk hgs
    | false =>
      rw [hd] at hg
      exact tabOK_get tabB_ok f g hg args H o v H' hp hgs ho
theorem lms_ok (ρ : Rho) : ∀ M ∈ lms, @MemoS ρ Tryz.prog fLine M := fun M hM {H} h1 h2 => by
  letI := ρ
  exact memoC_ok (evFunD_ok noCount env1_ok (fun x w => line1_idle x w) 1000) (lms_chk M hM) h1 h2
set_option maxRecDepth 100000 in
theorem lms_run : okRun lms = true := by kernel_rfl
theorem runOK : RunOK := fun w hp => run_calls lms lms_ok lms_run w hp
end
end Go.Proofs.YtnncgjhgmmdilaaGreatDoor.Ab
