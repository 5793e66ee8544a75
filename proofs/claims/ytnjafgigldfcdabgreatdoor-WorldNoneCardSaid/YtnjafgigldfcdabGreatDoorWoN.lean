/-
  WorldNone: works, on what its calls leave.
-/
import Derived.Test.YtnjafgigldfcdabGreatDoorWoC0
import Derived.Test.YtnjafgigldfcdabGreatDoorWoC1
import Derived.Test.YtnjafgigldfcdabGreatDoorWoC2
import Derived.Test.YtnjafgigldfcdabGreatDoorWoC3
import Derived.Test.YtnjafgigldfcdabGreatDoorWoC4
import Derived.Test.YtnjafgigldfcdabGreatDoorWoC5
import Derived.Test.YtnjafgigldfcdabGreatDoorWoC6
namespace Go.Proofs.YtnjafgigldfcdabGreatDoor.Ab
set_option linter.unusedSimpArgs false
set_option linter.unusedVariables false
open Go
noncomputable section
def envM : Env := ⟨fun f => bif Nat.beq f 11 then some (memoG [m0]) else bif Nat.beq f 5 then some (memoG [m1, m2, m3, m4, m5, m6]) else none, fun _ _ => none⟩
theorem envM_ok [ρ : Rho] : EnvOK Tryz.prog envM := envOK_fn (fun f g hg args H o v H' _ hgs _ => by
  simp only [envM] at hg
  cases h0 : Nat.beq f 11 with
  | true =>
    simp only [h0, cond_true, Option.some.injEq] at hg; subst hg
    obtain rfl := Nat.eq_of_beq_eq_true h0
    exact memoG_ok noCountW none0_ok (fun M hM => by
      simp only [List.mem_cons, List.not_mem_nil, or_false] at hM
      rcases hM with rfl
      · exact m0_chk) hgs
  | false =>
    rw [h0] at hg; simp only [cond_false] at hg
    cases h1 : Nat.beq f 5 with
    | true =>
      simp only [h1, cond_true, Option.some.injEq] at hg; subst hg
      obtain rfl := Nat.eq_of_beq_eq_true h1
      exact memoG_ok noCountW none0_ok (fun M hM => by
        simp only [List.mem_cons, List.not_mem_nil, or_false] at hM
        rcases hM with rfl | rfl | rfl | rfl | rfl | rfl
        · exact m1_chk
        · exact m2_chk
        · exact m3_chk
        · exact m4_chk
        · exact m5_chk
        · exact m6_chk) hgs
    | false =>
      rw [h1] at hg; simp only [cond_false] at hg
      cases hg) fun _ _ => rfl
set_option maxRecDepth 100000 in
theorem works27 : Tree.allT (evFun Tryz.prog envM 1000 fWks [] HzW fun v _ => .leaf v) = true := by kernel_rfl
end
end Go.Proofs.YtnjafgigldfcdabGreatDoor.Ab
