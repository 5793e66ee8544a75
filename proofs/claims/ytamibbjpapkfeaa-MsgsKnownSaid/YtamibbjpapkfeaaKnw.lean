/-
  Closed loops: rounds that the kernel checks one by one. A state with letters, told for each round what they stand for.
  Conditions: as each theorem tells.
-/
import Derived.Test.YtamibbjpapkfeaaAbF
namespace Go.Proofs.Ytamibbjpapkfeaa.Ab
set_option linter.unusedSimpArgs false
set_option linter.unusedVariables false
open Go
set_option linter.unusedSectionVars false
noncomputable section
def srB : Sr → Dat → Dat → Bool
  | .sB, a, b => a.asB == b.asB
  | .sI, a, b => eqZ a.asI b.asI
  | .sS, a, b => eqL a.asS b.asS
  | .sL, _, _ => false
def eqsB (ρ' ρ : Rho) : Eqs → Bool
  | [] => true
  | (s, x, y) :: l => srB s (@Tm.den ρ' x) (@Tm.den ρ y) && eqsB ρ' ρ l
theorem eqsB_ok {ρ' ρ : Rho} : ∀ {es : Eqs}, eqsB ρ' ρ es = true → EqsOk ρ' ρ es
  | [], _ => trivial
  | (s, x, y) :: l, h => by
    simp only [eqsB, Bool.and_eq_true] at h
    refine ⟨?_, eqsB_ok h.2⟩
    have h1 := h.1
    cases s with
    | sB => simpa [srB, eqSr] using h1
    | sI => exact eqZ_eq _ _ h1
    | sS => exact eqL_eq _ _ h1
    | sL => cases h1
/-- What a round came to: how it ended, and the equations of the next state. -/
def chkR (x : AX) (t : Option (AX × Option Eqs)) (ρ' ρ : Rho) : Bool := match t with
  | some (y, some es) => eqX y x && eqsB ρ' ρ es
  | _ => false
theorem chkR_ok {x : AX} {t : Option (AX × Option Eqs)} {ρ' ρ : Rho} (h : chkR x t ρ' ρ = true) : ∃ es, t = some (x, some es) ∧ EqsOk ρ' ρ es := by
  unfold chkR at h
  split at h
  · rename_i y es
    simp only [Bool.and_eq_true] at h
    rw [eqX_eq h.1]
    exact ⟨es, rfl, eqsB_ok h.2⟩
  · cases h
/-- A law's answer, plainly true. -/
def chkB (t : Option AV) : Bool := match t with
  | some (.bool b) => b
  | _ => false
theorem chkB_ok {t : Option AV} (h : chkB t = true) : t = some (.bool true) := by
  unfold chkB at h
  split at h
  · rename_i b; subst h; rfl
  · cases h
end
end Go.Proofs.Ytamibbjpapkfeaa.Ab
