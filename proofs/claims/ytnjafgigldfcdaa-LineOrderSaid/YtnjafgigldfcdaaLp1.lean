/-
  Loops within loops, as contracts.
  Conditions: as each theorem tells.
-/
import Derived.Test.YtnjafgigldfcdaaVt
namespace Go.Proofs.Ytnjafgigldfcdaa.Ab
set_option linter.unusedSimpArgs false
set_option linter.unusedVariables false
open Go
set_option linter.unusedSectionVars false
noncomputable section
/-- A contract of a loop that stands in another one's body. -/
theorem lfSub_ok {ρ : Rho} {f : FuncId} {key i j a n : Nat} {g : LpG} (hs : loopsOf (lpBody Try.prog f i) = ((lpList Try.prog f).drop a).take n) (hk : keyAt Try.prog f key j = true) (hg : GOk ρ f j g) : @LpOK ρ Try.prog (lf1 key g) (lpBody Try.prog f i) := by
  intro body hb g' hl st o x st' hp h1 h2
  have hm : body ∈ lpList Try.prog f := by
    rw [hs] at hb
    exact List.mem_of_mem_drop (List.mem_of_mem_take hb)
  unfold lf1 at hl
  cases hkey : Nat.beq (loopKey body) key with
  | false => rw [hkey] at hl; cases hl
  | true =>
    rw [hkey] at hl
    simp only [cond_true, Option.some.injEq] at hl
    subst hl
    obtain ⟨m, hm1, hmb⟩ := List.getElem_of_mem hm
    have hn' : (lpList Try.prog f)[m]? = some body := by rw [List.getElem?_eq_getElem hm1, hmb]
    have := keyAt_go _ 0 hk m body hn' (Nat.eq_of_beq_eq_true hkey)
    have eb : lpBody Try.prog f j = body := by
      unfold lpBody
      rw [List.getD_eq_getElem?_getD, ← this, Nat.zero_add, hn']; rfl
    rw [← eb]
    exact hg st o x st' h1 h2
end
end Go.Proofs.Ytnjafgigldfcdaa.Ab
