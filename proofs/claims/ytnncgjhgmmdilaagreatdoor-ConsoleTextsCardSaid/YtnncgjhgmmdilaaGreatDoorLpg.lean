/-
  Loops' contracts in environments, laws of chapters with loops: what all of them use.
  Conditions: as each theorem tells.
-/
import Derived.Test.YtnncgjhgmmdilaaGreatDoorAbF
import Derived.Test.YtnncgjhgmmdilaaGreatDoorProg
namespace Go.Proofs.YtnncgjhgmmdilaaGreatDoor.Ab
set_option linter.unusedSimpArgs false
set_option linter.unusedVariables false
open Go
set_option linter.unusedSectionVars false
set_option maxRecDepth 100000 in
theorem noCount : NoCount Tryz.prog := noCount_of (by kernel_rfl) (by kernel_rfl)
abbrev LpG : Type := St → Option (Tm × AX × St)
def lf2 (k1 : Nat) (g1 : LpG) (k2 : Nat) (g2 : LpG) : LoopF := fun k => bif Nat.beq k k1 then some g1 else bif Nat.beq k k2 then some g2 else none
/-- What a contract of a loop says holds. -/
def GOk (ρ : Rho) (f : FuncId) (i : Nat) (g : LpG) : Prop := ∀ st o x st', g st = some (o, x, st') → (@Tm.den ρ o).asB = true → @LoopS ρ Tryz.prog (lpBody Tryz.prog f i) st x st'
theorem lf2_ok {ρ : Rho} {f : FuncId} {k1 k2 i1 i2 : Nat} {g1 g2 : LpG} (h1 : keyAt Tryz.prog f k1 i1 = true) (h2 : keyAt Tryz.prog f k2 i2 = true) (o1 : GOk ρ f i1 g1) (o2 : GOk ρ f i2 g2) {fn : Func} {c : Code} (hf : Tryz.prog.funcs[f]? = some fn) (hc : fn.body = some c) : @LpOK ρ Tryz.prog (lf2 k1 g1 k2 g2) c := by
  intro body hb g hl
  unfold lf2 at hl
  cases e1 : Nat.beq (loopKey body) k1 with
  | true =>
    rw [e1] at hl
    exact lf1_ok h1 o1 hf hc body hb g (by unfold lf1; rw [e1]; exact hl)
  | false =>
    rw [e1] at hl
    simp only [cond_false] at hl
    cases e2 : Nat.beq (loopKey body) k2 with
    | true =>
      rw [e2] at hl
      exact lf1_ok h2 o2 hf hc body hb g (by unfold lf1; rw [e2]; exact hl)
    | false => rw [e2] at hl; cases hl
def dead : LpG := fun st => some (.cb false, .ret, st)
theorem dead_ok (ρ : Rho) (f : FuncId) (i : Nat) : GOk ρ f i dead := fun st o x st' h ho => by cases h; cases ho
/-- The same where it must not come. -/
def shut (g : LpG) : LpG := fun st => match g st with
  | some (_, x, st') => some (.cb false, x, st')
  | none => none
theorem shut_ok (ρ : Rho) (f : FuncId) (i : Nat) (g : LpG) : GOk ρ f i (shut g) := fun st o x st' h ho => by
  unfold shut at h
  split at h
  · cases h; cases ho
  · cases h
section
variable {ρ : Rho} {α : Type} {c : Tm} {x y : Tree α}
theorem sel_T (h : (@Tm.den ρ c).asB = true) : @Tree.sel _ ρ (.fork c x y) = @Tree.sel _ ρ x := by simp [Tree.sel, h]
theorem sel_F (h : (@Tm.den ρ c).asB = false) : @Tree.sel _ ρ (.fork c x y) = @Tree.sel _ ρ y := by simp [Tree.sel, h]
end
/-- One loop of one function. -/
def lpOne (f0 : FuncId) (key : Nat) (g : LpG) : FuncId → LoopF := fun f => bif Nat.beq f f0 then lf1 key g else fun _ => none
theorem envOne_ok {ρ : Rho} {fn : FuncId → Option (List AV → Heap → Option (Tm × AV × Heap))} (h : ∀ f g, fn f = some g → ∀ args H o v H', @PC ρ H → g args H = some (o, v, H') → (@Tm.den ρ o).asB = true → @CallS ρ Tryz.prog f args H v H' ∧ LG H H') {f0 : FuncId} {key i : Nat} {g : LpG} (hk : keyAt Tryz.prog f0 key i = true) (hg : GOk ρ f0 i g) : @EnvOK ρ Tryz.prog ⟨fn, lpOne f0 key g⟩ := by
  refine ⟨(@envOK_fn ρ _ ⟨fn, fun _ _ => none⟩ h fun _ _ => rfl).fn, fun f fn cd h1 h2 => ?_⟩
  simp only [lpOne]
  cases e1 : Nat.beq f f0 with
  | true =>
    obtain rfl := Nat.eq_of_beq_eq_true e1
    exact lf1_ok hk hg h1 h2
  | false => exact lf0_ok
end Go.Proofs.YtnncgjhgmmdilaaGreatDoor.Ab
