/-
  Short names for letters; tables of contracts.
  Conditions: as each theorem tells.
-/
import Derived.Test.YtnncgjhgmmdilaaGreatDoorLpg
namespace Go.Proofs.YtnncgjhgmmdilaaGreatDoor.Ab
set_option linter.unusedSimpArgs false
set_option linter.unusedVariables false
open Go
set_option linter.unusedSectionVars false
noncomputable section
abbrev vt (n : Nat) : Tm := .var n
abbrev iv (n : Nat) : AV := .sint .i64 (vt n)
abbrev uv (n : Nat) : AV := .sint .u8 (vt n)
abbrev bv (n : Nat) : AV := .sbool (vt n)
/-- A chain of pairs. -/
def tp : List Tm → Tm
  | [] => .cb false
  | a :: l => .pair a (tp l)
abbrev CtrG : Type := List AV → Heap → Option (Tm × AV × Heap)
def tabGet : List (Nat × CtrG) → Nat → Option CtrG
  | [], _ => none
  | p :: l, f => bif Nat.beq f p.1 then some p.2 else tabGet l f
/-- What a contract of a function says holds. -/
def CG (ρ : Rho) (f : FuncId) (g : CtrG) : Prop := ∀ args H o v H', @PC ρ H → g args H = some (o, v, H') → (@Tm.den ρ o).asB = true → @CallS ρ Tryz.prog f args H v H' ∧ LG H H'
def TabOK (ρ : Rho) : List (Nat × CtrG) → Prop
  | [] => True
  | p :: l => CG ρ p.1 p.2 ∧ TabOK ρ l
theorem tabOK_get {ρ : Rho} : ∀ {l : List (Nat × CtrG)}, TabOK ρ l → ∀ f g, tabGet l f = some g → CG ρ f g
  | [], _, f, g, h => by cases h
  | p :: l, hl, f, g, h => by
    simp only [tabGet] at h
    cases e : Nat.beq f p.1 with
    | true =>
      rw [e] at h
      simp only [cond_true, Option.some.injEq] at h
      subst h
      rw [Nat.eq_of_beq_eq_true e]
      exact hl.1
    | false =>
      rw [e] at h
      exact tabOK_get hl.2 f g h
theorem env_of {ρ : Rho} {l : List (Nat × CtrG)} (h : TabOK ρ l) : @EnvOK ρ Tryz.prog ⟨tabGet l, fun _ _ => none⟩ := @envOK_fn ρ _ ⟨tabGet l, fun _ _ => none⟩ (fun f g hg => tabOK_get h f g hg) fun _ _ => rfl
theorem tab_app {ρ : Rho} : ∀ {l m : List (Nat × CtrG)}, TabOK ρ l → TabOK ρ m → TabOK ρ (l ++ m)
  | [], _, _, h => h
  | _ :: _, _, h1, h2 => ⟨h1.1, tab_app h1.2 h2⟩
def trueC : CtrG
  | [], H => some (.cb true, .bool true, H)
  | _, _ => none
theorem true_CG {ρ : Rho} {f : FuncId} (h : ∀ w, Calls Tryz.prog f #[] w fun e w' => e = .returned (.bool true) ∧ RowKit.Below w.heap.size w w') : CG ρ f trueC := fun args H o v H' _ hgs ho => by
  unfold trueC at hgs
  split at hgs
  · cases hgs; exact ⟨by letI : Rho := ρ; exact works_ok h, LG.refl _⟩
  · cases hgs
end
end Go.Proofs.YtnncgjhgmmdilaaGreatDoor.Ab
