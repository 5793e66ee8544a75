import Derived.Test.YtenkabjkgngcdaaGreatKa3
import Derived.Test.YtenkabjkgngcdaaGreatProg
set_option linter.unusedVariables false
set_option linter.unusedSimpArgs false
set_option linter.unusedSectionVars false
namespace Go.Proofs.YtenkabjkgngcdaaGreat.Ab
open Go
set_option maxRecDepth 100000 in
theorem zCq : NoCount Tryz.prog := zSY (by kernel_rfl) (by kernel_rfl)
abbrev LpG : Type := St → Option (Tm × AX × St)
def GOk (ρ : Rho) (f : FuncId) (i : Nat) (g : LpG) : Prop := ∀ st o x st', g st = some (o, x, st') → (@Tm.den ρ o).asB = true → @zOI ρ Tryz.prog (zCB Tryz.prog f i) st x st'
def dead : LpG := fun st => some (.cb false, .ret, st)
theorem xDN (ρ : Rho) (f : FuncId) (i : Nat) : GOk ρ f i dead := fun st o x st' h ho => by cases h; cases ho
section
variable {ρ : Rho} {α : Type} {c : Tm} {x y : Tree α}
theorem zMN (h : (@Tm.den ρ c).asB = true) : @Tree.sel _ ρ (.fork c x y) = @Tree.sel _ ρ x := by simp [Tree.sel, h]
theorem zCN (h : (@Tm.den ρ c).asB = false) : @Tree.sel _ ρ (.fork c x y) = @Tree.sel _ ρ y := by simp [Tree.sel, h]
end
def zWw (f0 : FuncId) (key : Nat) (g : LpG) : FuncId → zF0 := fun f => bif Nat.beq f f0 then lf1 key g else fun _ => none
theorem zGR {ρ : Rho} {fn : FuncId → Option (List AV → Heap → Option (Tm × AV × Heap))} (h : ∀ f g, fn f = some g → ∀ args H o v H', @PC ρ H → g args H = some (o, v, H') → (@Tm.den ρ o).asB = true → @zCM ρ Tryz.prog f args H v H' ∧ LG H H') {f0 : FuncId} {key i : Nat} {g : LpG} (hk : keyAt Tryz.prog f0 key i = true) (hg : GOk ρ f0 i g) : @EnvOK ρ Tryz.prog ⟨fn, zWw f0 key g⟩ := by
 refine ⟨(@zM4 ρ _ ⟨fn, fun _ _ => none⟩ h fun _ _ => rfl).fn, fun f fn cd h1 h2 => ?_⟩;simp only [zWw];cases e1 : Nat.beq f f0 with
 | true =>
  obtain rfl := Nat.eq_of_beq_eq_true e1;exact xFW hk hg h1 h2
 | false => exact zNW
end Go.Proofs.YtenkabjkgngcdaaGreat.Ab
namespace Go.Proofs.YtenkabjkgngcdaaGreat.Ab
open Go
noncomputable section
abbrev vt (n : Nat) : Tm := .var n
abbrev iv (n : Nat) : AV := .sint .i64 (vt n)
abbrev uv (n : Nat) : AV := .sint .u8 (vt n)
abbrev bv (n : Nat) : AV := .sbool (vt n)
def tp : List Tm → Tm
 | [] => .cb false
 | a :: l => .pair a (tp l)
abbrev zM9 : Type := List AV → Heap → Option (Tm × AV × Heap)
def zBP : List (Nat × zM9) → Nat → Option zM9
 | [], _ => none
 | p :: l, f => bif Nat.beq f p.1 then some p.2 else zBP l f
def CG (ρ : Rho) (f : FuncId) (g : zM9) : Prop := ∀ args H o v H', @PC ρ H → g args H = some (o, v, H') → (@Tm.den ρ o).asB = true → @zCM ρ Tryz.prog f args H v H' ∧ LG H H'
def TabOK (ρ : Rho) : List (Nat × zM9) → Prop
 | [] => True
 | p :: l => CG ρ p.1 p.2 ∧ TabOK ρ l
theorem zDB {ρ : Rho} : ∀ {l : List (Nat × zM9)}, TabOK ρ l → ∀ f g, zBP l f = some g → CG ρ f g
 | [], _, f, g, h => by cases h
 | p :: l, hl, f, g, h => by
  simp only [zBP] at h;cases e : Nat.beq f p.1 with
  | true =>
   rw [e] at h;simp only [cond_true, Option.some.injEq] at h;subst h;rw [Nat.eq_of_beq_eq_true e];exact hl.1
  | false =>
   rw [e] at h;exact zDB hl.2 f g h
theorem zET {ρ : Rho} {l : List (Nat × zM9)} (h : TabOK ρ l) : @EnvOK ρ Tryz.prog ⟨zBP l, fun _ _ => none⟩ := @zM4 ρ _ ⟨zBP l, fun _ _ => none⟩ (fun f g hg => zDB h f g hg) fun _ _ => rfl
def xBG : zM9
 | [], H => some (.cb true, .bool true, H)
 | _, _ => none
end
end Go.Proofs.YtenkabjkgngcdaaGreat.Ab
