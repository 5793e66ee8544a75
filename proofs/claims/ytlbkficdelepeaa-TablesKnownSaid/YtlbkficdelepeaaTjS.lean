/-
  Chapter 24: what a judge knows behind the events of a row, one by one.
  Conditions: as each theorem tells.
-/
import Derived.Test.YtlbkficdelepeaaTjP
namespace Go.Proofs.Ytlbkficdelepeaa.Ab
set_option linter.unusedSimpArgs false
set_option linter.unusedVariables false
open Go
set_option linter.unusedSectionVars false
noncomputable section
def moD (n2 : Int) : Dat := @Tm.den ⟨fun _ => .dI n2, fnT⟩ moT
def seqC (L : List (List Dat)) (n2 : Int) : Nat → List Dat
  | 0 => [.dI 1, .dB false, .dI 0, moD n2, .dI 0, .dB false, .dI 0, .dB false, .dB false]
  | k + 1 => cNext (seqC L n2 k) (L.getD k [])
def RowsE (L : List (List Dat)) : Prop := ∀ i, i < L.length → RowE (L.getD i []) ∧ (L.getD i []).length = 8
section
variable {L : List (List Dat)} {n2 : Int}
theorem moD_ok (n2 : Int) : 0 ≤ (moD n2).asI ∧ (moD n2).asI ≤ 255 ∧ (moD n2).asI = (@Tm.den ⟨fun _ => .dI n2, fnT⟩ noT).asI := by
  have e1 : ∀ c x y : Tm, ∀ ρ : Rho, (@Tm.den ρ (.ite c x y)).asI = if (@Tm.den ρ c).asB = true then (@Tm.den ρ x).asI else (@Tm.den ρ y).asI := fun c x y ρ => by
    show (bif (@Tm.den ρ c).asB then @Tm.den ρ x else @Tm.den ρ y).asI = _
    cases (@Tm.den ρ c).asB <;> rfl
  have e2 : ∀ x y : Tm, ∀ ρ : Rho, (@Tm.den ρ (.ib .lss .i64 x y)).asB = decide ((@Tm.den ρ x).asI < (@Tm.den ρ y).asI) := fun _ _ _ => rfl
  have e3 : ∀ x y : Tm, ∀ ρ : Rho, (@Tm.den ρ (.ib .gtr .i64 x y)).asB = decide ((@Tm.den ρ x).asI > (@Tm.den ρ y).asI) := fun _ _ _ => rfl
  have e4 : ∀ n : Int, ∀ ρ : Rho, (@Tm.den ρ (.ci n)).asI = n := fun _ _ => rfl
  have e5 : (@Tm.den ⟨fun _ => .dI n2, fnT⟩ (vt 1)).asI = n2 := rfl
  unfold moD
  simp only [moT, loT, noT, hiT, e1, e2, e3, e4, e5, decide_eq_true_eq]
  repeat' split
  all_goals omega
theorem core_ok (hL : RowsE L) : ∀ k, k ≤ L.length → CoreOk (seqC L n2 k)
  | 0, _ => ⟨by show 1 ≤ (1 : Int) ∧ (1 : Int) ≤ 5; omega, ⟨(moD_ok n2).1, (moD_ok n2).2.1⟩, .inl rfl⟩
  | k + 1, hk => (evRel (core_ok hL k (by omega)) (hL k (by omega)).1 []).ok
theorem ev_at (hL : RowsE L) {k : Nat} (hk : k < L.length) (x : List Dat) : EvRel (seqC L n2 k) (L.getD k []) x := evRel (core_ok hL k (by omega)) (hL k hk).1 x
theorem row8 {r : List Dat} (h : r.length = 8) : [r.getD 0 (.dI 0), r.getD 1 (.dI 0), r.getD 2 (.dI 0), r.getD 3 (.dI 0), r.getD 4 (.dI 0), r.getD 5 (.dI 0), r.getD 6 (.dI 0), r.getD 7 (.dI 0)] = r := by
  match r, h with
  | [_, _, _, _, _, _, _, _], _ => rfl
/-- A row more changes nothing of what was. -/
theorem seqC_app (L : List (List Dat)) (r : List Dat) (n2 : Int) : ∀ k, k ≤ L.length → seqC (L ++ [r]) n2 k = seqC L n2 k
  | 0, _ => rfl
  | k + 1, hk => by
    show cNext (seqC (L ++ [r]) n2 k) ((L ++ [r]).getD k []) = cNext (seqC L n2 k) (L.getD k [])
    rw [seqC_app L r n2 k (by omega), List.getD_eq_getElem?_getD, List.getElem?_append_left (by omega), ← List.getD_eq_getElem?_getD]
theorem seqC_last (L : List (List Dat)) (r : List Dat) (n2 : Int) : seqC (L ++ [r]) n2 (L ++ [r]).length = cNext (seqC L n2 L.length) r := by
  have e : (L ++ [r]).length = L.length + 1 := by simp
  rw [e]
  show cNext (seqC (L ++ [r]) n2 L.length) ((L ++ [r]).getD L.length []) = _
  rw [seqC_app L r n2 L.length (Nat.le_refl _), List.getD_eq_getElem?_getD, List.getElem?_append_right (Nat.le_refl _), Nat.sub_self]
  rfl
end
end
end Go.Proofs.Ytlbkficdelepeaa.Ab
