/-
  Loops whose next state is only known to exist: rounds that keep an invariant.
  Conditions: as each theorem tells.
-/
import Derived.Test.YtnjafgigldfcdaaLpg
namespace Go.Proofs.Ytnjafgigldfcdaa.Ab
set_option linter.unusedSimpArgs false
set_option linter.unusedVariables false
open Go
set_option linter.unusedSectionVars false
theorem seq_exists {α : Type} (P : Nat → α → Prop) (R : Nat → α → α → Prop) (x0 : α) (h0 : P 0 x0) : ∀ n : Nat, (∀ i, i < n → ∀ x, P i x → ∃ y, P (i + 1) y ∧ R i x y) → ∃ f : Nat → α, f 0 = x0 ∧ (∀ i, i ≤ n → P i (f i)) ∧ ∀ i, i < n → R i (f i) (f (i + 1))
  | 0, _ => ⟨fun _ => x0, rfl, fun i hi => by
      obtain rfl : i = 0 := by omega
      exact h0, fun i hi => by omega⟩
  | n + 1, h => by
    obtain ⟨f, f0, f1, f2⟩ := seq_exists P R x0 h0 n fun i hi => h i (by omega)
    obtain ⟨y, y1, y2⟩ := h n (by omega) (f n) (f1 n (Nat.le_refl _))
    refine ⟨fun i => if i ≤ n then f i else y, by simp [f0], fun i hi => ?_, fun i hi => ?_⟩
    · by_cases hn : i ≤ n
      · simp only [if_pos hn]; exact f1 i hn
      · obtain rfl : i = n + 1 := by omega
        simp only [if_neg hn]; exact y1
    · by_cases hn : i < n
      · simp only [if_pos (show i ≤ n by omega), if_pos (show i + 1 ≤ n by omega)]; exact f2 i hn
      · obtain rfl : i = n := by omega
        simp only [if_pos (Nat.le_refl i), if_neg (show ¬ i + 1 ≤ i by omega)]; exact y2
/-- A round leads to letters of which Q holds. -/
abbrev NxP (ρ : Rho) (Q : Rho → Prop) (t : Tree (AX × Option Eqs)) : Prop := ∃ ρ', Q ρ' ∧ ∃ es, @Tree.sel _ ρ t = some (AX.normal, some es) ∧ EqsOk ρ' ρ es
section
variable {ρ : Rho} {Q : Rho → Prop}
theorem npT {c : Tm} {x y : Tree (AX × Option Eqs)} (h : (@Tm.den ρ c).asB = true) (n : NxP ρ Q x) : NxP ρ Q (.fork c x y) := by
  obtain ⟨ρ', q, es, h1, h2⟩ := n
  exact ⟨ρ', q, es, by rw [sel_T h]; exact h1, h2⟩
theorem npF {c : Tm} {x y : Tree (AX × Option Eqs)} (h : (@Tm.den ρ c).asB = false) (n : NxP ρ Q y) : NxP ρ Q (.fork c x y) := by
  obtain ⟨ρ', q, es, h1, h2⟩ := n
  exact ⟨ρ', q, es, by rw [sel_F h]; exact h1, h2⟩
theorem npL {ρ' : Rho} {es : Eqs} (q : Q ρ') (h : EqsOk ρ' ρ es) : NxP ρ Q (.leaf (.normal, some es)) := ⟨ρ', q, es, rfl, h⟩
/-- Either way. -/
theorem npC {c : Tm} {x y : Tree (AX × Option Eqs)} (h1 : (@Tm.den ρ c).asB = true → NxP ρ Q x) (h2 : (@Tm.den ρ c).asB = false → NxP ρ Q y) : NxP ρ Q (.fork c x y) := by
  cases h : (@Tm.den ρ c).asB with
  | true => exact npT h (h1 h)
  | false => exact npF h (h2 h)
end
/-- A LOOP WHOSE ROUNDS KEEP AN INVARIANT. -/
theorem loopI {f : FuncId} {li n0 m : Nat} {T F : St} {σ : Nat → Option Tm} {x : AX} {env : Env} {tree : Tree (AX × Option Eqs)} (N : Nat) (I : Nat → Rho → Prop) (ρ0 : Rho) (h0 : I 0 ρ0) (hx : x ≠ .normal) (hpc : T.H.pc = [])
    (htree : evCode Try.prog (evFun Try.prog env 1000) (fun _ => none) 1000000 (lpBody Try.prog f li) T (outN n0 m T F) = tree)
    (henv : ∀ i ρ, I i ρ → @EnvOK ρ Try.prog env) (hlow : ∀ i ρ, I i ρ → Low m ρ0 ρ)
    (hstep : ∀ i, i < N → ∀ ρ, I i ρ → NxP ρ (I (i + 1)) tree)
    (hlast : ∀ ρ, I N ρ → ∃ es, @Tree.sel _ ρ tree = some (x, some es) ∧ EqsOk ρ ρ es)
    (hσ : ∀ ρ, I N ρ → ∀ n, ρ0.val n = match σ n with
      | some t => @Tm.den ρ t
      | none => ρ.val n) : ∃ ρ, I N ρ ∧ GOk ρ f li (loopN n0 m T F σ x) := by
  obtain ⟨g, g0, g1, g2⟩ := seq_exists I (fun _ ρ ρ' => ∃ es, @Tree.sel _ ρ tree = some (AX.normal, some es) ∧ EqsOk ρ' ρ es) ρ0 h0 N fun i hi ρ hr => hstep i hi ρ hr
  refine ⟨g N, g1 N (Nat.le_refl _), ?_⟩
  refine loopN_ok noCount (g N) g N (fuel := 1000000) (cf := evFun Try.prog env 1000) (lf := fun _ => none) hx hpc (fun i hi => ?_) (fun i hi => ?_) (fun i hi => ?_) (fun i hi => ?_) ?_ (fun n => ?_)
  · letI : Rho := g i
    exact evFun_ok noCount (henv i _ (g1 i hi)) 1000
  · letI : Rho := g i
    exact lf0_ok
  · obtain ⟨a1, a2⟩ := hlow i _ (g1 i hi)
    obtain ⟨b1, b2⟩ := hlow N _ (g1 N (Nat.le_refl _))
    exact ⟨fun n hn => (a1 n hn).symm.trans (b1 n hn), a2.symm.trans b2⟩
  · rw [htree]; exact g2 i hi
  · rw [htree]; exact hlast _ (g1 N (Nat.le_refl _))
  · rw [g0]; exact hσ _ (g1 N (Nat.le_refl _)) n
end Go.Proofs.Ytnjafgigldfcdaa.Ab
