/-
  Summaries hold for other tables of functions that agree on what they use.
  Conditions: as each theorem tells.
-/
import Derived.Test.YtlbkficdelepeaaAut
namespace Go.Proofs.Ytlbkficdelepeaa.Ab
set_option linter.unusedSimpArgs false
set_option linter.unusedVariables false
open Go
set_option linter.unusedSectionVars false
noncomputable section
def cloEq (M B : Nat) : Eqs → Bool
  | [] => true
  | (_, x, t) :: l => clo M B x && clo M B t && cloEq M B l
def cloTr (M B : Nat) : Tree (Option Eqs) → Bool
  | .fail => true
  | .leaf none => true
  | .leaf (some es) => cloEq M B es
  | .fork c x y => clo M B c && (cloTr M B x && cloTr M B y)
theorem sel_clo {M B : Nat} {ρ ρ' : Rho} (h : Agr M B ρ ρ') : ∀ (t : Tree (Option Eqs)), cloTr M B t = true → @Tree.sel _ ρ t = @Tree.sel _ ρ' t
  | .fail, _ => rfl
  | .leaf _, _ => rfl
  | .fork c x y, hw => by
    simp only [cloTr, Bool.and_eq_true] at hw
    simp only [Tree.sel, den_agr h c hw.1, sel_clo h x hw.2.1, sel_clo h y hw.2.2]
theorem sel_cloE {M B : Nat} {ρ : Rho} {es : Eqs} : ∀ (t : Tree (Option Eqs)), cloTr M B t = true → @Tree.sel _ ρ t = some (some es) → cloEq M B es = true
  | .fail, _, h => by cases h
  | .leaf none, _, h => by cases h
  | .leaf (some e), hw, h => by
    simp only [Tree.sel, Option.some.injEq] at h
    subst h; exact hw
  | .fork c x y, hw, h => by
    simp only [cloTr, Bool.and_eq_true] at hw
    simp only [Tree.sel] at h
    cases hc : (@Tm.den ρ c).asB with
    | true => rw [hc] at h; exact sel_cloE x hw.2.1 h
    | false => rw [hc] at h; exact sel_cloE y hw.2.2 h
theorem eqs_agr {M B : Nat} {a a' b b' : Rho} (h : Agr M B a a') (k : Agr M B b b') : ∀ {es : Eqs}, cloEq M B es = true → EqsOk a b es → EqsOk a' b' es
  | [], _, _ => trivial
  | (s, x, t) :: l, hc, he => by
    simp only [cloEq, Bool.and_eq_true] at hc
    refine ⟨?_, eqs_agr h k hc.2 he.2⟩
    have := he.1
    simp only at this ⊢
    rw [← den_agr h x hc.1.1, ← den_agr k t hc.1.2]
    exact this
theorem SumOK.change {P : Program} {env : Env} {f : FuncId} {S : Sum} {base r M B : Nat} {fn fn' : Nat → Dat → Dat} (h : SumOK P env f S base r fn) (hc : cloTr M B (S.tree P env f) = true) (hM : S.m ≤ M) (hfn : ∀ k d, k < B → fn k d = fn' k d) (hb : base + (M - S.m) ≤ B) (hr : base + r < B) : SumOK P env f S base r fn' := by
  intro ρ hf hok
  obtain ⟨es, h1, h2⟩ := h ⟨ρ.val, fn⟩ rfl (by rw [hfn _ _ hr]; exact hok)
  have hag : Agr M B ⟨ρ.val, fn⟩ ρ := ⟨fun _ _ => rfl, fun k d hk => by rw [hf]; exact hfn k d hk⟩
  have hag2 : Agr M B (rhoO S base ⟨ρ.val, fn⟩) (rhoO S base ρ) := by
    refine ⟨fun n hn => ?_, fun k d hk => by
      show fn k d = ρ.fn k d
      rw [hf]; exact hfn k d hk⟩
    show (bif Nat.blt n S.m then ρ.val n else fn (base + (n - S.m)) (tupD ρ.val S.us)) = (bif Nat.blt n S.m then ρ.val n else ρ.fn (base + (n - S.m)) (tupD ρ.val S.us))
    cases hn' : Nat.blt n S.m with
    | true => rfl
    | false =>
      simp only [cond_false]
      rw [hf]
      exact hfn _ _ (by omega)
  exact ⟨es, (sel_clo hag _ hc).symm.trans h1, eqs_agr hag2 hag (sel_cloE _ hc h1) h2⟩
end
end Go.Proofs.Ytlbkficdelepeaa.Ab
