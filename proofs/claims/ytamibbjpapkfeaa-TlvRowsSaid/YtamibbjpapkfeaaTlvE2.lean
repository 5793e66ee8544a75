/-
  The examples of layer 7 (tlv) as a contract of the evaluator.
  No condition.
-/
import Derived.Test.YtamibbjpapkfeaaTlvE
namespace Go.Proofs.Ytamibbjpapkfeaa.Ab
set_option linter.unusedSimpArgs false
set_option linter.unusedVariables false
open Go
set_option maxRecDepth 100000 in
theorem tlv_works (w : World) : Calls Try.prog 7 #[] w fun e w' => e = .returned (.bool true) ∧ RowKit.Below w.heap.size w w' := by
  letI ρ : Rho := rho1 0
  refine call_bool (evFun_ok noCount envC_ok 1000) (args := []) ?_ (cargs := []) rfl w
  have : evFun Try.prog envC 1000 7 [] heap0 (fun v _ => .leaf v) = .leaf (.bool true) := by kernel_rfl
  rw [this]; rfl
noncomputable section
def fnT (f : FuncId) : Option (List AV → Heap → Option (Tm × AV × Heap)) := bif Nat.beq f 35 then some cloneC else bif Nat.beq f 7 then some trueC else none
def envTW : Env := ⟨fnT, fun _ _ => none⟩
variable [ρ : Rho]
theorem fnT_ok : ∀ f g, fnT f = some g → ∀ args H o v H', PC H → g args H = some (o, v, H') → o.den.asB = true → CallS Try.prog f args H v H' ∧ LG H H' := fun f g hg args H o v H' _ hgs ho => by
  simp only [fnT] at hg
  cases h0 : Nat.beq f 35 with
  | true =>
    simp only [h0, cond_true, Option.some.injEq] at hg; subst hg
    obtain rfl := Nat.eq_of_beq_eq_true h0
    exact clone_ok hgs ho
  | false =>
    simp only [h0, cond_false] at hg
    cases h1 : Nat.beq f 7 with
    | true =>
      simp only [h1, cond_true, Option.some.injEq] at hg; subst hg
      obtain rfl := Nat.eq_of_beq_eq_true h1
      exact true_ok tlv_works hgs
    | false => simp [h1] at hg
theorem envTW_ok : EnvOK Try.prog envTW := envOK_fn fnT_ok fun _ _ => rfl
end
end Go.Proofs.Ytamibbjpapkfeaa.Ab
