/-
  strings.Clone and the examples of layer 7 (tlv) as contracts of the evaluator.
  No condition.
-/
import Derived.Test.YtamibbjpapkfeaaAbF
import Derived.Test.YtamibbjpapkfeaaClone
namespace Go.Proofs.Ytamibbjpapkfeaa.Ab
set_option linter.unusedSimpArgs false
set_option linter.unusedVariables false
open Go
noncomputable section
def cloneC : List AV → Heap → Option (Tm × AV × Heap)
  | [s], H => match tmS s with
    | some t => some (iopT .leq .i64 (lenT t) (.ci 281474976710656), mkS t, H)
    | none => none
  | _, _ => none
def trueC : List AV → Heap → Option (Tm × AV × Heap)
  | [], H => some (.cb true, .bool true, H)
  | _, _ => none
def envC : Env := ⟨fun f => bif Nat.beq f 35 then some cloneC else none, fun _ _ => none⟩
theorem noCount : NoCount Try.prog := noCount_of (by kernel_rfl) (by kernel_rfl)
variable [ρ : Rho]
theorem leqL {t : Tm} {n : Int} (ho : (iopT .leq .i64 (lenT t) (.ci n)).den.asB = true) : (t.den.asS.length : Int) ≤ n := by
  rw [iopT_den, lenT_den] at ho
  have ho' : decide ((t.den.asS.length : Int) ≤ n) = true := ho
  simpa using ho'
theorem clone_VR {μ : Mu} (t : Tm) : VR μ (mkS t) (.string ⟨t.den.asS.toArray⟩) := by
  cases t <;> rfl
theorem clone_ok {args : List AV} {H H' : Heap} {o : Tm} {v : AV} (hgs : cloneC args H = some (o, v, H')) (ho : o.den.asB = true) : CallS Try.prog 35 args H v H' ∧ LG H H' := by
  unfold cloneC at hgs
  split at hgs
  · split at hgs
    · rename_i t ht
      cases hgs
      have hl := leqL ho
      refine ⟨callS_new fun μ cargs w hv => ?_, LG.refl _⟩
      obtain ⟨x, l, hx, rfl, rfl⟩ := hv
      obtain rfl := hx.tmS ht
      exact (strings_Clone ⟨t.den.asS.toArray⟩ w (by show t.den.asS.toArray.size ≤ _; rw [List.size_toArray]; omega)).mono fun e w' he => ⟨_, he.1, clone_VR t, he.2⟩
    · cases hgs
  · cases hgs
theorem true_ok {f : FuncId} (h : ∀ w, Calls Try.prog f #[] w fun e w' => e = .returned (.bool true) ∧ RowKit.Below w.heap.size w w') {args : List AV} {H H' : Heap} {o : Tm} {v : AV} (hgs : trueC args H = some (o, v, H')) : CallS Try.prog f args H v H' ∧ LG H H' := by
  unfold trueC at hgs
  split at hgs
  · cases hgs; exact ⟨works_ok h, LG.refl _⟩
  · cases hgs
theorem envC_ok : EnvOK Try.prog envC := envOK_fn (fun f g hg args H o v H' _ hgs ho => by
  simp only [envC] at hg
  cases h0 : Nat.beq f 35 with
  | true =>
    simp only [h0, cond_true, Option.some.injEq] at hg; subst hg
    obtain rfl := Nat.eq_of_beq_eq_true h0
    exact clone_ok hgs ho
  | false => simp [h0] at hg) fun _ _ => rfl
end
abbrev rho1 (n : Int) : Rho := ⟨fun _ => .dI n, fun _ d => d⟩
noncomputable section
abbrev envT : Env := envC
variable [ρ : Rho]
theorem envT_ok : EnvOK Try.prog envT := envC_ok
end
end Go.Proofs.Ytamibbjpapkfeaa.Ab
