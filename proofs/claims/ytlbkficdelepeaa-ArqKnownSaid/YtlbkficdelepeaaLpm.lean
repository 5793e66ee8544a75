/-
  Loops as contracts where letters from some number on are nothing to the state at its head.
  Conditions: as each theorem tells.
-/
import Derived.Test.YtlbkficdelepeaaAbF
namespace Go.Proofs.Ytlbkficdelepeaa.Ab
set_option linter.unusedSimpArgs false
set_option linter.unusedVariables false
open Go
set_option linter.unusedSectionVars false
noncomputable section
variable {P : Program}
def lowEs (hi : Nat) : Eqs → Bool
  | [] => true
  | (_, x, _) :: l => x.low hi && lowEs hi l
theorem lowEs_ok {hi : Nat} {ρ0 ρ1 ρ : Rho} (h : Low hi ρ0 ρ1) : ∀ {es : Eqs}, lowEs hi es = true → EqsOk ρ1 ρ es → EqsOk ρ0 ρ es
  | [], _, _ => trivial
  | (s, x, t) :: l, hl, ho => by
    simp only [lowEs, Bool.and_eq_true] at hl
    refine ⟨?_, lowEs_ok h hl.2 ho.2⟩
    have := ho.1
    simp only at this ⊢
    rw [h.den x hl.1]
    exact this
abbrev sgR (ρ : Rho) (σ : Nat → Option Tm) : Rho := ⟨fun n => match σ n with
  | some t => @Tm.den ρ t
  | none => ρ.val n, ρ.fn⟩
/-- The contract of a loop: T its state (letters below hi), σ the letters' first values, F what it leaves. -/
def loopM (n0 m hi : Nat) (T F : St) (σ : Nat → Option Tm) (x : AX) : St → Option (Tm × AX × St) := fun st =>
  bif Nat.beq st.H.next n0 && (Nat.ble n0 F.H.next && objsOk n0 F.H.next (st.H.objs.map (·.1)) F.H.objs) then match matN n0 m T st with
    | some es => bif lowEs hi es then (match debt σ es with
      | some t => some (t, x, finS st F)
      | none => none) else none
    | none => none else none
theorem loopMV_ok (hn : NoCount P) (ρ : Rho) (ρs : Nat → Rho) (N : Nat) {n0 m hi fuel : Nat} {cf : CallF (AX × Option Eqs)} {lf : LoopF} {body : Code} {F : St} (T : Nat → St) {x : AX} (hx : x ≠ .normal) (hpc : ∀ k, (T k).H.pc = [])
    (hc : ∀ k, k ≤ N → @CfOK (ρs k) _ P cf) (hl : ∀ k, k ≤ N → @LpOK (ρs k) P lf body) (low : ∀ k, k ≤ N → Low m (ρs k) ρ)
    (hstep : ∀ k, k < N → ∃ es, @Tree.sel _ (ρs k) (evCode P cf lf fuel body (T k) (outN n0 m (T (k + 1)) F)) = some (.normal, some es) ∧ EqsOk (ρs (k + 1)) (ρs k) es)
    (hlast : ∃ es, @Tree.sel _ (ρs N) (evCode P cf lf fuel body (T N) (outN n0 m (T (N + 1)) F)) = some (x, some es) ∧ EqsOk ρ (ρs N) es)
    {σ : Nat → Option Tm} (hσ : ∀ n, n < hi → (ρs 0).val n = (sgR ρ σ).val n) :
    ∀ st o y st', loopM n0 m hi (T 0) F σ x st = some (o, y, st') → (@Tm.den ρ o).asB = true → @LoopS ρ P body st y st' := by
  intro st o y st' h ho
  unfold loopM at h
  cases hb : (Nat.beq st.H.next n0 && (Nat.ble n0 F.H.next && objsOk n0 F.H.next (st.H.objs.map (·.1)) F.H.objs)) with
  | false => rw [hb] at h; cases h
  | true =>
    rw [hb] at h
    obtain ⟨b1, hb⟩ := Bool.and_eq_true_iff.1 hb
    obtain ⟨b2, b3⟩ := Bool.and_eq_true_iff.1 hb
    have b1 := Nat.eq_of_beq_eq_true b1
    have b2 := Nat.le_of_ble_eq_true b2
    simp only [cond_true] at h
    split at h
    · rename_i es hm
      cases hlw : lowEs hi es with
      | false => rw [hlw] at h; cases h
      | true =>
      rw [hlw] at h
      simp only [cond_true] at h
      split at h
      · rename_i t hd
        cases h
        have ok0 : EqsOk (ρs 0) ρ es := by
          have h0 : EqsOk (sgR ρ σ) ρ es := debt_spec (ρ0 := sgR ρ σ) (ρ := ρ) (fun n => rfl) rfl hd ho
          exact lowEs_ok (ρ1 := sgR ρ σ) ⟨fun n hn => hσ n hn, (low 0 (Nat.zero_le _)).2⟩ hlw h0
        refine loop_symN hn ρ ρs N T hx hpc hc hl low hstep hlast b1 hm ok0 ?_
        refine fun bd => ⟨fun i o hi => (objsOk_spec b3 i o hi).1, st.H.objs.map (·.1), rfl, fun i hi hni => ?_, by rw [b1]; exact b2⟩
        have e1 : st.H.get i = none := by
          cases hg : st.H.get i with
          | none => rfl
          | some o =>
            exfalso
            refine hni ?_
            have key : ∀ (l : List (Nat × AObj)), look l i = some o → i ∈ l.map (·.1) := by
              intro l
              induction l with
              | nil => intro h; cases h
              | cons p l ih =>
                intro h
                obtain ⟨a, b⟩ := p
                rw [look_cons'] at h
                split at h
                · rename_i e; subst e; simp
                · exact List.mem_cons_of_mem _ (ih h)
            exact key _ hg
        rw [e1]
        cases hg : (finS st F).H.get i with
        | none => rfl
        | some o => exact (hni ((objsOk_spec b3 i o hg).2 (by omega))).elim
      · cases h
    · cases h
end
end Go.Proofs.Ytlbkficdelepeaa.Ab
