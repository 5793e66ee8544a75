/-
  Chapter 24, a side to which things happen: what is known of the numbered side's calls, in plain Lean; what the check of a round says.
  Conditions: as each theorem tells.
-/
import Derived.Test.YtlbkficdelepeaaTlK
import Derived.Test.YtlbkficdelepeaaPlyS
namespace Go.Proofs.Ytlbkficdelepeaa.Ab
set_option linter.unusedSimpArgs false
set_option linter.unusedVariables false
open Go
set_option linter.unusedSectionVars false
noncomputable section
/-! ### plain facts -/
theorem hear_final (a : ASt) (f : Frm) (h : (a.hear f).2.final = true) : a.final = true ∨ (f.c = true ∧ f.pf = true ∧ 7 ≤ f.k ∧ f.k ≤ 10) := by
  have p : ∀ b : ASt, (b.polled f).final = true → b.final = true ∨ (f.c = true ∧ f.pf = true) := fun b => by
    unfold ASt.polled
    split
    · rename_i hc; exact fun _ => .inr hc
    · exact fun h => .inl h
  have q : ∀ b : ASt, (b.answered f).final = b.final := fun b => by
    unfold ASt.answered
    split <;> rfl
  have s : ∀ b : ASt, (b.kind f.k).final = b.final := fun b => by
    unfold ASt.kind
    repeat' split <;> try rfl
  unfold ASt.hear at h
  split at h
  · exact .inl h
  · rename_i hc
    have hk : 7 ≤ f.k ∧ f.k ≤ 10 := by
      have : ¬ (f.k < 7 ∨ f.k > 10) := fun x => hc (Or.inr x)
      omega
    simp only at h
    split at h
    · exact .inl h
    · have h' : (ASt.polled _ f).final = true := h
      rcases p _ h' with h1 | h1
      · left
        split at h1
        · have h2 : (ASt.answered _ f).final = true := h1
          rw [q, s] at h2; exact h2
        · have h2 : (ASt.answered _ f).final = true := h1
          rw [q, s] at h2; exact h2
      · exact .inr ⟨h1.1, h1.2, hk⟩
theorem next_fact (a : ASt) : (a.next.2.2.final = true → a.final = true) ∧ (a.next.2.1 = true →
    (a.next.1.k = 7 ∧ a.next.1.c = true ∧ a.next.1.pf = false) ∨ ((a.next.1.k = 8 ∨ a.next.1.k = 9) ∧ a.next.1.c = true ∧ a.next.1.pf = true ∧ a.next.1.info = []) ∨
    ((a.next.1.k = 8 ∨ a.next.1.k = 9 ∨ a.next.1.k = 10) ∧ a.next.1.c = false ∧ a.next.2.2.final = false ∧ a.next.1.info = [] ∧ (a.next.1.pf = true → a.final = true))) := by
  unfold ASt.next
  split
  · exact ⟨id, (fun h => by cases h)⟩
  split
  · refine ⟨(fun h => by cases h), fun _ => .inr (.inr ⟨?_, rfl, rfl, rfl, id⟩)⟩
    show (if a.reject = true ∧ a.busy = false then (10 : Int) else if a.busy = true then 9 else 8) = 8 ∨ (if a.reject = true ∧ a.busy = false then (10 : Int) else if a.busy = true then 9 else 8) = 9 ∨ (if a.reject = true ∧ a.busy = false then (10 : Int) else if a.busy = true then 9 else 8) = 10
    split
    · exact .inr (.inr rfl)
    · split
      · exact .inr (.inl rfl)
      · exact .inl rfl
  split
  · refine ⟨id, fun _ => .inr (.inl ⟨?_, rfl, rfl, rfl⟩)⟩
    show (if a.busy = true then (9 : Int) else 8) = 8 ∨ (if a.busy = true then (9 : Int) else 8) = 9
    split
    · exact .inr rfl
    · exact .inl rfl
  · exact ⟨id, fun _ => .inl ⟨rfl, rfl, rfl⟩⟩
/-! ### terms -/
section
variable {ρ : Rho}
theorem or_t (a b : Tm) : ((@Tm.den ρ (orT a b)).asB = true) = ((@Tm.den ρ a).asB = true ∨ (@Tm.den ρ b).asB = true) := by
  show ((!((!(@Tm.den ρ a).asB) && (!(@Tm.den ρ b).asB))) = true) = _
  cases (@Tm.den ρ a).asB <;> cases (@Tm.den ρ b).asB <;> simp
/-- The numbered side's letters. -/
def aAt (ρ : Rho) : ASt := ⟨(ρ.val 8).asI, (ρ.val 9).asI, (ρ.val 10).asI, (ρ.val 11).asI, (ρ.val 12).asI, (ρ.val 13).asI, (ρ.val 14).asI, (ρ.val 15).asB, (ρ.val 16).asB, (ρ.val 17).asB, (ρ.val 18).asB, (ρ.val 19).asB, (ρ.val 20).asB, (ρ.val 21).asI, (ρ.val 22).asI, (ρ.val 23).asI, (ρ.val 24).asI, (ρ.val 25).asI, (ρ.val 26).asL, (ρ.val 27).asI, (ρ.val 28).asB, (ρ.val 29).asB, (ρ.val 30).asB, (ρ.val 31).asB⟩
/-- The thing that happens. -/
def rowAt3 (ρ : Rho) : List Dat := (ρ.val 0).asL.getD (ρ.val 3).asI.toNat []
/-- On low functions, those of chapter 15. -/
def LowFn (ρ : Rho) : Prop := ∀ k d, k < 2048 → ρ.fn k d = fnOf mSid k d
theorem app_low (h : LowFn ρ) {k : Nat} (hk : k < 2048) (t : Tm) : @Tm.den ρ (.app k t) = fnOf mSid k (@Tm.den ρ t) := h k _ hk
theorem factH_ok (h : LowFn ρ) : (@Tm.den ρ factH).asB = true := by
  unfold factH
  rw [or_t, or_t, not_t, and_t, and_t, not_t, app_low h (by omega)]
  have e1 : (fnOf mSid 721 (@Tm.den ρ tH)).asB = ((aAt ρ).hear (frOf (rowAt3 ρ) 1)).2.final := by kernel_rfl
  have e2 : (@Tm.den ρ (vt 29)).asB = (aAt ρ).final := by kernel_rfl
  have e3 : (@Tm.den ρ (.lget (vt 0) (vt 3) 2)).asB = (frOf (rowAt3 ρ) 1).c := by kernel_rfl
  have e4 : (@Tm.den ρ (.lget (vt 0) (vt 3) 4)).asB = (frOf (rowAt3 ρ) 1).pf := by kernel_rfl
  have e5 : (@Tm.den ρ fkT).asI = (frOf (rowAt3 ρ) 1).k := by kernel_rfl
  rw [e1, e2, e3, e4]
  cases hf : ((aAt ρ).hear (frOf (rowAt3 ρ) 1)).2.final with
  | false => exact .inl rfl
  | true =>
    rcases hear_final _ _ hf with h1 | ⟨h1, h2, h3, h4⟩
    · exact .inr (.inl h1)
    · refine .inr (.inr ⟨h1, h2, ?_⟩)
      cases ho : (@Tm.den ρ (orT (.ib .lss .u8 fkT (.ci 7)) (.ib .gtr .u8 fkT (.ci 10)))).asB with
      | false => rfl
      | true =>
        rw [or_t, lss_t, gtr_t, e5, d_ci, d_ci] at ho
        omega
theorem sneq_f (x : Tm) : ((@Tm.den ρ (.sb .neq x (.cs []))).asB = false) = ((@Tm.den ρ x).asS = []) := by
  show ((!((@Tm.den ρ x).asS == [])) = false) = _
  simp
theorem factN_ok (h : LowFn ρ) : (@Tm.den ρ factN).asB = true := by
  have g : ∀ k, k < 2048 → @Tm.den ρ (.app k tN) = fnOf mSid k (@Tm.den ρ tN) := fun k hk => app_low h hk _
  have e0 : (fnOf mSid 652 (@Tm.den ρ tN)).asB = (aAt ρ).next.2.2.final := by kernel_rfl
  have e1 : (fnOf mSid 647 (@Tm.den ρ tN)).asB = (aAt ρ).next.2.1 := by kernel_rfl
  have e2 : (fnOf mSid 642 (@Tm.den ρ tN)).asI = (aAt ρ).next.1.k := by kernel_rfl
  have e3 : (fnOf mSid 641 (@Tm.den ρ tN)).asB = (aAt ρ).next.1.c := by kernel_rfl
  have e4 : (fnOf mSid 643 (@Tm.den ρ tN)).asB = (aAt ρ).next.1.pf := by kernel_rfl
  have e5 : (fnOf mSid 646 (@Tm.den ρ tN)).asS = (aAt ρ).next.1.info := by kernel_rfl
  have e6 : (@Tm.den ρ (vt 29)).asB = (aAt ρ).final := by kernel_rfl
  obtain ⟨f1, f2⟩ := next_fact (aAt ρ)
  unfold factN
  simp only [and_t, or_t]
  simp only [not_t, eql_t, sneq_f, d_ci, g 652 (by omega), g 647 (by omega), g 642 (by omega), g 641 (by omega), g 643 (by omega), g 646 (by omega), e0, e1, e2, e3, e4, e5, e6]
  refine ⟨?_, ?_⟩
  · cases hf : (aAt ρ).next.2.2.final with
    | false => exact .inl rfl
    | true => exact .inr (f1 hf)
  · cases ho : (aAt ρ).next.2.1 with
    | false => exact .inl rfl
    | true =>
      refine .inr ?_
      rcases f2 ho with ⟨h1, h2, h3⟩ | ⟨h1, h2, h3, h4⟩ | ⟨h1, h2, h3, h4, h5⟩
      · exact .inl ⟨h1, h2, h3⟩
      · exact .inr (.inl ⟨h1, h2, h3, h4⟩)
      · refine .inr (.inr ⟨h1, h2, h3, h4, ?_⟩)
        cases hp : (aAt ρ).next.1.pf with
        | false => exact .inl rfl
        | true => exact .inr (h5 hp)
end
end
end Go.Proofs.Ytlbkficdelepeaa.Ab
