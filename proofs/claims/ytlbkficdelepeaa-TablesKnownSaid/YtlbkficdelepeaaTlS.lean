/-
  Chapter 24, a side to which things happen: a round of run keeps what the judge knows, and what it says is right.
  Conditions: as each theorem tells.
-/
import Derived.Test.YtlbkficdelepeaaTlR
import Derived.Test.YtlbkficdelepeaaTlC
import Derived.Test.YtlbkficdelepeaaTjS
import Derived.Test.YtlbkficdelepeaaNx
namespace Go.Proofs.Ytlbkficdelepeaa.Ab
set_option linter.unusedSimpArgs false
set_option linter.unusedVariables false
open Go
set_option linter.unusedSectionVars false
noncomputable section
/-! ### a tree over other letters -/
abbrev rhoU (ρ : Rho) (σ : Nat → Option Tm) : Rho := ⟨fun n => match σ n with
  | some t => @Tm.den ρ t
  | none => ρ.val n, ρ.fn⟩
section
variable {ρ : Rho} {σ : Nat → Option Tm}
theorem sub_den (t : Tm) : @Tm.den ρ (t.subst σ) = @Tm.den (rhoU ρ σ) t := Tm.subst_den (ρ0 := rhoU ρ σ) (ρ := ρ) (fun _ => rfl) rfl t
theorem sub_sel : ∀ (t : Tree (Option Eqs)) {o : Option Eqs}, @Tree.sel _ ρ (subT σ t) = some o → ∃ o', @Tree.sel _ (rhoU ρ σ) t = some o' ∧ o = subO σ o'
  | .fail, o, h => by cases h
  | .leaf a, o, h => by
    simp only [subT, Tree.sel, Option.some.injEq] at h
    exact ⟨a, rfl, h.symm⟩
  | .fork c x y, o, h => by
    simp only [subT, Tree.sel] at h
    rw [sub_den] at h
    cases hc : (@Tm.den (rhoU ρ σ) c).asB with
    | true =>
      rw [hc] at h
      obtain ⟨o', h1, h2⟩ := sub_sel x h
      exact ⟨o', by simp [Tree.sel, hc, h1], h2⟩
    | false =>
      rw [hc] at h
      obtain ⟨o', h1, h2⟩ := sub_sel y h
      exact ⟨o', by simp [Tree.sel, hc, h1], h2⟩
theorem sub_out : ∀ (es : Eqs) (k : Nat), outE (subE σ es) k = (outE es k).map fun p => (p.1, p.2.subst σ)
  | [], _ => rfl
  | (s, x, t) :: l, k => by
    cases x with
    | var n =>
      simp only [subE, outE]
      cases Nat.beq n k with
      | true => rfl
      | false => exact sub_out l k
    | _ => simp only [subE, outE]; exact sub_out l k
theorem sub_outD (es : Eqs) (k : Nat) : outD ρ (subE σ es) k = outD (rhoU ρ σ) es k := by
  unfold outD
  rw [sub_out]
  cases outE es k with
  | none => rfl
  | some p => simp only [Option.map, sub_den]
end
/-! ### what the checks say -/
section
variable {ρ : Rho} {F : Fc} {es es2 : Eqs} {i n : Nat}
theorem samI_eq (h : @Fc.Ok ρ F) (e : samI F es2 i es n = true) : outD ρ es2 i = outD ρ es n := by
  unfold samI at e
  unfold outD
  split at e
  · rename_i t u h1 h2
    rw [h1, h2]
    show Dat.dI _ = Dat.dI _
    rw [@sameI_ok ρ F h t u e]
  · cases e
theorem samB_eq (h : @Fc.Ok ρ F) (e : samB F es2 i es n = true) : outD ρ es2 i = outD ρ es n := by
  unfold samB at e
  unfold outD
  split at e
  · rename_i t u h1 h2
    rw [h1, h2]
    show Dat.dB _ = Dat.dB _
    rw [@sameB_ok ρ F h t u e]
  · cases e
theorem keepI_eq (h : @Fc.Ok ρ F) (e : keepI F es n = true) : outD ρ es n = .dI (ρ.val n).asI := by
  unfold keepI at e
  unfold outD
  split at e
  · rename_i t h1
    rw [h1]
    show Dat.dI _ = Dat.dI _
    rw [@sameI_ok ρ F h t _ e]
    rfl
  · cases e
theorem keepB_eq (h : @Fc.Ok ρ F) (e : keepB F es n = true) : outD ρ es n = .dB (ρ.val n).asB := by
  unfold keepB at e
  unfold outD
  split at e
  · rename_i t h1
    rw [h1]
    show Dat.dB _ = Dat.dB _
    rw [@sameB_ok ρ F h t _ e]
    rfl
  · cases e
theorem impB_ok (h : @Fc.Ok ρ F) {t u : Tm} (e : impB F t u = true) (ht : (@Tm.den ρ t).asB = true) : (@Tm.den ρ u).asB = true := by
  letI : Rho := ρ
  unfold impB at e
  rw [List.all_eq_true] at e
  obtain ⟨F1, m1, k1⟩ := lrnL_ok (nf F t true) h (b := true) (by rw [(nf_ok h t true).1 rfl]; exact ht)
  have e1 := e F1 m1
  split at e1
  · rename_i hd
    rw [← (nf_ok k1 u true).1 rfl]
    exact dec_ok k1 _ hd
  · cases e1
theorem finB_ok (h : @Fc.Ok ρ F) {u : Tm} (e : finB F es u = true) (ht : (outD ρ es 29).asB = true) : (@Tm.den ρ u).asB = true := by
  unfold finB at e
  unfold outD at ht
  split at e
  · rename_i t h1
    rw [h1] at ht
    exact impB_ok h e ht
  · cases e
theorem oneOf_ok (h : @Fc.Ok ρ F) {l : List Int} (e : oneOf F es n l = true) : (outD ρ es n).asI = (ρ.val n).asI ∨ (outD ρ es n).asI ∈ l := by
  unfold oneOf at e
  unfold outD
  split at e
  · rename_i t h1
    rw [h1]
    rw [Bool.or_eq_true, List.any_eq_true] at e
    rcases e with e | ⟨v, hv, e⟩
    · left
      show (@Tm.den ρ t).asI = _
      rw [@sameI_ok ρ F h t _ e]; rfl
    · right
      show (@Tm.den ρ t).asI ∈ l
      rw [@sameI_ok ρ F h t _ e]; exact hv
  · cases e
theorem polB_ok (h : @Fc.Ok ρ F) {t : Tm} (e : polB F t es = true) (ht : (@Tm.den ρ t).asB = true) : (outD ρ es 4).asI = 3 := by
  unfold polB at e
  rw [Bool.or_eq_true] at e
  rcases e with e | e
  · have := @sameB_ok ρ F h t _ e
    rw [ht] at this; cases this
  · unfold outD
    split at e
    · rename_i u h1
      rw [h1]
      show (@Tm.den ρ u).asI = 3
      rw [@sameI_ok ρ F h u _ e]; rfl
    · cases e
end
/-! ### the equations -/
/-- The letters behind a round; po: what is not answered then. -/
abbrev nxtR (ρ : Rho) (es : Eqs) (po : Dat) : Rho := ⟨fun n => bif Nat.beq n 43 then po else bif Nat.blt n 3 then ρ.val n else match outE es n with
  | some (s, t) => canS s (@Tm.den ρ t)
  | none => ρ.val n, ρ.fn⟩
theorem nxtR_out {ρ : Rho} {es : Eqs} {po : Dat} {n : Nat} (h1 : n ≠ 43) (h2 : 3 ≤ n) {s : Sr} {t : Tm} (h : outE es n = some (s, t)) : (nxtR ρ es po).val n = canS s (@Tm.den ρ t) := by
  show (bif Nat.beq n 43 then po else bif Nat.blt n 3 then ρ.val n else match outE es n with
    | some (s, t) => canS s (@Tm.den ρ t)
    | none => ρ.val n) = _
  rw [show Nat.beq n 43 = false by
    rw [Bool.eq_false_iff]; intro h; exact h1 (Nat.eq_of_beq_eq_true h), show Nat.blt n 3 = false by
    rw [Bool.eq_false_iff]; intro h; rw [Nat.blt_eq] at h; omega, h]
  rfl
theorem eqOk_ok {ρ : Rho} {F : Fc} {all : Eqs} {po : Dat} : ∀ {es : Eqs}, eqOk F all es = true → EqsOk (nxtR ρ all po) ρ es
  | [], _ => trivial
  | (s, x, t) :: l, h => by
    cases x with
    | var n =>
      simp only [eqOk, Bool.and_eq_true] at h
      obtain ⟨⟨h1, h2⟩, h3⟩ := h
      refine ⟨?_, eqOk_ok h3⟩
      rw [Nat.blt_eq] at h1
      show eqSr s ((nxtR ρ all po).val n) (@Tm.den ρ t)
      cases hn : Nat.blt n 3 with
      | true =>
        rw [hn] at h2
        obtain rfl := Tm.eqv_eq _ _ h2
        have : (nxtR ρ all po).val n = ρ.val n := by
          show (bif Nat.beq n 43 then po else bif Nat.blt n 3 then ρ.val n else _) = _
          rw [hn, show Nat.beq n 43 = false by
            rw [Bool.eq_false_iff]; intro h; have := Nat.eq_of_beq_eq_true h; omega]
          rfl
        rw [this]
        cases s <;> rfl
      | false =>
        rw [hn] at h2
        simp only [cond_false] at h2
        split at h2
        · rename_i s' u ho
          rw [Bool.and_eq_true] at h2
          obtain rfl := eqSrB_eq h2.1
          obtain rfl := Tm.eqv_eq _ _ h2.2
          have hn3 : 3 ≤ n := by
            rcases Nat.lt_or_ge n 3 with h | h
            · rw [← Nat.blt_eq, hn] at h; cases h
            · exact h
          rw [nxtR_out (by omega) hn3 ho]
          cases s <;> rfl
        · cases h2
    | llen y =>
      cases y with
      | var n =>
        simp only [eqOk, Bool.and_eq_true] at h
        obtain ⟨⟨h1, h2⟩, h3⟩ := h
        obtain rfl := Nat.eq_of_beq_eq_true h1
        refine ⟨?_, eqOk_ok h3⟩
        split at h2
        · rename_i u ho
          obtain rfl := Tm.eqv_eq _ _ h2
          have e := nxtR_out (ρ := ρ) (po := po) (show (42 : Nat) ≠ 43 by omega) (by omega) ho
          show eqSr s (@Tm.den (nxtR ρ all po) (.llen (.var 42))) (@Tm.den ρ (.llen u))
          have e1 : @Tm.den (nxtR ρ all po) (.llen (.var 42)) = @Tm.den ρ (.llen u) := by
            show Dat.dI (((nxtR ρ all po).val 42).asL.length : Int) = Dat.dI ((@Tm.den ρ u).asL.length : Int)
            rw [e]; rfl
          rw [e1]
          cases s <;> rfl
        · cases h2
      | _ => simp only [eqOk] at h; cases h
    | _ => simp only [eqOk] at h; cases h
end
end Go.Proofs.Ytlbkficdelepeaa.Ab
