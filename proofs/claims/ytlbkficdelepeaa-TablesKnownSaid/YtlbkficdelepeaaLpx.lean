/-
  Loops within loops, as contracts; rounds of counting loops that the kernel looks through.
  Conditions: as each theorem tells.
-/
import Derived.Test.YtlbkficdelepeaaVt
import Derived.Test.YtlbkficdelepeaaSol
namespace Go.Proofs.Ytlbkficdelepeaa.Ab
set_option linter.unusedSimpArgs false
set_option linter.unusedVariables false
open Go
set_option linter.unusedSectionVars false
noncomputable section
/-- A contract of a loop that stands in another one's body. -/
theorem lfSub_ok {ρ : Rho} {f : FuncId} {key i j a n : Nat} {g : LpG} (hs : loopsOf (lpBody Try.prog f i) = ((lpList Try.prog f).drop a).take n) (hk : keyAt Try.prog f key j = true) (hg : GOk ρ f j g) : @LpOK ρ Try.prog (lf1 key g) (lpBody Try.prog f i) := by
  intro body hb g' hl st o x st' hp h1 h2
  have hm : body ∈ lpList Try.prog f := by
    rw [hs] at hb
    exact List.mem_of_mem_drop (List.mem_of_mem_take hb)
  unfold lf1 at hl
  cases hkey : Nat.beq (loopKey body) key with
  | false => rw [hkey] at hl; cases hl
  | true =>
    rw [hkey] at hl
    simp only [cond_true, Option.some.injEq] at hl
    subst hl
    obtain ⟨m, hm1, hmb⟩ := List.getElem_of_mem hm
    have hn' : (lpList Try.prog f)[m]? = some body := by rw [List.getElem?_eq_getElem hm1, hmb]
    have := keyAt_go _ 0 hk m body hn' (Nat.eq_of_beq_eq_true hkey)
    have eb : lpBody Try.prog f j = body := by
      unfold lpBody
      rw [List.getD_eq_getElem?_getD, ← this, Nat.zero_add, hn']; rfl
    rw [← eb]
    exact hg st o x st' h1 h2
/-- A contract that is used only where c holds. -/
def gdL (c : Tm) (g : LpG) : LpG := fun st => match g st with
  | some (o, x, st') => some (andT c o, x, st')
  | none => none
theorem gdL_ok {ρ : Rho} {f : FuncId} {i : Nat} {c : Tm} {g : LpG} (h : (@Tm.den ρ c).asB = true → GOk ρ f i g) : GOk ρ f i (gdL c g) := fun st o x st' hg ho => by
  unfold gdL at hg
  split at hg
  · rename_i o' x' s' hg'
    cases hg
    rw [@andT_den ρ, Bool.and_eq_true] at ho
    exact h ho.1 st _ _ _ hg' ho.2
  · cases hg
/-- Nothing is other but letter t, which is one more (letters below m alone are spoken of). -/
def eqsStep (t : Nat) (k : IntKind) (m : Nat) : Eqs → Bool
  | [] => true
  | (s, .var n, u) :: l => Nat.blt n m && (bif Nat.beq n t then (match s with
      | .sI => u.eqv (.ib .add k (.var t) (.ci 1))
      | _ => false) else u.eqv (.var n)) && eqsStep t k m l
  | _ :: _ => false
def eqsSame : Eqs → Bool
  | [] => true
  | (_, x, u) :: l => x.eqv u && eqsSame l
def pStep (t : Nat) (k : IntKind) (m : Nat) (p : AX × Option Eqs) (_ : Fc) : Bool := match p.1, p.2 with
  | .normal, some es => eqsStep t k m es
  | _, _ => false
def pExit (x : AX) (p : AX × Option Eqs) (_ : Fc) : Bool := match p.2 with
  | some es => eqX p.1 x && eqsSame es
  | none => false
theorem eqsStep_ok {t : Nat} {k : IntKind} {m : Nat} {ρ ρ' : Rho} (h1 : (ρ'.val t).asI = (@Tm.den ρ (.ib .add k (.var t) (.ci 1))).asI) (h2 : ∀ n, n < m → n ≠ t → ρ'.val n = ρ.val n) : ∀ {es : Eqs}, eqsStep t k m es = true → EqsOk ρ' ρ es
  | [], _ => trivial
  | (s, x, u) :: l, h => by
    cases x with
    | var n =>
      simp only [eqsStep, Bool.and_eq_true] at h
      refine ⟨?_, eqsStep_ok h1 h2 h.2⟩
      have hm : n < m := by have := h.1.1; simpa [Nat.blt_eq] using this
      have h := h.1.2
      cases e : Nat.beq n t with
      | true =>
        rw [e] at h
        obtain rfl := Nat.eq_of_beq_eq_true e
        cases s with
        | sI =>
          obtain rfl := @Tm.eqv_eq rho0 _ _ h
          exact h1
        | _ => cases h
      | false =>
        rw [e] at h
        obtain rfl := @Tm.eqv_eq rho0 _ _ h
        have : ρ'.val n = ρ.val n := h2 n hm (fun q => by subst q; rw [Nat.beq_refl] at e; cases e)
        show eqSr s (ρ'.val n) (ρ.val n)
        rw [this]
        cases s <;> rfl
    | _ => simp only [eqsStep] at h; cases h
theorem eqsSame_ok {ρ : Rho} : ∀ {es : Eqs}, eqsSame es = true → EqsOk ρ ρ es
  | [], _ => trivial
  | (s, x, u) :: l, h => by
    simp only [eqsSame, Bool.and_eq_true] at h
    refine ⟨?_, eqsSame_ok h.2⟩
    obtain rfl := @Tm.eqv_eq rho0 _ _ h.1
    show eqSr s _ _
    cases s <;> rfl
theorem step_ok {t : Nat} {k : IntKind} {m : Nat} {ρ ρ' : Rho} {tree : Tree (AX × Option Eqs)} {F : Fc} (hc : chkT (pStep t k m) tree F = true) (hF : @Fc.Ok ρ F) (h1 : (ρ'.val t).asI = (@Tm.den ρ (.ib .add k (.var t) (.ci 1))).asI) (h2 : ∀ n, n < m → n ≠ t → ρ'.val n = ρ.val n) : ∃ es, @Tree.sel _ ρ tree = some (AX.normal, some es) ∧ EqsOk ρ' ρ es := by
  letI := ρ
  obtain ⟨⟨x, o⟩, F', sl, _, hp⟩ := chkT_ok tree hc hF
  cases x with
  | normal =>
    cases o with
    | none => cases hp
    | some es => exact ⟨es, sl, eqsStep_ok h1 h2 hp⟩
  | _ => cases hp
theorem exit_ok {x : AX} {ρ : Rho} {tree : Tree (AX × Option Eqs)} {F : Fc} (hc : chkT (pExit x) tree F = true) (hF : @Fc.Ok ρ F) : ∃ es, @Tree.sel _ ρ tree = some (x, some es) ∧ EqsOk ρ ρ es := by
  letI := ρ
  obtain ⟨⟨y, o⟩, F', sl, _, hp⟩ := chkT_ok tree hc hF
  cases o with
  | none => cases hp
  | some es =>
    have hp' : (eqX y x && eqsSame es) = true := hp
    rw [Bool.and_eq_true] at hp'
    rw [eqX_eq hp'.1] at sl
    exact ⟨es, sl, eqsSame_ok hp'.2⟩
end
end Go.Proofs.Ytlbkficdelepeaa.Ab
