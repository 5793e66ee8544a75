import Derived.Test.YtamibbjpapkfeaaAb
namespace Go.Proofs.Ytamibbjpapkfeaa.Ab
set_option linter.unusedSimpArgs false
set_option linter.unusedVariables false
open Go
set_option linter.unusedSectionVars false
variable [Rho]

theorem eqL_eq : ∀ (a b : List UInt8), eqL a b = true → a = b
  | [], [], _ => rfl
  | [], _ :: _, h => by simp [eqL] at h
  | _ :: _, [], h => by simp [eqL] at h
  | x :: a, y :: b, h => by
    simp only [eqL, Bool.and_eq_true] at h
    have h1 : x = y := UInt8.toNat_inj.1 (Nat.eq_of_beq_eq_true h.1)
    rw [h1, eqL_eq a b h.2]
theorem eqZ_eq : ∀ (a b : Int), eqZ a b = true → a = b
  | .ofNat a, .ofNat b, h => by simp only [eqZ] at h; rw [Nat.eq_of_beq_eq_true h]
  | .negSucc a, .negSucc b, h => by simp only [eqZ] at h; rw [Nat.eq_of_beq_eq_true h]
  | .ofNat _, .negSucc _, h => by simp [eqZ] at h
  | .negSucc _, .ofNat _, h => by simp [eqZ] at h
theorem eqK_eq (a b : IntKind) (h : eqK a b = true) : a = b := by
  have := Nat.eq_of_beq_eq_true h
  cases a <;> cases b <;> first | rfl | (exact absurd this (by decide))
theorem eqO_eq (a b : BinOp) (h : eqO a b = true) : a = b := by
  have := Nat.eq_of_beq_eq_true h
  cases a <;> cases b <;> first | rfl | (exact absurd this (by decide))
theorem Tm.eqv_eq : ∀ (a b : Tm), a.eqv b = true → a = b := by
  intro a
  induction a with
  | var n => intro b h; cases b <;> simp only [Tm.eqv] at h <;> first | (rw [Nat.eq_of_beq_eq_true h]) | (cases h)
  | cb x => intro b h; cases b <;> simp only [Tm.eqv] at h <;> first | (rw [eq_of_beq h]) | (cases h)
  | ci x => intro b h; cases b <;> simp only [Tm.eqv] at h <;> first | (rw [eqZ_eq _ _ h]) | (cases h)
  | cs x => intro b h; cases b <;> simp only [Tm.eqv] at h <;> first | (rw [eqL_eq _ _ h]) | (cases h)
  | ib o k x y ih1 ih2 =>
    intro b h; cases b <;> simp only [Tm.eqv, Bool.and_eq_true] at h <;> first | (cases h; done) | skip
    rw [eqO_eq _ _ h.1.1.1, eqK_eq _ _ h.1.1.2, ih1 _ h.1.2, ih2 _ h.2]
  | sb o x y ih1 ih2 =>
    intro b h; cases b <;> simp only [Tm.eqv, Bool.and_eq_true] at h <;> first | (cases h; done) | skip
    rw [eqO_eq _ _ h.1.1, ih1 _ h.1.2, ih2 _ h.2]
  | beq x y ih1 ih2 =>
    intro b h; cases b <;> simp only [Tm.eqv, Bool.and_eq_true] at h <;> first | (cases h; done) | skip
    rw [ih1 _ h.1, ih2 _ h.2]
  | not x ih => intro b h; cases b <;> simp only [Tm.eqv] at h <;> first | (rw [ih _ h]) | (cases h)
  | and x y ih1 ih2 =>
    intro b h; cases b <;> simp only [Tm.eqv, Bool.and_eq_true] at h <;> first | (cases h; done) | skip
    rw [ih1 _ h.1, ih2 _ h.2]
  | wrap k x ih =>
    intro b h; cases b <;> simp only [Tm.eqv, Bool.and_eq_true] at h <;> first | (cases h; done) | skip
    rw [eqK_eq _ _ h.1, ih _ h.2]
  | ite c x y ih1 ih2 ih3 =>
    intro b h; cases b <;> simp only [Tm.eqv, Bool.and_eq_true] at h <;> first | (cases h; done) | skip
    rw [ih1 _ h.1.1, ih2 _ h.1.2, ih3 _ h.2]
  | len x ih => intro b h; cases b <;> simp only [Tm.eqv] at h <;> first | (rw [ih _ h]) | (cases h)
  | oct x ih => intro b h; cases b <;> simp only [Tm.eqv] at h <;> first | (rw [ih _ h]) | (cases h)
  | «at» x y ih1 ih2 =>
    intro b h; cases b <;> simp only [Tm.eqv, Bool.and_eq_true] at h <;> first | (cases h; done) | skip
    rw [ih1 _ h.1, ih2 _ h.2]
  | cut x y z ih1 ih2 ih3 =>
    intro b h; cases b <;> simp only [Tm.eqv, Bool.and_eq_true] at h <;> first | (cases h; done) | skip
    rw [ih1 _ h.1.1, ih2 _ h.1.2, ih3 _ h.2]
  | llen x ih => intro b h; cases b <;> simp only [Tm.eqv] at h <;> first | (rw [ih _ h]) | (cases h)
  | lget x y j ih1 ih2 =>
    intro b h; cases b <;> simp only [Tm.eqv, Bool.and_eq_true] at h <;> first | (cases h; done) | skip
    rw [ih1 _ h.1.1, ih2 _ h.1.2, Nat.eq_of_beq_eq_true h.2]
  | plus x y ih1 ih2 =>
    intro b h; cases b <;> simp only [Tm.eqv, Bool.and_eq_true] at h <;> first | (cases h; done) | skip
    rw [ih1 _ h.1, ih2 _ h.2]
  | minus x y ih1 ih2 =>
    intro b h; cases b <;> simp only [Tm.eqv, Bool.and_eq_true] at h <;> first | (cases h; done) | skip
    rw [ih1 _ h.1, ih2 _ h.2]
  | pair x y ih1 ih2 =>
    intro b h; cases b <;> simp only [Tm.eqv, Bool.and_eq_true] at h <;> first | (cases h; done) | skip
    rw [ih1 _ h.1, ih2 _ h.2]
  | app f x ih =>
    intro b h; cases b <;> simp only [Tm.eqv, Bool.and_eq_true] at h <;> first | (cases h; done) | skip
    rw [Nat.eq_of_beq_eq_true h.1, ih _ h.2]
  | lapp x y ih1 ih2 =>
    intro b h; cases b <;> simp only [Tm.eqv, Bool.and_eq_true] at h <;> first | (cases h; done) | skip
    rw [ih1 _ h.1, ih2 _ h.2]
  | row x ih => intro b h; cases b <;> simp only [Tm.eqv] at h <;> first | (rw [ih _ h]) | (cases h)
  | lput x y z ih1 ih2 ih3 =>
    intro b h; cases b <;> simp only [Tm.eqv, Bool.and_eq_true] at h <;> first | (cases h; done) | skip
    rw [ih1 _ h.1.1, ih2 _ h.1.2, ih3 _ h.2]

theorem notT_den (x : Tm) : (notT x).den.asB = !x.den.asB := by
  unfold notT
  split
  · rfl
  · simp [Tm.den, Dat.asB]
  · simp [Tm.den, iop, Dat.asB, bne]
  · simp [Tm.den, iop, Dat.asB, bne]
  · simp only [Tm.den, iop, Dat.asB]; rw [Bool.eq_iff_iff]; simp
  · simp only [Tm.den, iop, Dat.asB]; rw [Bool.eq_iff_iff]; simp
  · simp only [Tm.den, iop, Dat.asB]; rw [Bool.eq_iff_iff]; simp
  · simp only [Tm.den, iop, Dat.asB]; rw [Bool.eq_iff_iff]; simp
  · simp [Tm.den, Dat.asB]
theorem andT_den (x y : Tm) : (andT x y).den.asB = (x.den.asB && y.den.asB) := by
  unfold andT
  split <;> simp [Tm.den, Dat.asB]
theorem iopT_den (op : BinOp) (k : IntKind) (x y : Tm) : (iopT op k x y).den = iop op k x.den.asI y.den.asI := by
  unfold iopT
  split
  · split
    · rename_i h; simp only [Tm.den, Dat.asI]; exact h.symm
    · rename_i h; simp only [Tm.den, Dat.asI]; exact h.symm
    · rfl
  · split
    · simp only [Tm.den, iop, Dat.asI, Dat.dB.injEq]
      exact BEq.comm
    · simp only [Tm.den, iop, Dat.asI, Dat.dB.injEq]
      exact congrArg (!·) BEq.comm
    · rfl
  · cases h : x.eqv y with
    | false => rfl
    | true =>
      have := Tm.eqv_eq _ _ h
      subst this
      simp only [cond_true]
      split <;> simp [Tm.den, iop]
theorem beqT_den (x y : Tm) : (beqT x y).den.asB = (x.den.asB == y.den.asB) := by
  unfold beqT
  split
  · simp [Tm.den, Dat.asB]
  · rw [notT_den]; simp [Tm.den, Dat.asB]
  · simp [Tm.den, Dat.asB]
  · rw [notT_den]; simp [Tm.den, Dat.asB]
  · cases h : x.eqv y with
    | false => rfl
    | true =>
      have := Tm.eqv_eq _ _ h
      subst this
      simp [Tm.den, Dat.asB]
theorem sopT_den (op : BinOp) (x y : Tm) : (sopT op x y).den = sop op x.den.asS y.den.asS := by
  unfold sopT
  split
  · split
    · rename_i h; simp only [Tm.den, Dat.asS]; exact h.symm
    · rename_i h; simp only [Tm.den, Dat.asS]; exact h.symm
    · rfl
  · split
    · simp only [Tm.den, sop, Dat.asS, Dat.dB.injEq]
      exact BEq.comm
    · simp only [Tm.den, sop, Dat.asS, Dat.dB.injEq]
      exact congrArg (!·) BEq.comm
    · rfl
  · cases h : x.eqv y with
    | false => rfl
    | true =>
      have := Tm.eqv_eq _ _ h
      subst this
      simp only [cond_true]
      split <;> simp [Tm.den, sop]
theorem wrapT_den (k : IntKind) (x : Tm) : (wrapT k x).den = .dI (k.wrap x.den.asI) := by
  unfold wrapT; split <;> rfl
theorem iteT_den (c x y : Tm) : (iteT c x y).den = bif c.den.asB then x.den else y.den := by
  unfold iteT; split <;> rfl
theorem lenT_den (x : Tm) : (lenT x).den = .dI (x.den.asS.length : Int) := by
  unfold lenT; split <;> rfl
theorem plusT_den (x y : Tm) : (plusT x y).den.asI = x.den.asI + y.den.asI := by
  unfold plusT; split <;> simp [Tm.den, Dat.asI]
theorem minusT_den (x y : Tm) : (minusT x y).den.asI = x.den.asI - y.den.asI := by
  unfold minusT
  split
  · simp [Tm.den, Dat.asI]
  · split <;> simp [Tm.den, Dat.asI]
  · simp [Tm.den, Dat.asI]
end Go.Proofs.Ytamibbjpapkfeaa.Ab
