/-
  Conditions as terms: what decides them; the way through a tree.
  No condition.
-/
import Derived.Test.YtnncgjhgmmdilaaGreatDoorAbF
namespace Go.Proofs.YtnncgjhgmmdilaaGreatDoor.Ab
set_option linter.unusedSimpArgs false
set_option linter.unusedVariables false
open Go
theorem selT {α : Type} [Rho] {c : Tm} {x y : Tree α} {u : α} (h : c.den.asB = true) (k : x.sel = some u) : (Tree.fork c x y).sel = some u := by simp [Tree.sel, h, k]
theorem selF {α : Type} [Rho] {c : Tm} {x y : Tree α} {u : α} (h : c.den.asB = false) (k : y.sel = some u) : (Tree.fork c x y).sel = some u := by simp [Tree.sel, h, k]
section
variable [Rho] {k : IntKind} {x y : Tm}
theorem lss_T (h : x.den.asI < y.den.asI) : (Tm.ib .lss k x y).den.asB = true := decide_eq_true h
theorem lss_F (h : ¬ x.den.asI < y.den.asI) : (Tm.ib .lss k x y).den.asB = false := decide_eq_false h
theorem gtr_T (h : x.den.asI > y.den.asI) : (Tm.ib .gtr k x y).den.asB = true := decide_eq_true h
theorem gtr_F (h : ¬ x.den.asI > y.den.asI) : (Tm.ib .gtr k x y).den.asB = false := decide_eq_false h
theorem geq_T (h : x.den.asI ≥ y.den.asI) : (Tm.ib .geq k x y).den.asB = true := decide_eq_true h
theorem geq_F (h : ¬ x.den.asI ≥ y.den.asI) : (Tm.ib .geq k x y).den.asB = false := decide_eq_false h
theorem leq_T (h : x.den.asI ≤ y.den.asI) : (Tm.ib .leq k x y).den.asB = true := decide_eq_true h
theorem leq_F (h : ¬ x.den.asI ≤ y.den.asI) : (Tm.ib .leq k x y).den.asB = false := decide_eq_false h
theorem eql_T (h : x.den.asI = y.den.asI) : (Tm.ib .eql k x y).den.asB = true := beq_iff_eq.2 h
theorem eql_F (h : ¬ x.den.asI = y.den.asI) : (Tm.ib .eql k x y).den.asB = false := beq_eq_false_iff_ne.2 h
theorem neq_T (h : ¬ x.den.asI = y.den.asI) : (Tm.ib .neq k x y).den.asB = true := bne_iff_ne.2 h
theorem neq_F (h : x.den.asI = y.den.asI) : (Tm.ib .neq k x y).den.asB = false := by
  show (x.den.asI != y.den.asI) = false
  rw [h]; exact bne_self_eq_false _
theorem and_T (h : x.den.asB = true) (k : y.den.asB = true) : (Tm.and x y).den.asB = true := by
  show (x.den.asB && y.den.asB) = true
  rw [h, k]; rfl
theorem not_T (h : x.den.asB = false) : (Tm.not x).den.asB = true := by
  show (!x.den.asB) = true
  rw [h]; rfl
theorem not_F (h : x.den.asB = true) : (Tm.not x).den.asB = false := by
  show (!x.den.asB) = false
  rw [h]; rfl
theorem seql_T (h : x.den.asS = y.den.asS) : (Tm.sb .eql x y).den.asB = true := beq_iff_eq.2 h
theorem seql_F (h : ¬ x.den.asS = y.den.asS) : (Tm.sb .eql x y).den.asB = false := beq_eq_false_iff_ne.2 h
end
end Go.Proofs.YtnncgjhgmmdilaaGreatDoor.Ab
