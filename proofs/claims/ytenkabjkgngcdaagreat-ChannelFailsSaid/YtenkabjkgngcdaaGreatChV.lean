/-
  ChannelFails: its rounds, looked through by the kernel case by case.
  Conditions: as each theorem tells.
-/
import Derived.Test.YtenkabjkgngcdaaGreatChL
import Derived.Test.YtenkabjkgngcdaaGreatSol
import Derived.Test.YtenkabjkgngcdaaGreatProg
namespace Go.Proofs.YtenkabjkgngcdaaGreat.Ab
set_option linter.unusedSimpArgs false
set_option linter.unusedVariables false
open Go
set_option linter.unusedSectionVars false
noncomputable section
def eqsTo (F : Fc) (ex : Nat → Option Tm) : Eqs → Bool
  | [] => true
  | (s, .var n, u) :: l => (match ex n with
      | some t => (match s with
        | .sB => sameB F u t
        | .sI => sameI F u t
        | _ => false)
      | none => u.eqv (.var n)) && eqsTo F ex l
  | _ :: _ => false
def pTo (x : AX) (ex : Nat → Option Tm) (p : AX × Option Eqs) (F : Fc) : Bool := match p.2 with
  | some es => eqX p.1 x && eqsTo F ex es
  | none => false
theorem eqsTo_ok {F : Fc} {ex : Nat → Option Tm} {ρ ρ' : Rho} (hF : @Fc.Ok ρ F) (h1 : ∀ n t, ex n = some t → (ρ'.val n).asI = (@Tm.den ρ t).asI ∧ (ρ'.val n).asB = (@Tm.den ρ t).asB) (h2 : ∀ n, ex n = none → ρ'.val n = ρ.val n) : ∀ {es : Eqs}, eqsTo F ex es = true → EqsOk ρ' ρ es
  | [], _ => trivial
  | (s, x, u) :: l, h => by
    cases x with
    | var n =>
      simp only [eqsTo, Bool.and_eq_true] at h
      refine ⟨?_, eqsTo_ok hF h1 h2 h.2⟩
      have h := h.1
      cases e : ex n with
      | none =>
        rw [e] at h
        obtain rfl := @Tm.eqv_eq rho0 _ _ h
        show eqSr s (ρ'.val n) (ρ.val n)
        rw [h2 n e]
        cases s <;> rfl
      | some t =>
        rw [e] at h
        obtain ⟨a, b⟩ := h1 n t e
        cases s with
        | sB => exact b.trans (@sameB_ok ρ F hF _ _ h).symm
        | sI => exact a.trans (@sameI_ok ρ F hF _ _ h).symm
        | _ => cases h
    | _ => simp only [eqsTo] at h; cases h
theorem to_ok {x : AX} {ex : Nat → Option Tm} {ρ ρ' : Rho} {tree : Tree (AX × Option Eqs)} {F : Fc} (hc : chkT (pTo x ex) tree F = true) (hF : @Fc.Ok ρ F) (h1 : ∀ n t, ex n = some t → (ρ'.val n).asI = (@Tm.den ρ t).asI ∧ (ρ'.val n).asB = (@Tm.den ρ t).asB) (h2 : ∀ n, ex n = none → ρ'.val n = ρ.val n) : ∃ es, @Tree.sel _ ρ tree = some (x, some es) ∧ EqsOk ρ' ρ es := by
  letI := ρ
  obtain ⟨⟨y, o⟩, F', sl, hF', hp⟩ := chkT_ok tree hc hF
  cases o with
  | none => cases hp
  | some es =>
    have hp' : (eqX y x && eqsTo F' ex es) = true := hp
    rw [Bool.and_eq_true] at hp'
    rw [eqX_eq hp'.1] at sl
    exact ⟨es, sl, eqsTo_ok hF' h1 h2 hp'.2⟩
def rtCh : Tree (AX × Option Eqs) := evCode Tryz.prog (evFun Tryz.prog none0 1000) (fun _ => none) 1000000 (lpBody Tryz.prog fF 0) TF (outS 20 2 TF FF)
abbrev tMc : Tm := .ib .mul .i64 (.ib .add .i64 (.wrap .i64 (vt 0)) (.ci 1)) (.wrap .i64 (vt 1))
/-- The first round: it asks for the first time. -/
def FA : Fc := ⟨[(2, 0), (3, 0), (6, 1), (8, 1), (10, 2), (11, 2)], [(7, true), (9, true)], [], [(tMc, 1, 156)], [], false⟩
def exA (n : Nat) : Option Tm := [none, none, some (Tm.ci 1), some (.ci 1), none, none, some (.ci 0), some (.cb false), some (.ci 0), some (.cb false)].getD n none
/-- A round in which nothing is due. -/
def FB : Fc := ⟨[(6, 0), (8, 0), (10, 2), (11, 2)], [(7, false), (9, false)], [(.ib .leq .i64 (vt 2) tMc, true), (.ib .eql .i64 (vt 2) tMc, false), (.ib .eql .i64 (.ib .sub .i64 (vt 5) (.ci 1)) (.ci 0), false)], [(vt 2, 1, 156), (vt 5, 2, 12)], [], false⟩
def exB (n : Nat) : Option Tm := [none, none, some (Tm.ib .add .i64 (vt 2) (.ci 1)), none, none, some (.ib .sub .i64 (vt 5) (.ci 1))].getD n none
/-- A round in which it asks once more. -/
def FC : Fc := ⟨[(5, 1), (6, 0), (8, 0), (10, 2), (11, 2)], [(7, false), (9, false)], [(.ib .leq .i64 (vt 2) tMc, true), (.ib .eql .i64 (vt 2) tMc, false), (.ib .geq .i64 (vt 4) (vt 13), false)], [(vt 2, 1, 156)], [], false⟩
def exC (n : Nat) : Option Tm := [none, none, some (Tm.ib .add .i64 (vt 2) (.ci 1)), some (.ib .add .i64 (vt 3) (.ci 1)), some (.ib .add .i64 (vt 4) (.ci 1)), some (.wrap .i64 (vt 1)), some (.ci 0), some (.cb false), some (.ci 0), some (.cb false)].getD n none
/-- The round in which it fails. -/
def FD : Fc := ⟨[(5, 1), (6, 0), (8, 0), (10, 2), (11, 2)], [(7, false), (9, false)], [(.ib .leq .i64 (vt 2) tMc, true), (.ib .eql .i64 (vt 2) tMc, true), (.ib .geq .i64 (vt 4) (vt 13), true)], [(vt 2, 1, 156)], [], false⟩
def exD (n : Nat) : Option Tm := [none, none, some (Tm.ib .add .i64 (vt 2) (.ci 1)), none, none, some (.ci 0), some (.ci 0), some (.cb false), some (.ci 0), some (.cb false), some (.ci 6), some (.ci 5), some (.cb false)].getD n none
def FX : Fc := ⟨[], [], [(.ib .leq .i64 (vt 2) tMc, false)], [], [], false⟩
set_option maxRecDepth 100000 in
theorem chkA : chkT (pTo .normal exA) rtCh FA = true := by kernel_rfl
set_option maxRecDepth 100000 in
theorem chkB : chkT (pTo .normal exB) rtCh FB = true := by kernel_rfl
set_option maxRecDepth 100000 in
theorem chkC : chkT (pTo .normal exC) rtCh FC = true := by kernel_rfl
set_option maxRecDepth 100000 in
theorem chkD : chkT (pTo .normal exD) rtCh FD = true := by kernel_rfl
set_option maxRecDepth 100000 in
theorem chkX : chkT (pTo (.exit 0) fun _ => none) rtCh FX = true := by kernel_rfl
end
end Go.Proofs.YtenkabjkgngcdaaGreat.Ab
