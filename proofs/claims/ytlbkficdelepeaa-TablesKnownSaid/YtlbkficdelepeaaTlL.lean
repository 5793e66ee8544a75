/-
  TablesLink: its loops as states with letters.
  Conditions: as each theorem tells.
-/
import Derived.Test.YtlbkficdelepeaaTlW
namespace Go.Proofs.Ytlbkficdelepeaa.Ab
set_option linter.unusedSimpArgs false
set_option linter.unusedVariables false
open Go
set_option linter.unusedSectionVars false
noncomputable section
def tabU : List (Nat × CtrG) := (11, trueC) :: (fJE, sumG SJ 2560 10) :: tabR
theorem tabU_ok {ρ : Rho} (hf : ρ.fn = fnU) : TabOK ρ tabU := ⟨true_CG (@works24 ρ), sumU_CG hf (SumOK.all noneU_all evJ_okU), tabR_ok hf⟩
def envU : Env := ⟨tabGet tabU, fun _ _ => none⟩
theorem envU_ok {ρ : Rho} (hf : ρ.fn = fnU) : @EnvOK ρ Try.prog envU := env_of (tabU_ok hf)
abbrev fTk : FuncId := 8
abbrev fFew : FuncId := 49
def H0U : Heap := ⟨1, [(0, .seq shD (vt 0) false)], [], []⟩
/-- The lengths: 64. -/
def TFew : St := ⟨24, [(5, iv 64), (0, argD)], H0U, []⟩
def FFew : St := ⟨24, [(0, argD)], H0U, []⟩
def FFewB : St := ⟨24, [(4, .bool false)], H0U, []⟩
def sFew (i : Nat) : Option Tm := bif Nat.beq i 64 then some (.ci 0) else none
def gFewA : LpG := loopN 1 64 TFew FFew sFew (.exit 0)
def gFewB : LpG := loopN 1 64 TFew FFewB sFew .ret
/-- What happens. -/
def sRun (i : Nat) : Option Tm := bif Nat.ble i 2 then none else bif Nat.ble 44 i then none else bif Nat.beq i 4 then some (.ci 1) else bif Nat.beq i 7 then some moT else
  bif Nat.beq i 21 || Nat.beq i 23 then some (.ci 2) else bif Nat.beq i 22 then some (.ci 3) else
  bif Nat.beq i 5 || (Nat.ble 15 i && Nat.ble i 20) || Nat.beq i 26 || (Nat.ble 28 i && Nat.ble i 31) || Nat.beq i 33 || Nat.beq i 34 || Nat.beq i 38 || Nat.beq i 39 || Nat.beq i 42 || Nat.beq i 43 then some (.cb false) else some (.ci 0)
def gRun : LpG := loopN 4 3 TRun FRun sRun (.exit 0)
def argTr : AV := .sslice 4 8 (.ci 0) (.llen (vt 42))
def objsR : List (Nat × AObj) := [(6, .seq [.ks] (vt 26) true), (5, rowAq 8 6), (4, .seq shEv (vt 42) true), (3, rowSd 5 4), (1, rowLk), (0, .seq shD (vt 0) false)]
/-- The trace, accepted: 44 the number, 45 to 53 the judge. -/
def TAcc : St := ⟨26, [(13, iv 44), (12, .sint .i64 (.llen (vt 42))), (11, argTr), (6, .ptr 8 0), (1, argTr)], ⟨9, (8, rowJ 7 45) :: (7, .map TBL) :: objsR, [], []⟩, []⟩
def FAcc : St := ⟨26, [(1, argTr)], ⟨9, objsR, [], []⟩, []⟩
def sAcc (i : Nat) : Option Tm := bif Nat.ble i 43 then none else bif Nat.ble 54 i then none else bif Nat.beq i 44 then some (.ci 0) else sC 45 i
def gAcc : LpG := loopN 9 44 TAcc FAcc sAcc (.exit 0)
/-- The trace, judged: 54 the number, 55 to 63 the judge. -/
def TJdg : St := ⟨69, [(9, iv 54), (7, .bool true), (6, .sint .i64 (.llen (vt 42))), (8, .ptr 10 0), (5, .ptr 3 0)], ⟨11, (10, rowJ 9 55) :: (9, .map TBL) :: objsR, [], []⟩, []⟩
def FJdg : St := ⟨69, [(7, .bool true), (6, .sint .i64 (.llen (vt 42))), (8, .ptr 10 0), (5, .ptr 3 0)], ⟨11, (10, rowJ 9 55) :: (9, .map TBL) :: objsR, [], []⟩, []⟩
def sJdg (i : Nat) : Option Tm := bif Nat.ble i 53 then none else bif Nat.ble 64 i then none else bif Nat.beq i 54 then some (.ci 0) else sC 55 i
def gJdg : LpG := loopN 11 54 TJdg FJdg sJdg (.exit 0)
def lpU (a b c d : LpG) : FuncId → LoopF := fun f => bif Nat.beq f fFew then lf1 4 a else bif Nat.beq f fRun then lf1 3 b else bif Nat.beq f fAj then lf1 3 c else bif Nat.beq f fTk then lf1 7 d else fun _ => none
def envTk (a b c d : LpG) : Env := ⟨tabGet tabU, lpU a b c d⟩
def lawU (a b c d : LpG) : Tree AV := evFun Try.prog (envTk a b c d) 1000 fTk [iv 1, argD] H0U fun v _ => .leaf v
set_option maxRecDepth 100000 in
theorem keyFew : keyAt Try.prog fFew 4 0 = true := by kernel_rfl
set_option maxRecDepth 100000 in
theorem keyRun : keyAt Try.prog fRun 3 0 = true := by kernel_rfl
set_option maxRecDepth 100000 in
theorem keyTk : keyAt Try.prog fTk 7 0 = true := by kernel_rfl
end
end Go.Proofs.Ytlbkficdelepeaa.Ab
