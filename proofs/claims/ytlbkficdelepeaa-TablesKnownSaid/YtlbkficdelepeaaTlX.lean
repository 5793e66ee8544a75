/-
  TablesLink: what rounds of its loops do, as trees; the end of run.
  No condition.
-/
import Derived.Test.YtlbkficdelepeaaTlL
namespace Go.Proofs.Ytlbkficdelepeaa.Ab
set_option linter.unusedSimpArgs false
set_option linter.unusedVariables false
open Go
noncomputable section
abbrev rtFewA_0 : Tm := (.and (.ib .leq .i64 (.ci 0) (vt 64)) (.ib .lss .i64 (vt 64) (.llen (vt 0))))
def rtFewA : (Tree (AX × Option Eqs)) :=
 (.fork (.ib .lss .i64 (vt 64) (.llen (vt 0)))
 (.fork rtFewA_0
  (.fork (.ib .gtr .i64 (.len (.lget (vt 0) (vt 64) 7)) (.ci 100))
   (.leaf (.ret, (some [])))
   (.leaf (.normal, (some [(.sI, (vt 64), (.ib .add .i64 (vt 64) (.ci 1)))]))))
  .fail)
 (.leaf ((.exit 0), (some []))))
set_option maxRecDepth 100000 in
theorem rtFewA_eq : evCode Try.prog (evFun Try.prog envU 1000) (fun _ => none) 1000000 (lpBody Try.prog fFew 0) TFew (outN 1 64 TFew FFew) = rtFewA := by kernel_rfl
abbrev rtFewB_0 : Tm := (.and (.ib .leq .i64 (.ci 0) (vt 64)) (.ib .lss .i64 (vt 64) (.llen (vt 0))))
def rtFewB : (Tree (AX × Option Eqs)) :=
 (.fork (.ib .lss .i64 (vt 64) (.llen (vt 0)))
 (.fork rtFewB_0
  (.fork (.ib .gtr .i64 (.len (.lget (vt 0) (vt 64) 7)) (.ci 100))
   (.leaf (.ret, (some [])))
   (.leaf (.normal, (some [(.sI, (vt 64), (.ib .add .i64 (vt 64) (.ci 1)))]))))
  .fail)
 (.leaf ((.exit 0), none)))
set_option maxRecDepth 100000 in
theorem rtFewB_eq : evCode Try.prog (evFun Try.prog envU 1000) (fun _ => none) 1000000 (lpBody Try.prog fFew 0) TFew (outN 1 64 TFew FFewB) = rtFewB := by kernel_rfl
abbrev rtAcc_0 : Tm := (.and (.ib .leq .i64 (.ci 0) (vt 44)) (.ib .lss .i64 (vt 44) (.llen (vt 42))))
abbrev rtAcc_1 : Tm := (tp [(vt 45), (vt 46), (vt 47), (vt 48), (vt 49), (vt 50), (vt 51), (vt 52), (vt 53), (.lget (vt 42) (vt 44) 0), (.lget (vt 42) (vt 44) 1), (.lget (vt 42) (vt 44) 2), (.lget (vt 42) (vt 44) 3), (.lget (vt 42) (vt 44) 4), (.lget (vt 42) (vt 44) 5), (.lget (vt 42) (vt 44) 6), (.lget (vt 42) (vt 44) 7)])
def rtAcc : (Tree (AX × Option Eqs)) :=
 (.fork (.ib .lss .i64 (vt 44) (.llen (vt 42)))
 (.fork rtAcc_0
  (.fork (.app 2570 rtAcc_1)
   (.fork (.not (.app 2560 rtAcc_1))
    (.leaf (.ret, (some [])))
    (.leaf (.normal, (some [(.sI, (vt 44), (.ib .add .i64 (vt 44) (.ci 1))), (.sI, (vt 45), (.app 2561 rtAcc_1)), (.sB, (vt 46), (.app 2562 rtAcc_1)), (.sI, (vt 47), (.app 2563 rtAcc_1)), (.sI, (vt 48), (vt 48)), (.sI, (vt 49), (.app 2565 rtAcc_1)), (.sB, (vt 50), (.app 2566 rtAcc_1)), (.sI, (vt 51), (.app 2567 rtAcc_1)), (.sB, (vt 52), (.app 2568 rtAcc_1)), (.sB, (vt 53), (.app 2569 rtAcc_1))]))))
   .fail)
  .fail)
 (.leaf ((.exit 0), (some []))))
set_option maxRecDepth 100000 in
theorem rtAcc_eq : evCode Try.prog (evFun Try.prog envU 1000) (fun _ => none) 1000000 (lpBody Try.prog fAj 0) TAcc (outN 9 44 TAcc FAcc) = rtAcc := by kernel_rfl
abbrev rtJdg_0 : Tm := (.and (.ib .leq .i64 (.ci 0) (vt 54)) (.ib .lss .i64 (vt 54) (.llen (vt 42))))
abbrev rtJdg_1 : Tm := (tp [(vt 55), (vt 56), (vt 57), (vt 58), (vt 59), (vt 60), (vt 61), (vt 62), (vt 63), (.lget (vt 42) (vt 54) 0), (.lget (vt 42) (vt 54) 1), (.lget (vt 42) (vt 54) 2), (.lget (vt 42) (vt 54) 3), (.lget (vt 42) (vt 54) 4), (.lget (vt 42) (vt 54) 5), (.lget (vt 42) (vt 54) 6), (.lget (vt 42) (vt 54) 7)])
def rtJdg : (Tree (AX × Option Eqs)) :=
 (.fork (.ib .lss .i64 (vt 54) (.llen (vt 42)))
 (.fork rtJdg_0
  (.fork (.app 2570 rtJdg_1)
   (.leaf (.normal, (some [(.sI, (vt 54), (.ib .add .i64 (vt 54) (.ci 1))), (.sI, (vt 55), (.app 2561 rtJdg_1)), (.sB, (vt 56), (.app 2562 rtJdg_1)), (.sI, (vt 57), (.app 2563 rtJdg_1)), (.sI, (vt 58), (vt 58)), (.sI, (vt 59), (.app 2565 rtJdg_1)), (.sB, (vt 60), (.app 2566 rtJdg_1)), (.sI, (vt 61), (.app 2567 rtJdg_1)), (.sB, (vt 62), (.app 2568 rtJdg_1)), (.sB, (vt 63), (.app 2569 rtJdg_1))])))
   .fail)
  .fail)
 (.leaf ((.exit 0), (some [(.sI, (vt 55), (vt 55)), (.sB, (vt 56), (vt 56)), (.sI, (vt 57), (vt 57)), (.sI, (vt 58), (vt 58)), (.sI, (vt 59), (vt 59)), (.sB, (vt 60), (vt 60)), (.sI, (vt 61), (vt 61)), (.sB, (vt 62), (vt 62)), (.sB, (vt 63), (vt 63))]))))
set_option maxRecDepth 100000 in
theorem rtJdg_eq : evCode Try.prog (evFun Try.prog envU 1000) (fun _ => none) 1000000 (lpBody Try.prog fTk 0) TJdg (outN 11 54 TJdg FJdg) = rtJdg := by kernel_rfl
abbrev lawUt : Tree AV := .fork (.ib .gtr .i64 (.llen (vt 0)) (.ci 200)) (.leaf (.bool true)) (.fork (.ib .eql .i64 (.llen (.cb false)) (.ci 0)) (.fork (.ib .eql .u8 (vt 55) (vt 4)) (.leaf (.bool true)) (.leaf (.bool false))) .fail)
set_option maxRecDepth 100000 in
theorem lawUA_eq : lawU gFewA gRun gAcc gJdg = lawUt := by kernel_rfl
set_option maxRecDepth 100000 in
theorem lawUB_all : Tree.allT (lawU gFewB dead dead dead) = true := by kernel_rfl
set_option maxRecDepth 100000 in
theorem lawUD_eq : lawU dead dead dead dead = .fork (.ib .gtr .i64 (.llen (vt 0)) (.ci 200)) (.leaf (.bool true)) .fail := by kernel_rfl
set_option maxRecDepth 100000 in
theorem lawUN_all : Tree.allT (evFun Try.prog envU 1000 fTk [iv 1, .nilSlice] heap0 fun v _ => .leaf v) = true := by kernel_rfl
/-- The end of run: nothing is other. -/
def idEqs : Eqs → Bool
  | [] => true
  | (_, x, t) :: l => x.eqv t && idEqs l
def pEnd (p : AX × Option Eqs) (_ : Fc) : Bool := match p.1, p.2 with
  | .exit n, some es => Nat.beq n 0 && idEqs es
  | _, _ => false
def Fend : Fc := ⟨[], [], [(.ib .lss .i64 (vt 3) (.llen (vt 0)), false)], [], [], false⟩
set_option maxRecDepth 100000 in
theorem end_chk : chkT pEnd rtRun Fend = true := by kernel_rfl
end
end Go.Proofs.Ytlbkficdelepeaa.Ab
