/-
  TablesOther: what rounds of its loops do, as trees; the law's tree.
  No condition.
-/
import Derived.Test.YtlbkficdelepeaaToL
namespace Go.Proofs.Ytlbkficdelepeaa.Ab
set_option linter.unusedSimpArgs false
set_option linter.unusedVariables false
open Go
noncomputable section
abbrev rtAcE_0 : Tm := (.and (.ib .leq .i64 (.ci 0) (vt 2)) (.ib .lss .i64 (vt 2) (.llen (vt 0))))
abbrev rtAcE_1 : Tm := (tp [(vt 3), (vt 4), (vt 5), (vt 6), (vt 7), (vt 8), (vt 9), (vt 10), (vt 11), (.lget (vt 0) (vt 2) 0), (.lget (vt 0) (vt 2) 1), (.lget (vt 0) (vt 2) 2), (.lget (vt 0) (vt 2) 3), (.lget (vt 0) (vt 2) 4), (.lget (vt 0) (vt 2) 5), (.lget (vt 0) (vt 2) 6), (.lget (vt 0) (vt 2) 7)])
def rtAcE : (Tree (AX × Option Eqs)) :=
 (.fork (.ib .lss .i64 (vt 2) (.llen (vt 0)))
 (.fork rtAcE_0
  (.fork (.app 2570 rtAcE_1)
   (.fork (.not (.app 2560 rtAcE_1))
    (.leaf (.ret, (some [])))
    (.leaf (.normal, (some [(.sI, (vt 2), (.ib .add .i64 (vt 2) (.ci 1))), (.sI, (vt 3), (.app 2561 rtAcE_1)), (.sB, (vt 4), (.app 2562 rtAcE_1)), (.sI, (vt 5), (.app 2563 rtAcE_1)), (.sI, (vt 6), (vt 6)), (.sI, (vt 7), (.app 2565 rtAcE_1)), (.sB, (vt 8), (.app 2566 rtAcE_1)), (.sI, (vt 9), (.app 2567 rtAcE_1)), (.sB, (vt 10), (.app 2568 rtAcE_1)), (.sB, (vt 11), (.app 2569 rtAcE_1))]))))
   .fail)
  .fail)
 (.leaf ((.exit 0), (some []))))
set_option maxRecDepth 100000 in
theorem rtAcE_eq : evCode Try.prog (evFun Try.prog envU 1000) (fun _ => none) 1000000 (lpBody Try.prog fAj 0) TAc (outN 3 2 TAc FAcE) = rtAcE := by kernel_rfl
abbrev rtAcR_0 : Tm := (.and (.ib .leq .i64 (.ci 0) (vt 2)) (.ib .lss .i64 (vt 2) (.llen (vt 0))))
abbrev rtAcR_1 : Tm := (tp [(vt 3), (vt 4), (vt 5), (vt 6), (vt 7), (vt 8), (vt 9), (vt 10), (vt 11), (.lget (vt 0) (vt 2) 0), (.lget (vt 0) (vt 2) 1), (.lget (vt 0) (vt 2) 2), (.lget (vt 0) (vt 2) 3), (.lget (vt 0) (vt 2) 4), (.lget (vt 0) (vt 2) 5), (.lget (vt 0) (vt 2) 6), (.lget (vt 0) (vt 2) 7)])
def rtAcR : (Tree (AX × Option Eqs)) :=
 (.fork (.ib .lss .i64 (vt 2) (.llen (vt 0)))
 (.fork rtAcR_0
  (.fork (.app 2570 rtAcR_1)
   (.fork (.not (.app 2560 rtAcR_1))
    (.leaf (.ret, (some [(.sI, (.app 3072 (tp [(vt 1), (vt 0)])), (vt 2))])))
    (.leaf (.normal, (some [(.sI, (vt 2), (.ib .add .i64 (vt 2) (.ci 1))), (.sI, (vt 3), (.app 2561 rtAcR_1)), (.sB, (vt 4), (.app 2562 rtAcR_1)), (.sI, (vt 5), (.app 2563 rtAcR_1)), (.sI, (vt 6), (vt 6)), (.sI, (vt 7), (.app 2565 rtAcR_1)), (.sB, (vt 8), (.app 2566 rtAcR_1)), (.sI, (vt 9), (.app 2567 rtAcR_1)), (.sB, (vt 10), (.app 2568 rtAcR_1)), (.sB, (vt 11), (.app 2569 rtAcR_1))]))))
   .fail)
  .fail)
 (.leaf ((.exit 0), none)))
set_option maxRecDepth 100000 in
theorem rtAcR_eq : evCode Try.prog (evFun Try.prog envU 1000) (fun _ => none) 1000000 (lpBody Try.prog fAj 0) TAc (outN 3 2 TAc FAcR) = rtAcR := by kernel_rfl
abbrev rtOm_0 : Tm := (.and (.ib .leq .i64 (.ci 0) (vt 67)) (.ib .lss .i64 (vt 67) (.llen (vt 42))))
abbrev rtOm_1 : Tm := (tp [(vt 68), (vt 69), (vt 70), (vt 71), (vt 72), (vt 73), (vt 74), (vt 75), (vt 76), (.lget (vt 42) (vt 67) 0), (.lget (vt 42) (vt 67) 1), (.lget (vt 42) (vt 67) 2), (.lget (vt 42) (vt 67) 3), (.lget (vt 42) (vt 67) 4), (.lget (vt 42) (vt 67) 5), (.lget (vt 42) (vt 67) 6), (.lget (vt 42) (vt 67) 7)])
def rtOm : (Tree (AX × Option Eqs)) :=
 (.fork (.ib .lss .i64 (vt 67) (vt 77))
 (.fork rtOm_0
  (.fork (.app 2570 rtOm_1)
   (.leaf (.normal, (some [(.sI, (vt 67), (.ib .add .i64 (vt 67) (.ci 1))), (.sI, (vt 77), (vt 77)), (.sI, (vt 68), (.app 2561 rtOm_1)), (.sB, (vt 69), (.app 2562 rtOm_1)), (.sI, (vt 70), (.app 2563 rtOm_1)), (.sI, (vt 71), (vt 71)), (.sI, (vt 72), (.app 2565 rtOm_1)), (.sB, (vt 73), (.app 2566 rtOm_1)), (.sI, (vt 74), (.app 2567 rtOm_1)), (.sB, (vt 75), (.app 2568 rtOm_1)), (.sB, (vt 76), (.app 2569 rtOm_1)), (.sB, (vt 78), (vt 78)), (.sI, (vt 79), (vt 79)), (.sB, (vt 80), (vt 80))])))
   .fail)
  .fail)
 (.leaf ((.exit 0), (some [(.sI, (vt 77), (vt 77)), (.sI, (vt 68), (vt 68)), (.sB, (vt 69), (vt 69)), (.sI, (vt 70), (vt 70)), (.sI, (vt 71), (vt 71)), (.sI, (vt 72), (vt 72)), (.sB, (vt 73), (vt 73)), (.sI, (vt 74), (vt 74)), (.sB, (vt 75), (vt 75)), (.sB, (vt 76), (vt 76)), (.sB, (vt 78), (vt 78)), (.sI, (vt 79), (vt 79)), (.sB, (vt 80), (vt 80))]))))
set_option maxRecDepth 100000 in
theorem rtOm_eq : evCode Try.prog (evFun Try.prog envU 1000) (fun _ => none) 1000000 (lpBody Try.prog fTo 0) TOm (outN 10 67 TOm FOm) = rtOm := by kernel_rfl
def tAcE : (Tree (Option Eqs)) :=
 (.leaf (some [(.sI, (vt 2), (.llen (vt 0))), (.sB, (vt 3), (.cb true))]))
set_option maxRecDepth 100000 in
theorem tAcE_eq : SAc.tree Try.prog (envAc gAcE) fAj = tAcE := by kernel_rfl
def tAcR : (Tree (Option Eqs)) :=
 (.leaf (some [(.sI, (vt 2), (.app 3072 (tp [(vt 1), (vt 0)]))), (.sB, (vt 3), (.cb false))]))
set_option maxRecDepth 100000 in
theorem tAcR_eq : SAc.tree Try.prog (envAc gAcR) fAj = tAcR := by kernel_rfl
/-- The place, one row more, one row twice, one row turned. -/
abbrev oddT6 : Tm := (.lapp (.lapp (.lcut (vt 42) (.ci 0) (vt 77)) (.row (tp [.ci 8, .ci 0, vt 78, vt 79, vt 80, .ci 0, .ci 0, .cs []]))) (.lcut (vt 42) (vt 77) (.minus (.llen (vt 42)) (vt 77))))
abbrev oddL : Tm := (.plus (.llen (.lapp (.lcut (vt 42) (.ci 0) (vt 77)) (.row (tp [.ci 8, .ci 0, vt 78, vt 79, vt 80, .ci 0, .ci 0, .cs []])))) (.minus (.llen (vt 42)) (vt 77)))
abbrev getT (j : Nat) : Tm := .lget (vt 42) (vt 77) j
abbrev twT : Tm := (.lapp (.lcut (vt 42) (.ci 0) (.ib .add .i64 (vt 77) (.ci 1))) (.row (tp [getT 0, getT 1, getT 2, getT 3, getT 4, getT 5, getT 6, getT 7])))
abbrev tuT : Tm := (.lput (vt 42) (vt 77) (tp [.ci 8, getT 1, getT 2, getT 3, .not (getT 4), getT 5, getT 6, getT 7]))
abbrev accT (k : Nat) (t : Tm) : Tm := .app (3072 + k) (tp [vt 1, t])
abbrev lT : Tree AV := .leaf (.bool true)
abbrev lFa : Tree AV := .leaf (.bool false)
def tailT : Tree AV :=
 .fork (.ib .eql .i64 (vt 77) (.llen (vt 42))) lT
  (.fork (.and (.ib .leq .i64 (.ci 0) (vt 77)) (.ib .lss .i64 (vt 77) (.llen (vt 42))))
   (.fork (.ib .neq .u8 (getT 0) (.ci 8)) lT
    (.fork (.ib .gtr .u8 (getT 3) (.ci 4)) lT
     (.fork (.and (.ib .leq .i64 (.ci 0) (.ib .add .i64 (vt 77) (.ci 1))) (.ib .leq .i64 (.ib .add .i64 (vt 77) (.ci 1)) (.llen (vt 42))))
      (.fork (.ib .leq .i64 (.ib .add .i64 (vt 77) (.ci 1)) (.ci 4294967296))
       (.fork (.ib .lss .i64 (.llen (.lcut (vt 42) (.ci 0) (.ib .add .i64 (vt 77) (.ci 1)))) (.ci 4294967295))
        (.fork (.ib .leq .i64 (.llen (vt 42)) (.ci 4294967296))
         (.fork (accT 2 twT)
          (.fork (.and (.ib .eql .i64 (.llen tuT) (.llen (vt 42))) (accT 2 tuT))
           (.fork (.not (accT 1 twT))
            (.fork (.ib .eql .i64 (accT 0 twT) (.ib .add .i64 (vt 77) (.ci 1)))
             (.fork (.not (accT 1 tuT))
              (.fork (.ib .eql .i64 (accT 0 tuT) (vt 77)) lT lFa) lFa) lFa) lFa) .fail) .fail) .fail) .fail) .fail) .fail))) .fail)
def oddTr : Tree AV :=
 .fork (.and (.ib .leq .i64 (.ci 0) (vt 77)) (.ib .leq .i64 (vt 77) (.llen (vt 42))))
  (.fork (.ib .leq .i64 (vt 77) (.ci 4294967296))
   (.fork (.ib .lss .i64 (.llen (.lcut (vt 42) (.ci 0) (vt 77))) (.ci 4294967295))
    (.fork (.ib .leq .i64 oddL (.ci 4294967296))
     (.fork (accT 2 oddT6)
      (.fork (accT 1 oddT6) lFa
       (.fork (.ib .neq .i64 (accT 0 oddT6) (vt 77)) lFa tailT)) .fail) .fail) .fail) .fail) .fail
def bodyTr : Tree AV := .fork (.ib .neq .u8 (vt 79) (vt 72)) (.fork (.ib .neq .u8 (vt 79) (vt 74)) oddTr tailT) tailT
def lawOt : Tree AV :=
 .fork (.ib .gtr .i64 (.llen (vt 0)) (.ci 100)) lT
  (.fork (.ib .eql .i64 (.llen (.cb false)) (.ci 0))
   (.fork (.ib .leq .i64 nT (.ci 0)) (.fork (.ib .eql .i64 iTm (.ci 0)) bodyTr .fail)
    (.fork (.ib .neq .i64 nT (.ci 0)) bodyTr .fail)) .fail)
set_option maxRecDepth 100000 in
theorem lawOA_eq : lawO gFewA gRun gOm = lawOt := by kernel_rfl
set_option maxRecDepth 100000 in
theorem lawOB_all : Tree.allT (lawO gFewB dead dead) = true := by kernel_rfl
set_option maxRecDepth 100000 in
theorem lawOD_eq : lawO dead dead dead = .fork (.ib .gtr .i64 (.llen (vt 0)) (.ci 100)) (.leaf (.bool true)) .fail := by kernel_rfl
end
end Go.Proofs.Ytlbkficdelepeaa.Ab
