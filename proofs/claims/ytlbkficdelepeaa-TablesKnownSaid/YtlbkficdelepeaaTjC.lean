/-
  Chapter 24: both judges answer each event alike: looked through by the kernel, state by state.
  Condition: none.
-/
import Derived.Test.YtlbkficdelepeaaTjM
namespace Go.Proofs.Ytlbkficdelepeaa.Ab
set_option linter.unusedSimpArgs false
set_option linter.unusedVariables false
open Go
set_option maxRecDepth 100000 in
theorem ck_1_false : chkT relJ tJ (F0 1 false) = true := by kernel_rfl
set_option maxRecDepth 100000 in
theorem ck_1_true : chkT relJ tJ (F0 1 true) = true := by kernel_rfl
set_option maxRecDepth 100000 in
theorem ck_2_false : chkT relJ tJ (F0 2 false) = true := by kernel_rfl
set_option maxRecDepth 100000 in
theorem ck_2_true : chkT relJ tJ (F0 2 true) = true := by kernel_rfl
set_option maxRecDepth 100000 in
theorem ck_3_false : chkT relJ tJ (F0 3 false) = true := by kernel_rfl
set_option maxRecDepth 100000 in
theorem ck_3_true : chkT relJ tJ (F0 3 true) = true := by kernel_rfl
set_option maxRecDepth 100000 in
theorem ck_4_false : chkT relJ tJ (F0 4 false) = true := by kernel_rfl
set_option maxRecDepth 100000 in
theorem ck_4_true : chkT relJ tJ (F0 4 true) = true := by kernel_rfl
set_option maxRecDepth 100000 in
theorem ck_5_false : chkT relJ tJ (F0 5 false) = true := by kernel_rfl
set_option maxRecDepth 100000 in
theorem ck_5_true : chkT relJ tJ (F0 5 true) = true := by kernel_rfl
end Go.Proofs.Ytlbkficdelepeaa.Ab
