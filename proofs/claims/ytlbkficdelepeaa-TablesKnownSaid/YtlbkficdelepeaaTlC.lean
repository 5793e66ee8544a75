/-
  Chapter 24, a side to which things happen: a round of run looked through by the kernel, state by state.
  Condition: none.
-/
import Derived.Test.YtlbkficdelepeaaTlK
namespace Go.Proofs.Ytlbkficdelepeaa.Ab
set_option linter.unusedSimpArgs false
set_option linter.unusedVariables false
open Go
set_option maxRecDepth 100000 in
theorem rk_1_false : chkT pRun rtRun (F0L 1 false true) = true := by kernel_rfl
set_option maxRecDepth 100000 in
theorem rk_1_true : chkT pRun rtRun (F0L 1 true true) = true := by kernel_rfl
set_option maxRecDepth 100000 in
theorem rk_2_false : chkT pRun rtRun (F0L 2 false true) = true := by kernel_rfl
set_option maxRecDepth 100000 in
theorem rk_2_true : chkT pRun rtRun (F0L 2 true true) = true := by kernel_rfl
set_option maxRecDepth 100000 in
theorem rk_4_false : chkT pRun rtRun (F0L 4 false true) = true := by kernel_rfl
set_option maxRecDepth 100000 in
theorem rk_4_true : chkT pRun rtRun (F0L 4 true true) = true := by kernel_rfl
set_option maxRecDepth 100000 in
theorem rk_5_false : chkT pRun rtRun (F0L 5 false true) = true := by kernel_rfl
set_option maxRecDepth 100000 in
theorem rk_5_true : chkT pRun rtRun (F0L 5 true true) = true := by kernel_rfl
set_option maxRecDepth 100000 in
theorem rk_3_false_false : chkT pRun rtRun (F0L 3 false false) = true := by kernel_rfl
set_option maxRecDepth 100000 in
theorem rk_3_false_true : chkT pRun rtRun (F0L 3 false true) = true := by kernel_rfl
set_option maxRecDepth 100000 in
theorem rk_3_true_false : chkT pRun rtRun (F0L 3 true false) = true := by kernel_rfl
set_option maxRecDepth 100000 in
theorem rk_3_true_true : chkT pRun rtRun (F0L 3 true true) = true := by kernel_rfl
set_option maxRecDepth 100000 in
theorem rtRun_clo : cloR rtRun = true := by kernel_rfl
end Go.Proofs.Ytlbkficdelepeaa.Ab
