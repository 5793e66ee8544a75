/-
  ArqKnown: numbers 200 to 299, looked through by the kernel.
  No condition.
-/
import Derived.Test.YtlbkficdelepeaaAkG
namespace Go.Proofs.Ytlbkficdelepeaa.Ab
set_option linter.unusedSimpArgs false
set_option linter.unusedVariables false
open Go
set_option maxRecDepth 100000 in
theorem ok_200 : okR 200 20 = true := by kernel_rfl
set_option maxRecDepth 100000 in
theorem ok_220 : okR 220 20 = true := by kernel_rfl
set_option maxRecDepth 100000 in
theorem ok_240 : okR 240 20 = true := by kernel_rfl
set_option maxRecDepth 100000 in
theorem ok_260 : okR 260 20 = true := by kernel_rfl
set_option maxRecDepth 100000 in
theorem ok_280 : okR 280 20 = true := by kernel_rfl
end Go.Proofs.Ytlbkficdelepeaa.Ab
