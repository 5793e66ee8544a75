/-
  ArqKnown: numbers 300 to 399, looked through by the kernel.
  No condition.
-/
import Derived.Test.YtlbkficdelepeaaAkG
namespace Go.Proofs.Ytlbkficdelepeaa.Ab
set_option linter.unusedSimpArgs false
set_option linter.unusedVariables false
open Go
set_option maxRecDepth 100000 in
theorem ok_300 : okR 300 20 = true := by kernel_rfl
set_option maxRecDepth 100000 in
theorem ok_320 : okR 320 20 = true := by kernel_rfl
set_option maxRecDepth 100000 in
theorem ok_340 : okR 340 20 = true := by kernel_rfl
set_option maxRecDepth 100000 in
theorem ok_360 : okR 360 20 = true := by kernel_rfl
set_option maxRecDepth 100000 in
theorem ok_380 : okR 380 20 = true := by kernel_rfl
end Go.Proofs.Ytlbkficdelepeaa.Ab
