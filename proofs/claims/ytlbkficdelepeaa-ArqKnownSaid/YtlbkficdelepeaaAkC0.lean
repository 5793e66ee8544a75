/-
  ArqKnown: numbers 0 to 99, looked through by the kernel.
  No condition.
-/
import Derived.Test.YtlbkficdelepeaaAkG
namespace Go.Proofs.Ytlbkficdelepeaa.Ab
set_option linter.unusedSimpArgs false
set_option linter.unusedVariables false
open Go
set_option maxRecDepth 100000 in
theorem ok_0 : okR 0 20 = true := by kernel_rfl
set_option maxRecDepth 100000 in
theorem ok_20 : okR 20 20 = true := by kernel_rfl
set_option maxRecDepth 100000 in
theorem ok_40 : okR 40 20 = true := by kernel_rfl
set_option maxRecDepth 100000 in
theorem ok_60 : okR 60 20 = true := by kernel_rfl
set_option maxRecDepth 100000 in
theorem ok_80 : okR 80 20 = true := by kernel_rfl
set_option maxRecDepth 100000 in
theorem ok_x : okX 400 = true := by kernel_rfl
end Go.Proofs.Ytlbkficdelepeaa.Ab
