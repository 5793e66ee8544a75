/-
  ArqKnown: numbers 100 to 199, looked through by the kernel.
  No condition.
-/
import Derived.Test.YtlbkficdelepeaaAkG
namespace Go.Proofs.Ytlbkficdelepeaa.Ab
set_option linter.unusedSimpArgs false
set_option linter.unusedVariables false
open Go
set_option maxRecDepth 100000 in
theorem ok_100 : okR 100 20 = true := by kernel_rfl
set_option maxRecDepth 100000 in
theorem ok_120 : okR 120 20 = true := by kernel_rfl
set_option maxRecDepth 100000 in
theorem ok_140 : okR 140 20 = true := by kernel_rfl
set_option maxRecDepth 100000 in
theorem ok_160 : okR 160 20 = true := by kernel_rfl
set_option maxRecDepth 100000 in
theorem ok_180 : okR 180 20 = true := by kernel_rfl
end Go.Proofs.Ytlbkficdelepeaa.Ab
