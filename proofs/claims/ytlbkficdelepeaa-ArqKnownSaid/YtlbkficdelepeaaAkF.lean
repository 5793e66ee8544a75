/-
  ArqKnown: its trees and the plain functions say the same.
  Conditions: as each theorem tells.
-/
import Derived.Test.YtlbkficdelepeaaAkT
import Derived.Test.YtlbkficdelepeaaAkG
namespace Go.Proofs.Ytlbkficdelepeaa.Ab
set_option linter.unusedSimpArgs false
set_option linter.unusedVariables false
open Go
noncomputable section
set_option maxRecDepth 100000 in
theorem nBkF_eq (w : Nat → Dat) (v : List Dat) : stepK ⟨fun n => bif Nat.blt n 1 then w n else v.getD (n - 1) (.dI 0), fnE⟩ nBk 1 3 = apF 3 0 v (nBkF (w 0)) := by kernel_rfl
set_option maxRecDepth 100000 in
theorem nAkF_eq (w : Nat → Dat) (v : List Dat) : stepK ⟨fun n => bif Nat.blt n 1 then w n else v.getD (n - 1) (.dI 0), fnE⟩ nAk 0 1 = apF 3 0 v (nAkF (w 0)) := by kernel_rfl
end
end Go.Proofs.Ytlbkficdelepeaa.Ab
