/-
  ArqEnds: its trees and the plain functions say the same; the table of functions.
  Conditions: as each theorem tells.
-/
import Derived.Test.YtlbkficdelepeaaEnR
import Derived.Test.YtlbkficdelepeaaEnN
namespace Go.Proofs.Ytlbkficdelepeaa.Ab
set_option linter.unusedSimpArgs false
set_option linter.unusedVariables false
open Go
set_option linter.unusedVariables false
set_option linter.unusedSectionVars false
noncomputable section
def fnE : Nat → Dat → Dat := fun k d => bif Nat.blt k 2048 then fnOf mSid k d else bif Nat.beq (k / 64) 50 then (apF 59 0 (cellsD d) tSd0F).getD (k % 64) (.dB true) else bif Nat.beq (k / 64) 51 then (apF 59 0 (cellsD d) tSd1F).getD (k % 64) (.dB true) else bif Nat.beq (k / 64) 52 then (apF 59 0 (cellsD d) tHd0F).getD (k % 64) (.dB true) else bif Nat.beq (k / 64) 53 then (apF 59 0 (cellsD d) tHd1F).getD (k % 64) (.dB true) else bif Nat.beq (k / 64) 54 then (apF 59 0 (cellsD d) nRgF).getD (k % 64) (.dB true) else bif Nat.beq (k / 64) 55 then (apF 59 0 (cellsD d) tHl0F).getD (k % 64) (.dB true) else bif Nat.beq (k / 64) 56 then (apF 59 0 (cellsD d) tHl1F).getD (k % 64) (.dB true) else bif Nat.beq (k / 64) 60 then .dB (endsN (cellsD d)) else bif Nat.beq (k / 64) 61 then .dB (rngL shPl d.asL) else bif Nat.beq (k / 64) 62 then .dB (rngL shPr d.asL) else .dB true
set_option maxRecDepth 100000 in
theorem tSd0F_eq (l : List Dat) : autK ⟨fun n => l.getD n (.dI 0), fnOf mSid⟩ tSd0 59 11 = apF 59 0 l tSd0F := by kernel_rfl
set_option maxRecDepth 100000 in
theorem tSd1F_eq (l : List Dat) : autK ⟨fun n => l.getD n (.dI 0), fnOf mSid⟩ tSd1 59 11 = apF 59 0 l tSd1F := by kernel_rfl
set_option maxRecDepth 100000 in
theorem tHd0F_eq (l : List Dat) : autK ⟨fun n => l.getD n (.dI 0), fnOf mSid⟩ tHd0 59 21 = apF 59 0 l tHd0F := by kernel_rfl
set_option maxRecDepth 100000 in
theorem tHd1F_eq (l : List Dat) : autK ⟨fun n => l.getD n (.dI 0), fnOf mSid⟩ tHd1 59 21 = apF 59 0 l tHd1F := by kernel_rfl
set_option maxRecDepth 100000 in
theorem nRgF_eq (l : List Dat) : autK ⟨fun n => l.getD n (.dI 0), fnOf mSid⟩ nRg 59 1 = apF 59 0 l nRgF := by kernel_rfl
set_option maxRecDepth 100000 in
theorem tHl0F_eq (l : List Dat) : autK ⟨fun n => l.getD n (.dI 0), fnOf mSid⟩ tHl0 59 3 = apF 59 0 l tHl0F := by kernel_rfl
set_option maxRecDepth 100000 in
theorem tHl1F_eq (l : List Dat) : autK ⟨fun n => l.getD n (.dI 0), fnOf mSid⟩ tHl1 59 3 = apF 59 0 l tHl1F := by kernel_rfl
set_option maxRecDepth 100000 in
theorem nDeF_eq (w : Nat → Dat) (z : List Dat) : stepK ⟨fun n => bif Nat.blt n 192 then w n else z.getD (n - 192) (.dI 0), fnE⟩ nDe 192 61 = apF 61 0 z (nDeF) := by kernel_rfl
set_option maxRecDepth 100000 in
theorem nDfF_eq (w : Nat → Dat) (z : List Dat) : stepK ⟨fun n => bif Nat.blt n 192 then w n else z.getD (n - 192) (.dI 0), fnE⟩ nDf 192 61 = apF 61 0 z (nDfF) := by kernel_rfl
set_option maxRecDepth 100000 in
theorem nDgF_eq (w : Nat → Dat) (z : List Dat) : stepK ⟨fun n => bif Nat.blt n 192 then w n else z.getD (n - 192) (.dI 0), fnE⟩ nDg 192 61 = apF 61 0 z (nDgF) := by kernel_rfl
set_option maxRecDepth 100000 in
theorem nCeF_eq (w : Nat → Dat) (y z : List Dat) : stepK ⟨fun n => bif Nat.blt n 128 then w n else bif Nat.blt n 192 then y.getD (n - 128) (.dI 0) else z.getD (n - 192) (.dI 0), fnE⟩ nCe 128 60 = apF 60 0 y (apF 61 0 z nCeG) := by kernel_rfl
set_option maxRecDepth 100000 in
theorem nBeF_eq (w : Nat → Dat) (x y : List Dat) : stepK ⟨fun n => bif Nat.blt n 64 then w n else bif Nat.blt n 128 then x.getD (n - 64) (.dI 0) else bif Nat.blt n 192 then y.getD (n - 128) (.dI 0) else w n, fnE⟩ nBe 64 60 = apF 60 0 x (apF 60 0 y (nBeG (w 3))) := by kernel_rfl
set_option maxRecDepth 100000 in
theorem nAeF_eq (w : Nat → Dat) (a : List Dat) : stepK ⟨fun n => bif Nat.blt n 4 then w n else bif Nat.blt n 64 then a.getD (n - 4) (.dI 0) else w n, fnE⟩ nAe 4 60 = apF 60 0 a (nAeF (w 0)) := by kernel_rfl
set_option maxRecDepth 100000 in
theorem nEnF_eq (w : Nat → Dat) (a y : List Dat) : boolK ⟨fun n => bif Nat.blt n 4 then w n else bif Nat.blt n 64 then a.getD (n - 4) (.dI 0) else bif Nat.blt n 128 then w n else bif Nat.blt n 192 then y.getD (n - 128) (.dI 0) else w n, fnE⟩ nEn = apF 60 0 a (apF 60 0 y (nEnG (w 0) (w 1) (w 2) (w 3))) := by kernel_rfl
end
end Go.Proofs.Ytlbkficdelepeaa.Ab
