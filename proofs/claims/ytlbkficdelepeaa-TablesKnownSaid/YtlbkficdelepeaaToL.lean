/-
  TablesOther: Accepts as a summary; loops as states with letters.
  Conditions: as each theorem tells.
-/
import Derived.Test.YtlbkficdelepeaaTlL
namespace Go.Proofs.Ytlbkficdelepeaa.Ab
set_option linter.unusedSimpArgs false
set_option linter.unusedVariables false
open Go
set_option linter.unusedSectionVars false
noncomputable section
/-! ### Accepts: 0 the rows, 1 the number, 2 the place, 3 to 11 the judge -/
abbrev argO : AV := .sslice 0 8 (.ci 0) (.llen (vt 0))
abbrev objO : Nat × AObj := (0, .seq shEv (vt 0) false)
def SAc : Sum := ⟨1, 2, [iv 1, argO], [objO], 1, .tuple [iv 2, bv 3], [objO], [1, 0]⟩
def TAc : St := ⟨26, [(13, iv 2), (12, .sint .i64 (.llen (vt 0))), (11, argO), (6, .ptr 2 0), (1, argO)], ⟨3, [(2, rowJ 1 3), (1, .map TBL), objO], [], []⟩, []⟩
def FAcE : St := ⟨26, [(1, argO)], ⟨3, [objO], [], []⟩, []⟩
def FAcR : St := ⟨26, [(4, .sint .i64 (.app 3072 (tp [vt 1, vt 0]))), (5, .bool false)], ⟨3, [objO], [], []⟩, []⟩
def sAc (i : Nat) : Option Tm := bif Nat.ble i 1 then none else bif Nat.ble 12 i then none else bif Nat.beq i 2 then some (.ci 0) else sC 3 i
def gAcE : LpG := loopN 3 2 TAc FAcE sAc (.exit 0)
def gAcR : LpG := loopN 3 2 TAc FAcR sAc .ret
def envAc (g : LpG) : Env := ⟨tabGet tabU, lpOne fAj 3 g⟩
/-! ### TablesOther: 65 which event, 66 which kind; 67 the place, 68 to 76 the judge; 77 the event's place, 78 to 80 the frame -/
abbrev fTo : FuncId := 9
def rowO : AObj := .row [.int .u8 0, bv 78, uv 79, bv 80, .int .u8 0, .int .u8 0, .str []] true false
def objsO : List (Nat × AObj) := [(7, rowO), (4, .seq shEv (vt 42) true), (0, .seq shD (vt 0) false)]
def TOm : St := ⟨191, [(13, iv 67), (12, .ptr 9 0), (11, .ptr 7 0), (10, iv 77), (9, argTr), (0, iv 1)], ⟨10, (9, rowJ 8 68) :: (8, .map TBL) :: objsO, [], []⟩, []⟩
def FOm : St := ⟨191, [(12, .ptr 9 0), (11, .ptr 7 0), (10, iv 77), (9, argTr), (0, iv 1)], ⟨10, (9, rowJ 8 68) :: (8, .map TBL) :: objsO, [], []⟩, []⟩
abbrev nT : Tm := .ib .add .i64 (.llen (vt 42)) (.ci 1)
abbrev iTm : Tm := .ib .rem .i64 (.ib .add .i64 (.ib .rem .i64 (vt 65) nT) nT) nT
abbrev cmdT : Tm := .ib .eql .u8 (.ib .rem .u8 (vt 66) (.ci 2)) (.ci 0)
abbrev kndT : Tm := .ib .add .u8 (.ci 1) (.ib .rem .u8 (vt 66) (.ci 4))
abbrev pfT : Tm := .ib .eql .u8 (.ib .rem .u8 (vt 66) (.ci 3)) (.ci 0)
def sOm (i : Nat) : Option Tm := bif Nat.ble i 66 then none else bif Nat.ble 81 i then none else bif Nat.beq i 67 then some (.ci 0) else bif Nat.beq i 77 then some iTm else
  bif Nat.beq i 78 then some cmdT else bif Nat.beq i 79 then some kndT else bif Nat.beq i 80 then some pfT else sC 68 i
def gOm : LpG := loopN 10 67 TOm FOm sOm (.exit 0)
def lpO (a b c : LpG) : FuncId → LoopF := fun f => bif Nat.beq f fFew then lf1 4 a else bif Nat.beq f fRun then lf1 3 b else bif Nat.beq f fTo then lf1 8 c else fun _ => none
def tabO : List (Nat × CtrG) := (fAj, sumG SAc 3072 2) :: tabU
def envO (a b c : LpG) : Env := ⟨tabGet tabO, lpO a b c⟩
def lawO (a b c : LpG) : Tree AV := evFun Try.prog (envO a b c) 1000 fTo [iv 1, argD, iv 65, uv 66] H0U fun v _ => .leaf v
set_option maxRecDepth 100000 in
theorem keyTo : keyAt Try.prog fTo 8 0 = true := by kernel_rfl
end
end Go.Proofs.Ytlbkficdelepeaa.Ab
