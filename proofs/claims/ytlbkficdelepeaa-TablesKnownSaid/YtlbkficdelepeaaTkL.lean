/-
  TablesKnown: its loops as states with letters; the kernel looks through their rounds.
  No condition.
-/
import Derived.Test.YtlbkficdelepeaaTkM
import Derived.Test.YtlbkficdelepeaaLpx
namespace Go.Proofs.Ytlbkficdelepeaa.Ab
set_option linter.unusedSimpArgs false
set_option linter.unusedVariables false
open Go
set_option linter.unusedSectionVars false
noncomputable section
abbrev u8 (n : Int) : AV := .int .u8 n
def frTk (c : Bool) (k : Int) (p : Bool) : List AV := [u8 0, .bool c, u8 k, .bool p, u8 0, u8 0, .str []]
def evR (n : Int) (c : Bool) (k : Int) (p : Bool) : List AV := u8 n :: frTk c k p
/-- The traces that are begun. -/
def objsK : List (Nat × AObj) := [
  (9, .row [.nilSlice, .slice 2 0 1 (.known 1), .slice 3 0 1 (.known 1), .slice 4 0 3 (.known 3), .slice 5 0 2 (.known 2), .slice 6 0 2 (.known 2), .slice 7 0 3 (.known 3), .slice 8 0 3 (.known 3)] true false),
  (8, .row (evR 1 false 0 false ++ (evR 7 false 2 true ++ evR 7 true 8 true)) true true),
  (7, .row (evR 1 false 0 false ++ (evR 3 false 0 false ++ evR 3 false 0 false)) true true),
  (6, .row (evR 1 false 0 false ++ evR 2 false 0 false) true true),
  (5, .row (evR 4 false 0 false ++ evR 7 true 1 true) true true),
  (4, .row (evR 1 false 0 false ++ (evR 8 true 1 true ++ evR 7 false 2 true)) true true),
  (3, .row (evR 1 false 0 false) true true),
  (2, .row (evR 4 false 0 false) true true),
  (1, .row (frTk false 2 true) true true),
  (0, .row (frTk true 1 true) true true)]
def HKn : Heap := ⟨10, objsK, [], []⟩
def frLk : FR := [(3, .slice 9 0 8 (.known 8)), (2, .ptr 1 0), (1, .ptr 0 0)]
/-- 0 the trace's number, 1 the frame's, 2 the kind's; 3 to 5 the frame. -/
def T4K : St := ⟨166, (4, iv 0) :: frLk, HKn, []⟩
def F4K : St := ⟨166, frLk, HKn, []⟩
def T7K : St := ⟨166, (5, iv 1) :: (4, iv 0) :: frLk, HKn, []⟩
def F7K : St := ⟨166, (4, iv 0) :: frLk, HKn, []⟩
def HKf : Heap := ⟨11, (10, .row [u8 0, bv 3, uv 4, bv 5, u8 0, u8 0, .str []] true true) :: objsK, [], []⟩
def T11K : St := ⟨166, (7, uv 2) :: (6, .ptr 10 0) :: (5, iv 1) :: (4, iv 0) :: frLk, HKf, []⟩
def F11K : St := ⟨166, (6, .ptr 10 0) :: (5, iv 1) :: (4, iv 0) :: frLk, HKf, []⟩
abbrev c3T : Tm := .ib .lss .i64 (vt 1) (.ci 24)
abbrev c4T : Tm := .wrap .u8 (.ib .rem .i64 (vt 1) (.ci 12))
abbrev c5T : Tm := .ib .lss .i64 (.ib .rem .i64 (vt 1) (.ci 24)) (.ci 12)
def s11K (i : Nat) : Option Tm := bif Nat.beq i 2 then some (.ci 0) else bif Nat.beq i 3 then some c3T else bif Nat.beq i 4 then some c4T else bif Nat.beq i 5 then some c5T else none
def s7K (i : Nat) : Option Tm := bif Nat.beq i 1 then some (.ci 0) else bif Nat.beq i 3 then some (.cb true) else bif Nat.beq i 4 then some (.ci 0) else bif Nat.beq i 5 then some (.cb true) else none
def s4K (i : Nat) : Option Tm := bif Nat.beq i 0 then some (.ci 0) else none
def g11K : LpG := loopN 11 2 T11K F11K s11K (.exit 4)
def g7K : LpG := loopN 10 1 T7K F7K s7K (.exit 2)
def g4K : LpG := loopN 10 0 T4K F4K s4K (.exit 0)
def rt11K : Tree (AX × Option Eqs) := evCode Try.prog (evFun Try.prog envK0 1000) (fun _ => none) 1000000 (lpBody Try.prog fTk0 2) T11K (outN 11 2 T11K F11K)
def rt7K : Tree (AX × Option Eqs) := evCode Try.prog (evFun Try.prog envK0 1000) (lf1 11 g11K) 1000000 (lpBody Try.prog fTk0 1) T7K (outN 10 1 T7K F7K)
def rt4K : Tree (AX × Option Eqs) := evCode Try.prog (evFun Try.prog envK0 1000) (lf1 7 (gdL (.ib .lss .i64 (vt 0) (.ci 8)) g7K)) 1000000 (lpBody Try.prog fTk0 0) T4K (outN 10 0 T4K F4K)
def envTkn : Env := ⟨tabGet tabK, lpOne fTk0 4 g4K⟩
def lawTkn : Tree AV := evFun Try.prog envTkn 1000 fTk0 [] heap0 fun v _ => .leaf v
def Fr11 : Fc := ⟨[], [], [], [(vt 0, 0, 7), (vt 1, 0, 48), (vt 2, 0, 9), (vt 4, 0, 255)], [], false⟩
def Fx11 : Fc := ⟨[(2, 10)], [], [], [(vt 0, 0, 7), (vt 1, 0, 48), (vt 4, 0, 255)], [], false⟩
def Fr7 : Fc := ⟨[], [], [], [(vt 0, 0, 7), (vt 1, 0, 47), (vt 4, 0, 255), (.ib .rem .i64 (vt 0) (.ci 4), 0, 3)], [], false⟩
def Fx7 : Fc := ⟨[(1, 48)], [], [], [(vt 0, 0, 7)], [], false⟩
def Fr4 : Fc := ⟨[], [], [], [(vt 0, 0, 7)], [], false⟩
def Fx4 : Fc := ⟨[(0, 8)], [], [], [], [], false⟩
end
end Go.Proofs.Ytlbkficdelepeaa.Ab
