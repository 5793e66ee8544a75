/-
  ConsoleTexts: its functions' loops as states with letters; a digit as a contract.
  No condition: definitions.
-/
import Derived.Test.YtnncgjhgmmdilaaGreatDoorVt
import Derived.Test.YtnncgjhgmmdilaaGreatDoorCtP
import Derived.Test.YtnncgjhgmmdilaaGreatDoorProg
namespace Go.Proofs.YtnncgjhgmmdilaaGreatDoor.Ab
set_option linter.unusedSimpArgs false
set_option linter.unusedVariables false
open Go
noncomputable section
abbrev fCB : FuncId := 5
abbrev fRB : FuncId := 8
abbrev fCT : FuncId := 6
abbrev fRT : FuncId := 7
abbrev fDg : FuncId := 13
abbrev fIx : FuncId := 12
def digL : List UInt8 := [48, 49, 50, 51, 52, 53, 54, 55, 56, 57, 97, 98, 99, 100, 101, 102]
/-- A digit's value: letter function 0. -/
def dgG : CtrG
  | [.sint .u8 c], H => some (andT (iopT .leq .u8 (.ci 0) c) (iopT .leq .u8 c (.ci 255)), .sint .i64 (.app 0 c), H)
  | _, _ => none
def ixG : CtrG
  | [.str s, x], H => bif eqL s digL then dgG [x] H else none
  | _, _ => none
def tabCt : List (Nat × CtrG) := [(fDg, dgG), (fIx, ixG)]
def envCt : Env := ⟨tabGet tabCt, fun _ _ => none⟩
def sh8 : List Kd := [.ki .u8]
def row1 (x : Tm) : Tm := .row (.pair x (.cb false))
def nilT : Tm := .lcut (.cb false) (.ci 0) (.ci 0)
def TCB : St := ⟨27, [(8, iv 1), (7, .sint .i64 (.len (vt 0))), (3, .sslice 3 1 (.ci 0) (.llen (vt 2))), (0, .sstr (vt 0))], ⟨4, [(3, .seq sh8 (vt 2) true)], [], []⟩, []⟩
def FCB : St := ⟨27, [(3, .sslice 3 1 (.ci 0) (.llen (vt 2)))], ⟨4, [(3, .seq sh8 (vt 2) true)], [], []⟩, []⟩
def sgCB (i : Nat) : Option Tm := [none, some (.ci 1), some (.lapp (row1 (.ci 61)) (.lapp (row1 (.at (.cs digL) (.ib .shr .u8 (.at (vt 0) (.ci 0)) (.ci 4)))) (row1 (.at (.cs digL) (.ib .and .u8 (.at (vt 0) (.ci 0)) (.ci 15))))))].getD i none
def TRB : St := ⟨35, [(4, iv 1), (3, .sstr (vt 2)), (0, .sstr (vt 0))], ⟨0, [], [], []⟩, []⟩
def FRB : St := ⟨35, [(3, .sstr (vt 2))], ⟨0, [], [], []⟩, []⟩
def sgRB (i : Nat) : Option Tm := [none, some (.ci 0), some (.cs [61])].getD i none
def TCT : St := ⟨58, [(7, iv 1), (6, .sslice 1 1 (.ci 0) (.llen (vt 2))), (4, .sstr (vt 3))], ⟨2, [(1, .seq sh8 (vt 2) true)], [], []⟩, []⟩
def FCT : St := ⟨58, [(6, .sslice 1 1 (.ci 0) (.llen (vt 2)))], ⟨2, [(1, .seq sh8 (vt 2) true)], [], []⟩, []⟩
def FCTr : St := ⟨58, [(3, .bool false), (2, .str [])], ⟨2, [], [], []⟩, []⟩
def sgCT (i : Nat) : Option Tm := [none, some (.ci 0), some nilT, some (.cut (vt 0) (.ci 1) (.len (vt 0)))].getD i none
def TRT : St := ⟨48, [(5, iv 1), (4, .sslice 0 1 (.ci 0) (.llen (vt 2))), (0, .sstr (vt 0))], ⟨1, [(0, .seq sh8 (vt 2) true)], [], []⟩, []⟩
def FRT : St := ⟨48, [(4, .sslice 0 1 (.ci 0) (.llen (vt 2)))], ⟨1, [(0, .seq sh8 (vt 2) true)], [], []⟩, []⟩
def FRTr : St := ⟨48, [(3, .bool false), (2, .str [])], ⟨1, [], [], []⟩, []⟩
def sgRT (i : Nat) : Option Tm := [none, some (.ci 1), some (.cb false)].getD i none
def rndC (f : FuncId) (n0 m : Nat) (T F : St) : Tree (AX × Option Eqs) := evCode Tryz.prog (evFun Tryz.prog envCt 1000) (fun _ => none) 1000000 (lpBody Tryz.prog f 0) T (outN n0 m T F)
def lpC (f key : Nat) (g : St → Option (Tm × AX × St)) : Env := ⟨tabGet tabCt, fun f' => bif Nat.beq f' f then lf1 key g else fun _ => none⟩
def lawC (f : FuncId) (e : Env) : Tree AV := evFun Tryz.prog e 1000 f [.sstr (vt 0)] heap0 fun v _ => .leaf v
def gCB : St → Option (Tm × AX × St) := loopN 3 1 TCB FCB sgCB (.exit 0)
def gRB : St → Option (Tm × AX × St) := loopN 0 1 TRB FRB sgRB (.exit 0)
def gCT : St → Option (Tm × AX × St) := loopN 1 1 TCT FCT sgCT (.exit 0)
def gCTr : St → Option (Tm × AX × St) := loopN 1 1 TCT FCTr sgCT .ret
def gRT : St → Option (Tm × AX × St) := loopN 0 1 TRT FRT sgRT (.exit 0)
def gRTr : St → Option (Tm × AX × St) := loopN 0 1 TRT FRTr sgRT .ret
end
end Go.Proofs.YtnncgjhgmmdilaaGreatDoor.Ab
