/-
  Chapter 24: the judge of the program and of the document, event by event: summaries by their own trees.
  Conditions: as each theorem tells.
-/
import Derived.Test.YtlbkficdelepeaaVt
import Derived.Test.YtlbkficdelepeaaAut
import Derived.Test.YtlbkficdelepeaaSol
namespace Go.Proofs.Ytlbkficdelepeaa.Ab
set_option linter.unusedSimpArgs false
set_option linter.unusedVariables false
open Go
noncomputable section
abbrev u2 (a b : Int) : AV := .agg [.int .u8 a, .int .u8 b]
def TBL : List (AV × AV) := [(u2 5 8, u2 3 5), (u2 5 7, u2 3 5), (u2 5 6, u2 3 5), (u2 5 5, u2 2 3), (u2 5 1, u2 1 2), (u2 1 8, u2 3 1), (u2 1 7, u2 3 1), (u2 1 6, u2 3 1), (u2 1 5, u2 2 3), (u2 1 1, u2 1 2), (u2 4 4, u2 0 5), (u2 4 3, u2 4 4), (u2 4 7, u2 2 4), (u2 4 6, u2 3 4), (u2 4 5, u2 3 4), (u2 4 10, u2 0 1), (u2 4 9, u2 0 1), (u2 3 2, u2 4 4), (u2 3 11, u2 0 1), (u2 3 10, u2 0 1), (u2 3 7, u2 2 1), (u2 3 6, u2 2 3), (u2 3 5, u2 2 3), (u2 2 2, u2 4 4), (u2 2 4, u2 0 5), (u2 2 3, u2 1 2), (u2 2 7, u2 3 1), (u2 2 6, u2 2 2), (u2 2 5, u2 2 2), (u2 2 10, u2 0 1), (u2 2 9, u2 0 3)]
def evA (i : Nat) : AV := .agg [uv i, uv (i+1), bv (i+2), uv (i+3), bv (i+4), uv (i+5), uv (i+6), .sstr (vt (i+7))]
/-- The program's judge: 0 state, 1 listens, 2 tries, 3 most, 4 5 response, 6 7 command, 8 poll; 9 to 16 the event. -/
def SJ : Sum := ⟨2, 17, [.ptr 1 0, evA 9], [(1, .row [.map 0, uv 0, bv 1, iv 2, iv 3, uv 4, bv 5, uv 6, bv 7, bv 8] true false), (0, .map TBL)], 2, bv 17, [(1, .row [.map 0, uv 18, bv 19, iv 20, iv 3, uv 22, bv 23, uv 24, bv 25, bv 26] true false), (0, .map TBL)], List.range 17⟩
/-- The document's: the same letters; 17 to 22 what else its acts hold. -/
def SR : Sum := ⟨2, 23, [.ptr 1 0, evA 9], [(1, .row [.ptr 0 0, uv 4, bv 17, bv 5, uv 18, uv 19, uv 6, bv 20, bv 7, uv 21, uv 22, bv 8] true false), (0, .row [uv 0, bv 1, iv 3, iv 2] true true)], 3, bv 23, [(1, .row [.ptr 2 0, uv 28, bv 33, bv 29, uv 34, uv 35, uv 30, bv 36, bv 31, uv 37, uv 38, bv 32] true false), (2, .row [uv 24, bv 25, iv 27, iv 26] true true)], List.range 23⟩
abbrev fJE : FuncId := 17
abbrev fRE : FuncId := 18
def tJ : Tree (Option Eqs) := SJ.tree Try.prog none0 fJE
def tR : Tree (Option Eqs) := SR.tree Try.prog none0 fRE
set_option maxRecDepth 100000 in
theorem tJ_wf : wfT 17 0 10 tJ = true := by kernel_rfl
set_option maxRecDepth 100000 in
theorem tR_wf : wfT 23 0 16 tR = true := by kernel_rfl
/-- What is known ahead of an event: the state; b: a command is due. -/
def F0 (s : Int) (b : Bool) : Fc := ⟨(0, s) :: bif b then [] else [(6, 0)], bif b then [(7, true)] else [], [], [(vt 0, 1, 5), (vt 3, 0, 255), (vt 9, 0, 255), (vt 12, 0, 255)], [], false⟩
def outB (F : Fc) (es1 es2 : Eqs) (i j : Nat) : Bool := match outE es1 i, outE es2 j with
  | some (.sB, t), some (.sB, u) => sameB F t u
  | _, _ => false
def outI (F : Fc) (es1 es2 : Eqs) (i j : Nat) : Bool := match outE es1 i, outE es2 j with
  | some (.sI, t), some (.sI, u) => sameI F t u
  | _, _ => false
def selfI (F : Fc) (es : Eqs) (i n : Nat) : Bool := match outE es i with
  | some (.sI, t) => sameI F t (vt n)
  | _ => false
/-- The command behind it: none, or with the bit. -/
def cmdOk (F : Fc) (es : Eqs) : Bool := (match outE es 24 with
  | some (.sI, t) => sameI F t (.ci 0)
  | _ => false) || (match outE es 25 with
  | some (.sB, t) => sameB F t (.cb true)
  | _ => false)
def stOk (F : Fc) (es : Eqs) : Bool := match outE es 18 with
  | some (.sI, t) => inZ F t 1 5
  | _ => false
def relE (es1 es2 : Eqs) (F : Fc) : Bool := outB F es1 es2 17 23 && outI F es1 es2 18 24 && outB F es1 es2 19 25 && outI F es1 es2 20 26 && selfI F es2 27 3 && outI F es1 es2 22 28 && outB F es1 es2 23 29 && outI F es1 es2 24 30 && outB F es1 es2 25 31 && outB F es1 es2 26 32 && cmdOk F es1 && stOk F es1
def relR (es1 : Eqs) (o2 : Option Eqs) (F : Fc) : Bool := match o2 with
  | some es2 => relE es1 es2 F
  | none => false
def relJ (o1 : Option Eqs) (F : Fc) : Bool := match o1 with
  | some es1 => chkT (relR es1) tR F
  | none => false
end
end Go.Proofs.Ytlbkficdelepeaa.Ab
