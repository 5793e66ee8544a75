/-
  TablesOther: what is refused: a frame that is not due; one that is said once more; one with another bit. Looked through by the kernel.
  Conditions: as each theorem tells.
-/
import Derived.Test.YtlbkficdelepeaaTlK
namespace Go.Proofs.Ytlbkficdelepeaa.Ab
set_option linter.unusedSimpArgs false
set_option linter.unusedVariables false
open Go
set_option linter.unusedSectionVars false
noncomputable section
/-- An answer that is false. -/
def ansF (o : Option Eqs) (F : Fc) : Bool := match o with
  | some es => match outE es 17 with
    | some (.sB, t) => sameB F t (.cb false)
    | _ => false
  | none => false
def ansT (es : Eqs) : Tm := match outE es 17 with
  | some (_, t) => t
  | none => .cb false
/-- A frame that is said, of kind k. -/
def oddT : List Tm := [vt 0, vt 1, vt 2, vt 3, vt 4, vt 5, vt 6, vt 7, vt 8, .ci 8, .ci 0, vt 11, vt 12, vt 13, .ci 0, .ci 0, .cs []]
def F1O (k : Int) : Fc := ⟨[(12, k)], [], [], [(vt 0, 1, 5)], [(vt 4, k), (vt 6, k)], false⟩
/-- Its outputs are there, with their sorts. -/
def outsOk (es : Eqs) : Bool := (match outE es 17 with
  | some (.sB, _) => true
  | _ => false) && (match outE es 18 with
  | some (.sI, _) => true
  | _ => false) && (match outE es 19 with
  | some (.sB, _) => true
  | _ => false) && (match outE es 20 with
  | some (.sI, _) => true
  | _ => false) && (match outE es 22 with
  | some (.sI, _) => true
  | _ => false) && (match outE es 23 with
  | some (.sB, _) => true
  | _ => false) && (match outE es 24 with
  | some (.sI, _) => true
  | _ => false) && (match outE es 25 with
  | some (.sB, _) => true
  | _ => false) && (match outE es 26 with
  | some (.sB, _) => true
  | _ => false)
def F2O (k : Int) (b : Bool) : Fc := ⟨[(9, 8), (12, k)], [(13, b)], [], [(vt 0, 1, 5)], [], false⟩
/-- Behind a frame that was said its place is free. -/
def clrP (k : Int) (o : Option Eqs) (F : Fc) : Bool := match o with
  | some es => outsOk es && (lrnL (ansT es) true F).all fun F' => match outE es (bif eqZ k 2 || eqZ k 3 then 22 else 24) with
    | some (.sI, t) => sameI F' t (.ci 0)
    | _ => false
  | none => false
/-- Its place is free. -/
def F3O (k : Int) : Fc := ⟨[(9, 8), (12, k), (bif eqZ k 2 || eqZ k 3 then 4 else 6, 0)], [], [], [(vt 0, 1, 5)], [], false⟩
/-- The other bit. -/
def bitT : List Tm := [vt 0, vt 1, vt 2, vt 3, vt 4, vt 5, vt 6, vt 7, vt 8, vt 9, vt 10, vt 11, vt 12, .not (vt 13)]
def turnP (o : Option Eqs) (F : Fc) : Bool := match o with
  | some es => outsOk es && (lrnL (ansT es) true F).all fun F' => chkT ansF (subT (nthT bitT) tJ) F'
  | none => false
end
set_option maxRecDepth 100000 in
theorem odd_chk : [1, 2, 3, 4].all (fun k => chkT ansF (subT (nthT oddT) tJ) (F1O k)) = true := by kernel_rfl
set_option maxRecDepth 100000 in
theorem clr_chk : [0, 1, 2, 3, 4].all (fun k => chkT (clrP k) tJ (F2O k true) && chkT (clrP k) tJ (F2O k false)) = true := by kernel_rfl
set_option maxRecDepth 100000 in
theorem free_chk : [1, 2, 3, 4].all (fun k => chkT ansF tJ (F3O k)) = true := by kernel_rfl
set_option maxRecDepth 100000 in
theorem zero_chk : chkT ansF tJ ⟨[(9, 8), (12, 0)], [], [], [(vt 0, 1, 5)], [], false⟩ = true := by kernel_rfl
set_option maxRecDepth 100000 in
theorem turn_chk : [0, 1, 2, 3, 4].all (fun k => chkT turnP tJ (F2O k true) && chkT turnP tJ (F2O k false)) = true := by kernel_rfl
end Go.Proofs.Ytlbkficdelepeaa.Ab
