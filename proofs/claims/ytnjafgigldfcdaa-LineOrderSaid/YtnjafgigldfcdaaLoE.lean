/-
  LineOrder: its loops as states with letters.
  No condition: definitions.
-/
import Derived.Test.YtnjafgigldfcdaaLoD
namespace Go.Proofs.Ytnjafgigldfcdaa.Ab
set_option linter.unusedSimpArgs false
set_option linter.unusedVariables false
open Go
set_option linter.unusedSectionVars false
noncomputable section
/-! ### letters: 0 the calls; 1 2 3 the line's rows, 4 what was sent, 5 what was got; 6 7 the inner loop's place and text; 9 the last loop's place, 10 11 12 its rows, 13 what was got -/
abbrev cellT (r j : Nat) : Tm := .lget (vt 0) (.ci (r : Int)) j
abbrev shC : List Kd := [.ki .i64, .ks, .kb, .ki .i64]
/-- The damages of n calls from r on. -/
def dmgO : Nat → Nat → List (Nat × AObj)
  | 0, _ => []
  | n + 1, r => (1 + r, .seq shD (cellT r 2) false) :: dmgO n (r + 1)
def objsC (k : Nat) : List (Nat × AObj) := (0, .nst shC (vt 0) 2 1 40 4) :: dmgO (40 - k) k
abbrev argC : AV := .sslice 0 4 (.ci 0) (.llen (vt 0))
def HC : Heap := ⟨41, objsC 0, [], []⟩
abbrev fLaw : FuncId := 3
abbrev fFew : FuncId := 4
abbrev fWorks : FuncId := 5
def tabLw : List (Nat × CtrG) := [(fApply, sumG SApply 64 1), (fSend, sumG SSend 80 4), (fWaits, sumG SWaits 96 1), (fWorks, trueC)]
abbrev envTb : Env := ⟨tabGet tabLw, fun _ _ => none⟩
def lineO (r a n : Nat) : List (Nat × AObj) := [(41, rowLn 42 a n), (42, .seq [.ks] (vt r) true)]
/-- few, at the head of round k. -/
def TFw (k : Nat) : St := ⟨29, [(3, .int .i64 (k : Int)), (0, argC)], ⟨41, objsC 0, [], []⟩, []⟩
def FFwE : St := ⟨29, [], ⟨41, objsC 0, [], []⟩, []⟩
def FFwR : St := ⟨29, [(2, .bool false)], ⟨41, objsC 0, [], []⟩, []⟩
def gFwE : LpG := loopN 41 1 (TFw 0) FFwE (fun _ => none) (.exit 0)
def gFwR : LpG := loopN 41 1 (TFw 0) FFwR (fun _ => none) .ret
def rtFwE (k : Nat) : Tree (AX × Option Eqs) := evCode Try.prog (evFun Try.prog none0 1000) (fun _ => none) 1000000 (lpBody Try.prog fFew 0) (TFw k) (outN 41 1 (TFw (k + 1)) FFwE)
def rtFwR (k : Nat) : Tree (AX × Option Eqs) := evCode Try.prog (evFun Try.prog none0 1000) (fun _ => none) 1000000 (lpBody Try.prog fFew 0) (TFw k) (outN 41 1 (TFw (k + 1)) FFwR)
/-- The main loop, at the head of round k. -/
def TMn (k : Nat) : St := ⟨123, [(6, .int .i64 (k : Int)), (5, .sstr (vt 5)), (4, .sstr (vt 4)), (3, .ptr 41 0), (0, argC)], ⟨43, lineO 1 2 3 ++ objsC k, [], []⟩, []⟩
def FMn : St := ⟨123, [(5, .sstr (vt 5)), (4, .sstr (vt 4)), (3, .ptr 41 0)], ⟨43, lineO 1 2 3, [], []⟩, []⟩
def sMn (i : Nat) : Option Tm := [none, some (Tm.cb false), some (.ci 0), some (.ci 0), some (.cs []), some (.cs [])].getD i none
def gMn : LpG := loopN 42 1 (TMn 0) FMn sMn (.exit 0)
/-- The inner loop of round k. -/
def TIn (k : Nat) : St := ⟨123, [(8, iv 6), (7, .sstr (vt 7)), (6, .int .i64 (k : Int)), (5, .sstr (vt 5)), (4, .sstr (vt 4)), (3, .ptr 41 0), (0, argC)], ⟨43, lineO 1 2 3 ++ objsC k, [], []⟩, []⟩
def FIn (k : Nat) : St := ⟨123, [(7, .sstr (.app 72 (tp [cellT k 1, cellT k 2]))), (6, .int .i64 (k : Int)), (5, .sstr (vt 5)), (4, .sstr (vt 4)), (3, .ptr 41 0), (0, argC)], ⟨43, lineO 1 2 3 ++ objsC k, [], []⟩, []⟩
def sIn (k i : Nat) : Option Tm := bif Nat.beq i 6 then some (.ci 0) else bif Nat.beq i 7 then some (cellT k 1) else none
def gInK (k : Nat) : LpG := loopN 43 6 (TIn k) (FIn k) (sIn k) (.exit 2)
/-- Whatever the round. -/
def gIn : LpG := fun st => match lk st.fr 6 with
  | some (.int _ (.ofNat k)) => bif Nat.blt k 40 then (match gInK k st with
    | some (o, x, s) => some (andT (.ib .lss .i64 (.ci (k : Int)) (.llen (vt 0))) o, x, s)
    | none => none) else none
  | _ => none
/-- The last loop. -/
def TEn : St := ⟨123, [(11, iv 9), (5, .sstr (vt 13)), (4, .sstr (vt 4)), (3, .ptr 41 0)], ⟨43, lineO 10 11 12, [], []⟩, []⟩
def FEn : St := ⟨123, [(5, .sstr (vt 13)), (4, .sstr (vt 4)), (3, .ptr 41 0)], ⟨43, lineO 10 11 12, [], []⟩, []⟩
def sEn (i : Nat) : Option Tm := bif Nat.beq i 9 then some (.ci 0) else bif Nat.beq i 10 then some (vt 1) else bif Nat.beq i 11 then some (vt 2) else bif Nat.beq i 12 then some (vt 3) else bif Nat.beq i 13 then some (vt 5) else none
def gEn : LpG := loopN 43 9 TEn FEn sEn (.exit 4)
def envLw (g : LpG) : Env := ⟨tabGet tabLw, fun f => bif Nat.beq f fFew then lf1 4 g else bif Nat.beq f fLaw then lf2 6 gMn 23 gEn else fun _ => none⟩
/-! ### what they do -/
def rtMn (k : Nat) : Tree (AX × Option Eqs) := evCode Try.prog (evFun Try.prog envTb 1000) (lf1 11 gIn) 1000000 (lpBody Try.prog fLaw 0) (TMn k) (outN 42 1 (TMn (k + 1)) FMn)
def rtIn (k : Nat) : Tree (AX × Option Eqs) := evCode Try.prog (evFun Try.prog envTb 1000) (fun _ => none) 1000000 (lpBody Try.prog fLaw 1) (TIn k) (outN 43 6 (TIn k) (FIn k))
def rtEn : Tree (AX × Option Eqs) := evCode Try.prog (evFun Try.prog envTb 1000) (fun _ => none) 1000000 (lpBody Try.prog fLaw 2) TEn (outN 43 9 TEn FEn)
def lawT (g : LpG) : Tree AV := evFun Try.prog (envLw g) 1000 fLaw [argC] HC fun v _ => .leaf v
end
end Go.Proofs.Ytnjafgigldfcdaa.Ab
