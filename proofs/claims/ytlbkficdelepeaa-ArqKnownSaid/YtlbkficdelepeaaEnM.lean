/-
  ArqEnds: what its helpers do, as summaries by their own trees; its loops as states with letters.
  No condition: definitions.
-/
import Derived.Test.YtlbkficdelepeaaPrM
import Derived.Test.YtlbkficdelepeaaAut
import Derived.Test.YtlbkficdelepeaaLpm
namespace Go.Proofs.Ytlbkficdelepeaa.Ab
set_option linter.unusedSimpArgs false
set_option linter.unusedVariables false
open Go
noncomputable section
abbrev fEn : FuncId := 32
abbrev fSe : FuncId := 80
abbrev fSd : FuncId := 66
abbrev fHd : FuncId := 67
/-- A side's cells: letters by their offset. -/
def rowM (μ : Nat → Nat) (w : Nat) : List AV := [uv (μ 0), uv (μ 1), uv (μ 2), iv (μ 3), iv (μ 4), iv (μ 5), iv (μ 6), bv (μ 7), bv (μ 8), bv (μ 9), bv (μ 10), bv (μ 11), bv (μ 12), iv (μ 13), iv (μ 14), iv (μ 15), .sslice w 1 (vt (μ 16)) (vt (μ 17)), iv (μ 19), bv (μ 20), bv (μ 21), bv (μ 22), bv (μ 23)]
/-- A pair: 0 to 23 a side, 24 to 47 the other one, 48 49 pushed, 50 51 took, 52 bad, 53 to 55 and 56 to 58 the lines. r: the numbers of what waits, and of the lines. -/
def objsM (μ : Nat → Nat) (r0 r1 r2 r3 : Nat) : List (Nat × AObj) := [(r3, .seq shFr (vt (μ 58)) true), (r2, .seq shFr (vt (μ 55)) true), (r1, .seq [.ks] (vt (μ 42)) true), (r0, .seq [.ks] (vt (μ 18)) true), (7, .row [.slice 3 0 2 (.known 2), .slice 4 0 2 (.known 2), .slice 5 0 2 (.known 2), .slice 6 0 2 (.known 2), bv (μ 52)] true false), (6, .row [iv (μ 50), iv (μ 51)] true true), (5, .row [iv (μ 48), iv (μ 49)] true true), (4, .row [.sslice r2 7 (vt (μ 53)) (vt (μ 54)), .sslice r3 7 (vt (μ 56)) (vt (μ 57))] true false), (3, .row [.ptr 1 0, .ptr 2 0] true false), (2, .row (rowM (fun j => μ (j + 24)) r1) true false), (1, .row (rowM μ r0) true false)]
def objsP (b r : Nat) : List (Nat × AObj) := objsM (fun j => j + b) r (r + 1) (r + 2) (r + 3)
def HP (b r : Nat) : Heap := ⟨r+4, objsP b r, [], []⟩
/-! ### send, hand -/
def at_ : List (Nat × Nat) → Nat → Nat
  | [], j => j
  | p :: l, j => bif Nat.beq p.1 j then p.2 else at_ l j
def mSd (i : Nat) : Nat → Nat := at_ [(24*i+4, 60), (24*i+6, 61), (24*i+19, 62), (24*i+20, 63), (24*i+21, 64), (24*i+22, 65), (24*i+23, 66), (3*i+53, 67), (3*i+54, 68), (3*i+55, 69)]
def mHd (i : Nat) : Nat → Nat := let o := 24 * (1 - i); at_ [(o, 60), (o+2, 61), (o+4, 62), (o+5, 63), (o+6, 64), (o+7, 65), (o+9, 66), (o+10, 67), (o+12, 68), (o+16, 69), (o+17, 70), (o+19, 71), (o+20, 72), (o+21, 73), (o+22, 74), (o+23, 75), (50 + i, 76), (52, 77), (3*i+53, 78), (3*i+54, 79)]
def SSd (i : Nat) : Sum := ⟨12, 59, [.ptr 7 0, .int .i64 (i : Int)], objsP 0 8, 13, .sbool (vt 59), bif Nat.beq i 0 then objsM (mSd i) 8 9 12 11 else objsM (mSd i) 8 9 10 12, List.range 59⟩
def SHd (i : Nat) : Sum := ⟨12, 59, [.ptr 7 0, .int .i64 (i : Int), .bool false], objsP 0 8, 12, .sbool (vt 59), objsM (mHd i) 8 9 10 11, List.range 59⟩
/-- A frame that is lost. -/
def mHl (i : Nat) : Nat → Nat := at_ [(3*i+53, 60), (3*i+54, 61)]
def SHl (i : Nat) : Sum := ⟨12, 59, [.ptr 7 0, .int .i64 (i : Int), .bool true], objsP 0 8, 12, .sbool (vt 59), objsM (mHl i) 8 9 10 11, List.range 59⟩
abbrev fRg : FuncId := 68
def SRg : Sum := ⟨12, 59, [.ptr 7 0], objsP 0 8, 12, .sbool (vt 59), objsP 0 8, List.range 59⟩
def orC (a b : CtrG) : CtrG := fun args H => match a args H with
  | some r => some r
  | none => b args H
def tabE : List (Nat × CtrG) := (fSd, orC (sumG (SSd 0) 3200 11) (sumG (SSd 1) 3264 11)) :: (fHd, orC (orC (sumG (SHd 0) 3328 21) (sumG (SHd 1) 3392 21)) (orC (sumG (SHl 0) 3520 3) (sumG (SHl 1) 3584 3))) :: (fRg, sumG SRg 3456 1) :: tabV
def envE : Env := ⟨tabGet tabE, fun _ _ => none⟩
/-! ### its loops: 0 to 3 the arguments, 4 the step, the pair from 5, from 64 (123 the tick), from 128 (187 the time), from 192 (252 whether there was some) -/
def TAe : St := ⟨176, [(10, iv 4), (9, .ptr 7 0), (2, iv 3), (3, argPr)], ⟨12, objsP 5 8 ++ [(0, .seq shPr (vt 0) false)], [], []⟩, []⟩
def FAe : St := ⟨176, [(9, .ptr 7 0), (2, iv 3)], HP 5 8, []⟩
def TBe : St := ⟨176, [(11, iv 123), (9, .ptr 7 0), (2, iv 3)], HP 64 12, []⟩
def FBe : St := ⟨176, [(9, .ptr 7 0)], HP 64 12, []⟩
def TCe : St := ⟨31, [(3, iv 187), (0, .ptr 7 0)], HP 128 16, []⟩
def FCe : St := ⟨31, [(2, .bool true)], HP 128 16, []⟩
def TDe (i : Nat) : St := ⟨31, [(5, .int .i64 (i : Int)), (4, bv 252), (3, iv 187), (0, .ptr 7 0)], HP 192 20, []⟩
def FDe : St := ⟨31, [(4, bv 252), (3, iv 187), (0, .ptr 7 0)], HP 192 20, []⟩
/-- Block t from block f. -/
def blk (t f i : Nat) : Option Tm := bif Nat.ble t i && Nat.blt i (t + 59) then some (vt (i - t + f)) else none
def sCe (i : Nat) : Option Tm := bif Nat.beq i 187 then some (.ci 0) else blk 128 64 i
def sDe (i : Nat) : Option Tm := bif Nat.beq i 251 then some (.ci 0) else bif Nat.beq i 252 then some (.cb false) else blk 192 128 i
def gCe : LpG := loopM 16 128 188 TCe FCe sCe .ret
def gDe : LpG := loopM 20 192 253 (TDe 0) FDe sDe (.exit 2)
def rAe : Tree (AX × Option Eqs) := evCode Try.prog (evFun Try.prog envE 1000) (fun _ => none) 1000000 (lpBody Try.prog fEn 0) TAe (outN 8 4 TAe FAe)
def rDe (i : Nat) : Tree (AX × Option Eqs) := evCode Try.prog (evFun Try.prog envE 1000) (fun _ => none) 1000000 (lpBody Try.prog fSe 1) (TDe i) (outN 20 192 (TDe (i + 1)) FDe)
def rCe : Tree (AX × Option Eqs) := evCode Try.prog (evFun Try.prog envE 1000) (lf1 6 gDe) 1000000 (lpBody Try.prog fSe 0) TCe (outN 16 128 TCe FCe)
def envBe : Env := ⟨tabGet tabE, lpOne fSe 2 gCe⟩
def rBe : Tree (AX × Option Eqs) := evCode Try.prog (evFun Try.prog envBe 1000) (fun _ => none) 1000000 (lpBody Try.prog fEn 1) TBe (outN 12 64 TBe FBe)
end
end Go.Proofs.Ytlbkficdelepeaa.Ab
