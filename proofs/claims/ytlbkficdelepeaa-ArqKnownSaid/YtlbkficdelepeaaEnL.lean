/-
  ArqEnds: its loops as contracts; the law.
  No condition: definitions.
-/
import Derived.Test.YtlbkficdelepeaaEnM
import Derived.Test.YtlbkficdelepeaaLp1
namespace Go.Proofs.Ytlbkficdelepeaa.Ab
set_option linter.unusedSimpArgs false
set_option linter.unusedVariables false
open Go
noncomputable section
def tupR : Nat → Nat → List Tm
  | 0, _ => []
  | n + 1, b => vt b :: tupR n (b + 1)
abbrev busyA : Tm := tp [vt 5, vt 6, vt 7, vt 8, vt 9, vt 10, vt 11, vt 12, vt 13, vt 14, vt 15, vt 16, vt 17, vt 18, vt 19, vt 20, vt 21, vt 22, vt 23, vt 24, vt 25, vt 26, vt 27, vt 28, .cb false]
abbrev busyB : Tm := tp [vt 29, vt 30, vt 31, vt 32, vt 33, vt 34, vt 35, vt 36, vt 37, vt 38, vt 39, vt 40, vt 41, vt 42, vt 43, vt 44, vt 45, vt 46, vt 47, vt 48, vt 49, vt 50, vt 51, vt 52, .cb false]
def sBe (i : Nat) : Option Tm := bif Nat.beq i 123 then some (.ci 0) else bif Nat.beq i 70 then some (.app 768 busyA) else bif Nat.beq i 72 then some (.app 769 busyA) else bif Nat.beq i 84 then some (.app 770 busyA) else
  bif Nat.beq i 94 then some (.app 768 busyB) else bif Nat.beq i 96 then some (.app 769 busyB) else bif Nat.beq i 108 then some (.app 770 busyB) else blk 64 5 i
def gAe : LpG := loopM 8 4 64 TAe FAe sPr (.exit 0)
def gBe : LpG := loopM 12 64 124 TBe FBe sBe (.exit 2)
def lpEn (a b c : LpG) : FuncId → LoopF := fun f => bif Nat.beq f fEn then lf2 7 a 14 b else bif Nat.beq f fSe then lf1 2 c else fun _ => none
def envEn (a b c : LpG) : Env := ⟨tabGet tabE, lpEn a b c⟩
def lawEn (a b c : LpG) : Tree AV := evFun Try.prog (envEn a b c) 1000 fEn argsPr H0Pr fun v _ => .leaf v
end
end Go.Proofs.Ytlbkficdelepeaa.Ab
