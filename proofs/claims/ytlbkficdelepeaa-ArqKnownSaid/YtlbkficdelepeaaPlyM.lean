/-
  ArqPlays: its loops as states with letters.
  No condition: definitions.
-/
import Derived.Test.YtlbkficdelepeaaArqW
namespace Go.Proofs.Ytlbkficdelepeaa.Ab
set_option linter.unusedSimpArgs false
set_option linter.unusedVariables false
open Go
noncomputable section
abbrev fPly : FuncId := 5
def shC : List Kd := [.ki .u8, .ki .u8, .kb, .ki .u8, .kb, .ki .u8, .ki .u8, .ks]
def H0P : Heap := ⟨1, [(0, .seq shC (vt 0) false)], [], []⟩
def argC : AV := .sslice 0 8 (.ci 0) (.llen (vt 0))
def argsP : List AV := [iv 1, iv 2, iv 3, argC]
/-! ### the lengths -/
def T1P : St := ⟨84, [(9, iv 4), (0, iv 1), (1, iv 2), (2, iv 3), (3, argC)], H0P, []⟩
def F1P : St := ⟨84, [(0, iv 1), (1, iv 2), (2, iv 3), (3, argC)], H0P, []⟩
def F1Q : St := ⟨84, [(8, .bool true)], H0P, []⟩
def s1P (i : Nat) : Option Tm := bif Nat.beq i 4 then some (.ci 0) else none
def g1P : LpG := loopN 1 4 T1P F1P s1P (.exit 0)
def g1Q : LpG := loopN 1 4 T1P F1Q s1P .ret
/-! ### the calls: 5 is the number, 6 to 29 the program's side, 30 to 51 the document's -/
def rowA2 : List AV := [uv 6, uv 7, uv 8, iv 9, iv 10, iv 11, iv 12, bv 13, bv 14, bv 15, bv 16, bv 17, bv 18, iv 19, iv 20, iv 21, .sslice 3 1 (vt 22) (vt 23), iv 25, bv 26, bv 27, bv 28, bv 29]
def rowS2 : List AV := [iv 30, iv 31, iv 32, .sslice 4 1 (vt 33) (vt 34), iv 36, iv 37, iv 38, iv 39, bv 40, bv 41, bv 42, bv 43, bv 44, bv 45, bv 46, bv 47, bv 48, bv 49, iv 50, iv 51]
def H2P : Heap := ⟨5, [(4, .seq [.ks] (vt 35) true), (3, .seq [.ks] (vt 24) true), (2, .row rowS2 true false), (1, .row rowA2 true false), (0, .seq shC (vt 0) false)], [], []⟩
def T2P : St := ⟨84, [(12, iv 5), (11, .ptr 2 0), (10, .ptr 1 0), (3, argC)], H2P, []⟩
def F2P : St := ⟨84, [], ⟨3, [], [], []⟩, []⟩
def s2P (i : Nat) : Option Tm := bif Nat.ble i 4 then none else bif Nat.ble 52 i then none else bif Nat.beq i 19 || Nat.beq i 30 then some (vt 1) else bif Nat.beq i 20 || Nat.beq i 31 then some (vt 2) else bif Nat.beq i 21 || Nat.beq i 32 then some (vt 3) else bif Nat.beq i 24 || Nat.beq i 35 then some (.cb false)
  else bif (Nat.ble 13 i && Nat.ble i 18) || (Nat.ble 26 i && Nat.ble i 29) || (Nat.ble 40 i && Nat.ble i 49) then some (.cb false) else some (.ci 0)
def g2P : LpG := loopN 3 5 T2P F2P s2P (.exit 2)
def lpP (a b : LpG) : FuncId → LoopF := fun f => bif Nat.beq f fPly then lf2 4 a 12 b else fun _ => none
def envP (a b : LpG) : Env := ⟨tabGet tabL, lpP a b⟩
def lawP (a b : LpG) : Tree AV := evFun Try.prog (envP a b) 1000 fPly argsP H0P fun v _ => .leaf v
end
end Go.Proofs.Ytlbkficdelepeaa.Ab
