/-
  ArqPair: its loop as a state with letters.
  No condition: definitions.
-/
import Derived.Test.YtlbkficdelepeaaArqW
namespace Go.Proofs.Ytlbkficdelepeaa.Ab
set_option linter.unusedSimpArgs false
set_option linter.unusedVariables false
open Go
noncomputable section
abbrev fPr : FuncId := 4
def shPr : List Kd := [.ki .u8, .kb, .kb]
def shFr : List Kd := [.ki .u8, .kb, .ki .u8, .kb, .ki .u8, .ki .u8, .ks]
def H0Pr : Heap := ⟨1, [(0, .seq shPr (vt 0) false)], [], []⟩
def argPr : AV := .sslice 0 3 (.ci 0) (.llen (vt 0))
def argsPr : List AV := [iv 1, iv 2, iv 3, argPr]
/-- A side whose letters begin at b; w: the object of what waits. -/
def rowAt (b w : Nat) : List AV := [uv b, uv (b+1), uv (b+2), iv (b+3), iv (b+4), iv (b+5), iv (b+6), bv (b+7), bv (b+8), bv (b+9), bv (b+10), bv (b+11), bv (b+12), iv (b+13), iv (b+14), iv (b+15), .sslice w 1 (vt (b+16)) (vt (b+17)), iv (b+19), bv (b+20), bv (b+21), bv (b+22), bv (b+23)]
def HPr : Heap := ⟨12, [(11, .seq shFr (vt 63) true), (10, .seq shFr (vt 60) true), (9, .seq [.ks] (vt 47) true), (8, .seq [.ks] (vt 23) true), (7, .row [.slice 3 0 2 (.known 2), .slice 4 0 2 (.known 2), .slice 5 0 2 (.known 2), .slice 6 0 2 (.known 2), bv 57] true false), (6, .row [iv 55, iv 56] true true), (5, .row [iv 53, iv 54] true true), (4, .row [.sslice 10 7 (vt 58) (vt 59), .sslice 11 7 (vt 61) (vt 62)] true false), (3, .row [.ptr 1 0, .ptr 2 0] true false), (2, .row (rowAt 29 9) true false), (1, .row (rowAt 5 8) true false), (0, .seq shPr (vt 0) false)], [], []⟩
def TPr : St := ⟨80, [(10, iv 4), (9, .ptr 7 0), (0, iv 1), (3, argPr)], HPr, []⟩
def FPr : St := ⟨80, [], ⟨8, [], [], []⟩, []⟩
def sPr (i : Nat) : Option Tm := bif Nat.ble i 3 then none else bif Nat.ble 64 i then none else bif Nat.beq i 18 || Nat.beq i 42 then some (vt 1) else bif Nat.beq i 19 || Nat.beq i 43 then some (vt 2) else bif Nat.beq i 20 || Nat.beq i 44 then some (vt 3) else
  bif Nat.beq i 23 || Nat.beq i 47 || Nat.beq i 60 || Nat.beq i 63 || Nat.beq i 57 then some (.cb false) else
  bif (Nat.ble 12 i && Nat.ble i 17) || (Nat.ble 25 i && Nat.ble i 28) || (Nat.ble 36 i && Nat.ble i 41) || (Nat.ble 49 i && Nat.ble i 52) then some (.cb false) else some (.ci 0)
def gPr : LpG := loopN 8 4 TPr FPr sPr (.exit 0)
/-- What the law calls of a side. -/
def tabA7 : List (Nat × CtrG) := [(30, sumG SHas 512 1), (36, sumG SPush 576 5), (33, sumG SNext 640 15), (37, sumG SHear 704 20), (34, sumG SBusy 768 3), (35, sumG SWant 832 2), (38, sumG STick 896 9)]
theorem tabA7_ok {ρ : Rho} (hf : ρ.fn = fnOf mSid) : TabOK ρ tabA7 := ⟨sum_CG hf (SumOK.all none_all (has_ok tHas_eq)), sum_CG hf (SumOK.all env1_all (push_ok tPush_eq)), sum_CG hf (SumOK.all env1_all (next_ok tNext_eq)), sum_CG hf (SumOK.all env1_all (hear_ok tHear_eq)), sum_CG hf (SumOK.all env1_all (busy_ok tBusy_eq)), sum_CG hf (SumOK.all env1_all (want_ok tWant_eq)), sum_CG hf (SumOK.all env1_all (tick_ok tTick_eq)), trivial⟩
def tabV : List (Nat × CtrG) := (22, trueC) :: (tabA7 ++ tab0)
theorem tabV_ok {ρ : Rho} (hf : ρ.fn = fnOf mSid) : TabOK ρ tabV := ⟨true_CG (@works15 ρ), tab_app (tabA7_ok hf) (tab0_ok hf)⟩
def envV : Env := ⟨tabGet tabV, fun _ _ => none⟩
theorem envV_ok {ρ : Rho} (hf : ρ.fn = fnOf mSid) : @EnvOK ρ Try.prog envV := env_of (tabV_ok hf)
def envPr (g : LpG) : Env := ⟨tabGet tabV, lpOne fPr 7 g⟩
def lawPr (g : LpG) : Tree AV := evFun Try.prog (envPr g) 1000 fPr argsPr H0Pr fun v _ => .leaf v
set_option maxRecDepth 100000 in
theorem keyPr : keyAt Try.prog fPr 7 0 = true := by kernel_rfl
end
end Go.Proofs.Ytlbkficdelepeaa.Ab
