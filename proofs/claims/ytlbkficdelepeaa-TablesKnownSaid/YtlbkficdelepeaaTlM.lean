/-
  Chapter 24, a side to which things happen (run): its loop as a state with letters; what is known of what it calls.
  No condition: definitions.
-/
import Derived.Test.YtlbkficdelepeaaArqW
import Derived.Test.YtlbkficdelepeaaTjM
namespace Go.Proofs.Ytlbkficdelepeaa.Ab
set_option linter.unusedSimpArgs false
set_option linter.unusedVariables false
open Go
noncomputable section
abbrev fRun : FuncId := 50
def shD : List Kd := [.ki .i64, .ki .u8, .kb, .ki .u8, .kb, .ki .u8, .ki .u8, .ks]
def shEv : List Kd := [.ki .u8, .ki .u8, .kb, .ki .u8, .kb, .ki .u8, .ki .u8, .ks]
def argD : AV := .sslice 0 8 (.ci 0) (.llen (vt 0))
/-- 4 to 7 the link, 8 to 31 the numbered side, 32 to 36 the response, 37 to 41 the command, 42 the trace. -/
def rowAq (b w : Nat) : AObj := .row [uv b, uv (b+1), uv (b+2), iv (b+3), iv (b+4), iv (b+5), iv (b+6), bv (b+7), bv (b+8), bv (b+9), bv (b+10), bv (b+11), bv (b+12), iv (b+13), iv (b+14), iv (b+15), .sslice w 1 (vt (b+16)) (vt (b+17)), iv (b+19), bv (b+20), bv (b+21), bv (b+22), bv (b+23)] true false
def rowLk : AObj := .row [uv 4, bv 5, iv 6, iv 7] true true
def rowSd (a t : Nat) : AObj := .row [.ptr 1 0, .ptr a 0, uv 32, bv 33, bv 34, uv 35, uv 36, uv 37, bv 38, bv 39, uv 40, uv 41, .sslice t 8 (.ci 0) (.llen (vt 42))] true false
def HRun : Heap := ⟨7, [(6, .seq [.ks] (vt 26) true), (5, rowAq 8 6), (4, .seq shEv (vt 42) true), (3, rowSd 5 4), (1, rowLk), (0, .seq shD (vt 0) false)], [], []⟩
def TRun : St := ⟨42, [(6, iv 3), (5, .ptr 3 0), (1, argD)], HRun, []⟩
def FRun : St := ⟨42, [(5, .ptr 3 0)], HRun, []⟩
def tabR : List (Nat × CtrG) := [(36, sumG SPush 576 5), (33, sumG SNext 640 15), (37, sumG SHear 704 20), (38, sumG STick 896 9)]
def envR : Env := ⟨tabGet tabR, fun _ _ => none⟩
def rtRun : Tree (AX × Option Eqs) := evCode Try.prog (evFun Try.prog envR 1000) (fun _ => none) 1000000 (lpBody Try.prog fRun 0) TRun (outN 4 3 TRun FRun)
end
end Go.Proofs.Ytlbkficdelepeaa.Ab
