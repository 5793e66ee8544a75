/-
  TlvKnown: rounds of its first loop.
  No condition.
-/
import Derived.Test.YtoeiagejmibkkaaTlvE
namespace Go.Proofs.Ytoeiagejmibkkaa.Ab
set_option linter.unusedSimpArgs false
set_option linter.unusedVariables false
open Go
noncomputable section
def tlvRound (x : AX) (n : Nat) (m : Int) : Bool := @chkOut (rho1 0) (@Tree.sel _ (rho1 0) (evCode Try.prog (evFun Try.prog envT 1000) (fun _ => none) 100000 (lpBody Try.prog 6 0) ⟨90, [(1, .int .i64 n)], heap0, []⟩ (outK 90 [1]))) x m
def tlvRow (k : Nat) : Bool := (List.range 16).all fun n => tlvRound .normal (16 * k + n) ((16 * k + n + 1 : Nat) : Int)
end
end Go.Proofs.Ytoeiagejmibkkaa.Ab
