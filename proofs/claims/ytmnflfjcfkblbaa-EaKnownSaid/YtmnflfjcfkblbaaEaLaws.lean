/-
  The laws of layer 2 (ea), called: each returns true and makes at most new blocks.
  Conditions: arguments as the model reads them.
-/
import Derived.Test.YtmnflfjcfkblbaaEaW
namespace Go.Proofs.Ytmnflfjcfkblbaa
set_option linter.unusedSimpArgs false
set_option linter.unusedVariables false
open Go.RowKit

set_option maxHeartbeats 400000 in
theorem ea_works (w : World) : Calls Try.prog 12 #[] w fun e w' => e = .returned (.bool true) ∧ Below w.heap.size w w' := by
  have t1 : tk [11, 65] = (5, 1, 0) := by decide +kernel
  have t2 : tk [4, 0] = (2, 2, 0) := by decide +kernel
  have t3 : tk [0] = (0, 0, 20) := by decide +kernel
  have a1 : adr 0 true = 3 := by decide +kernel
  have a2 : adr 62 false = 249 := by decide +kernel
  have a3 : adr 64 true = 0 := by decide +kernel
  have l1 : ln 5 = [11] := by decide +kernel
  have l2 : ln 127 = [255] := by decide +kernel
  have l3 : ln 128 = [0, 1] := by decide +kernel
  have l4 : ln 32767 = [254, 255] := by decide +kernel
  go_enter Try.func12, Try.ntmps12
  go_wp2_with (first
    | (go_at_call 13; refine (ea_Take _ (by decide) _).mono ?_; rintro e w' ⟨rfl, n, rfl⟩)
    | (go_at_call 19; refine (ea_Address _ _ (by decide) (by decide) _).mono ?_; rintro e w' ⟨rfl, rfl⟩)
    | (go_at_call 15; refine (ea_Length _ _).mono ?_; rintro e w1 ⟨rfl, hb1⟩))
  go_ret
  exact ⟨rfl, by repeat (first | exact Below.refl _ _ | refine bdrew ?_ | refine balloc ?_ | refine bchain (by assumption) ?_)⟩

set_option maxHeartbeats 400000 in
theorem eaAddress_walk (a : Int) (wa : (Lit.int .u8 a).wf = true) (c : Bool) (b : Int) (wb : (Lit.int .u8 b).wf = true) (w : World) :
    Calls Try.prog 4 #[.int .u8 a, .bool c, .int .u8 b] w fun e w' => e = .returned (.bool true) ∧ Below w.heap.size w w' := by
  obtain ⟨a0, a1⟩ := wf8 wa
  obtain ⟨b0, b1⟩ := wf8 wb
  clear wa wb
  generalize hA : adr a c = A
  have HA := Lib.hid hA; clear hA
  obtain ⟨x, y, z, hS⟩ : ∃ x y z, spl b = (x, y, z) := ⟨_, _, _, rfl⟩
  go_enter Try.func4, Try.ntmps4
  go_wp2_with (first
    | (go_at_call 17; refine (ea_Split _ b0 b1 _).mono ?_; rintro e w' ⟨rfl, rfl⟩)
    | (go_at_call 18; refine (eaR_Split _ b0 b1 _).mono ?_; rintro e w' ⟨rfl, rfl⟩)
    | (go_at_call 19; refine (ea_Address _ _ a0 a1 _).mono ?_; rintro e w' ⟨rfl, rfl⟩)
    | (go_at_call 20; refine (eaR_Address _ _ a0 a1 _).mono ?_; rintro e w' ⟨rfl, rfl⟩)
    | (go_at_call 12; refine (ea_works _).mono ?_; rintro e w1 ⟨rfl, hb1⟩))
  go_ret
  exact ⟨rfl, by repeat (first | exact Below.refl _ _ | refine bdrew ?_ | refine balloc ?_ | refine bchain (by assumption) ?_)⟩

set_option maxHeartbeats 400000 in
theorem eaLengths_walk (n : Int) (wn : (Lit.int .i64 n).wf = true) (l : List UInt8) (hl : l.length ≤ maxLen) (w : World) :
    Calls Try.prog 3 #[.int .i64 n, .string (S l)] w fun e w' => e = .returned (.bool true) ∧ Below w.heap.size w w' := by
  obtain ⟨n0, n1⟩ := wf64 wn
  clear wn
  obtain ⟨x, y, z, hS⟩ : ∃ x y z, tk l = (x, y, z) := ⟨_, _, _, rfl⟩
  have hl' := hl
  unfold maxLen at hl'
  by_cases h : 1000 < l.length
  all_goals
    go_enter Try.func3, Try.ntmps3
    go_wp2_with (first
      | (go_at_call 13; refine (ea_Take _ hl _).mono ?_; rintro e w' ⟨rfl, k, rfl⟩)
      | (go_at_call 14; refine (eaR_Take _ hl _).mono ?_; rintro e w' ⟨rfl, k, rfl⟩)
      | (go_at_call 15; refine (ea_Length _ _).mono ?_; rintro e w1 ⟨rfl, hb1⟩)
      | (go_at_call 16; refine (eaR_Length _ _).mono ?_; rintro e w1 ⟨rfl, hb1⟩)
      | (go_at_call 12; refine (ea_works _).mono ?_; rintro e w1 ⟨rfl, hb1⟩))
    go_ret
    exact ⟨rfl, by repeat (first | exact Below.refl _ _ | refine bdrew ?_ | refine balloc ?_ | refine bchain (by assumption) ?_)⟩

end Go.Proofs.Ytmnflfjcfkblbaa
