/-
  EaKnown, called: it returns true and makes at most new blocks.
  Conditions: none.
-/
import Derived.Test.YtmnflfjcfkblbaaEaBackW
namespace Go.Proofs.Ytmnflfjcfkblbaa
set_option linter.unusedSimpArgs false
set_option linter.unusedVariables false
open Go.RowKit

set_option maxRecDepth 100000 in
set_option maxHeartbeats 2000000 in
theorem eaKnown_walk (w : World) : Calls Try.prog 6 #[] w fun e w' => e = .returned (.bool true) ∧ Below w.heap.size w w' := by
  have hz : (⟨#[0]⟩ : ByteArray) = S [0] := rfl
  have hz0 : (⟨#[]⟩ : ByteArray) = S [] := rfl
  go_enter Try.func6, Try.ntmps6
  go_wp2
  go_loopw [1] (fun i wr => ∃ k : Nat, k ≤ 256 ∧ i = .int .i64 k ∧ Below w.heap.size w wr) (fun i _ => 256 - (intOf i).toNat)
  case atStart => exact ⟨0, by omega, rfl, Below.refl _ _⟩
  case round =>
    obtain ⟨k, hk, rfl, hbl⟩ := hrel
    by_cases hlt : k < 256
    · go_wp2_with (first
        | (go_at_call 4; refine (eaAddress_walk _ (wf8_mk (by omega) (by omega)) _ _ (wf8_mk (by omega) (by omega)) _).mono ?_; rintro e w1 ⟨rfl, hb1⟩)
        | (go_at_call 3; refine (eaLengths_walk _ (wf64_mk (by omega) (by omega)) _ (by simp [maxLen]) _).mono ?_; rintro e w1 ⟨rfl, hb1⟩)
        | (go_at_call 5; refine (eaBack_walk _ (wf64_mk (by omega) (by omega)) _ (wf8_mk (by omega) (by omega)) _ (by simp [maxLen]) _).mono ?_; rintro e w1 ⟨rfl, hb1⟩))
      go_roundw
      case rel => exact ⟨k + 1, by omega, by go_num, by repeat (first | exact Below.refl _ _ | assumption | refine bdrew ?_ | refine balloc ?_ | refine bchain (by assumption) ?_)⟩
      case measure => simp [intOf]; omega
    · obtain ⟨wo, rfl⟩ : ∃ wo : World, wo = wr := ⟨_, rfl⟩
      go_wp2
      go_loopw [60] (fun i wr2 => ∃ j : Nat, j ≤ 10 ∧ i = .int .i64 j ∧ Below w.heap.size w wr2 ∧ (wo.heap.size < wr2.heap.size) ∧ (∀ j, j < 10 → ∃ x : Int, -9223372036854775808 ≤ x ∧ x ≤ 9223372036854775807 ∧ wr2.cell? ⟨wo.heap.size, j, none⟩ = some (.int .i64 x))) (fun i _ => 10 - (intOf i).toNat)
      case atStart =>
        refine ⟨0, by omega, rfl, hbl.alloc hbl.size _, by simp, fun j hj => ?_⟩
        rw [World.cell?_alloc_at _ _ _ _ rfl]
        match j, hj with
        | 0, _ => exact ⟨_, by decide, by decide, rfl⟩
        | 1, _ => exact ⟨_, by decide, by decide, rfl⟩
        | 2, _ => exact ⟨_, by decide, by decide, rfl⟩
        | 3, _ => exact ⟨_, by decide, by decide, rfl⟩
        | 4, _ => exact ⟨_, by decide, by decide, rfl⟩
        | 5, _ => exact ⟨_, by decide, by decide, rfl⟩
        | 6, _ => exact ⟨_, by decide, by decide, rfl⟩
        | 7, _ => exact ⟨_, by decide, by decide, rfl⟩
        | 8, _ => exact ⟨_, by decide, by decide, rfl⟩
        | 9, _ => exact ⟨_, by decide, by decide, rfl⟩
      case round =>
        obtain ⟨j, hj, rfl, hbl2, hsz, hcells⟩ := hrel
        by_cases hjl : j < 10
        · obtain ⟨x, x0, x1, hc⟩ := hcells j hjl
          have HC := Lib.hid hcells; clear hcells
          have hbl2' := hbl2.size
          go_wp2_with (first
            | (go_at_call 3; refine (eaLengths_walk _ (wf64_mk (by omega) (by omega)) _ (by simp [maxLen]) _).mono ?_; rintro e w1 ⟨rfl, hb1⟩)
            | (go_at_call 5; refine (eaBack_walk _ (wf64_mk (by omega) (by omega)) _ (wf8_mk (by omega) (by omega)) _ (by simp [maxLen]) _).mono ?_; rintro e w2 ⟨rfl, hb2⟩))
          go_roundw
          case rel => exact ⟨j + 1, by omega, by go_num, bchain hb2 (bchain hb1 hbl2), by have := hb1.size; have := hb2.size; omega, fun j hj => by
            obtain ⟨x, x0, x1, hc⟩ := HC.out j hj
            exact ⟨x, x0, x1, by rw [hb2.cell (by have := hb1.size; show wo.heap.size < _; omega), hb1.cell (by show wo.heap.size < _; omega)]; exact hc⟩⟩
          case measure => simp [intOf]; omega
        · go_wp2_with (go_at_call 12; refine (ea_works _).mono ?_; rintro e w1 ⟨rfl, hb1⟩)
          go_ret
          exact ⟨rfl, bchain hb1 hbl2⟩
end Go.Proofs.Ytmnflfjcfkblbaa
