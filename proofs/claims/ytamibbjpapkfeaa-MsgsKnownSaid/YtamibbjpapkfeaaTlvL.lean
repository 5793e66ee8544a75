/-
  The functions of layer 7 (tlv) called; what is put is got as it was, and the other way round.
  Conditions: a number of an octet lies from 0 to 255; texts are not longer than a thousand bytes.
-/
import Derived.Test.YtamibbjpapkfeaaTlvD
namespace Go.Proofs.Ytamibbjpapkfeaa.Ab
set_option linter.unusedSimpArgs false
set_option linter.unusedVariables false
open Go
theorem tlv_Put (k : Int) (c : Bool) (v : List UInt8) (k0 : 0 ≤ k) (k1 : k ≤ 255) (hl : v.length ≤ 9223372036854775807) (w : World) :
    Calls Try.prog 8 #[.int .u8 k, .bool c, .string ⟨v.toArray⟩] w fun e w' => e = .returned (putV k c v) ∧ RowKit.Below w.heap.size w w' := by
  letI ρ : Rho := rhoT k c v
  obtain ⟨u, h1, h2⟩ := put_sel k c v k0 k1 hl
  exact call_val (cf := evFun Try.prog envT 1000) (evFun_ok noCount envT_ok 1000) (args := [.sint .u8 (.var 0), .sbool (.var 1), .sstr (.var 2)]) (v := u) (by have := putTree_eq; unfold leafT at this; rw [this]; exact h1) h2 (cargs := [.int .u8 k, .bool c, .string ⟨v.toArray⟩]) ⟨_, _, rfl, ⟨_, _, rfl, ⟨_, _, rfl, rfl, rfl⟩, rfl⟩, rfl⟩ w
theorem tlv_RPut (k : Int) (c : Bool) (v : List UInt8) (k0 : 0 ≤ k) (k1 : k ≤ 255) (hl : v.length ≤ 9223372036854775807) (w : World) :
    Calls Try.prog 49 #[.int .u8 k, .bool c, .string ⟨v.toArray⟩] w fun e w' => e = .returned (putV k c v) ∧ RowKit.Below w.heap.size w w' := by
  letI ρ : Rho := rhoT k c v
  obtain ⟨u, h1, h2⟩ := rput_sel k c v k0 k1 hl
  exact call_val (cf := evFun Try.prog envT 1000) (evFun_ok noCount envT_ok 1000) (args := [.sint .u8 (.var 0), .sbool (.var 1), .sstr (.var 2)]) (v := u) (by have := rputTree_eq; unfold leafT at this; rw [this]; exact h1) h2 (cargs := [.int .u8 k, .bool c, .string ⟨v.toArray⟩]) ⟨_, _, rfl, ⟨_, _, rfl, ⟨_, _, rfl, rfl, rfl⟩, rfl⟩, rfl⟩ w
theorem tlv_Get (s : List UInt8) (hl : s.length ≤ 140737488355328) (w : World) :
    Calls Try.prog 20 #[.string ⟨s.toArray⟩] w fun e w' => e = .returned (getV s) ∧ RowKit.Below w.heap.size w w' := by
  letI ρ : Rho := rhoT 0 false s
  obtain ⟨u, h1, h2⟩ := get_sel s hl
  exact call_val (cf := evFun Try.prog envT 1000) (evFun_ok noCount envT_ok 1000) (args := [.sstr (.var 2)]) (v := u) (by have := getTree_eq; unfold leafT at this; rw [this]; exact h1) h2 (cargs := [.string ⟨s.toArray⟩]) ⟨_, _, rfl, rfl, rfl⟩ w
/-! ### what is put is got -/
theorem c8_nat (n : Int) (h0 : 0 ≤ n) (h1 : n ≤ 255) : (c8 n).toNat = n.toNat := by
  show (UInt8.ofNat n.toNat).toNat = n.toNat
  simp; omega
theorem tget_tput (k : Int) (c : Bool) (v b : List UInt8) (k0 : 0 ≤ k) (h : (tput k c v).2 = 0) : tget ((tput k c v).1 ++ b) = ⟨k, c, v, ((tput k c v).1.length : Nat), 0⟩ := by
  unfold tput at h ⊢
  by_cases h1 : 63 < k
  · rw [if_pos h1] at h; cases h
  rw [if_neg h1] at h ⊢
  by_cases h2 : 127 < v.length
  · rw [if_pos h2] at h; cases h
  rw [if_neg h2]
  show tget (c8 _ :: c8 _ :: (v ++ b)) = _
  have e2 : (c8 (2 * (v.length : Int) + 1)).toNat = 2 * v.length + 1 := by rw [c8_nat _ (by omega) (by omega)]; omega
  have e1 : (c8 (4 * k + 1 + (if c then 2 else 0))).toNat = 4 * k.toNat + 1 + (if c then 2 else 0) := by
    rw [c8_nat _ (by split <;> omega) (by split <;> omega)]; split <;> omega
  have q1 : ¬ (c8 (4 * k + 1 + (if c then 2 else 0))).toNat % 2 = 0 := by rw [e1]; split <;> omega
  simp only [tget, if_neg q1, e2]
  rw [if_pos (by omega), if_neg (by simp; omega), e1]
  have q2 : (2 * v.length + 1) / 2 = v.length := by omega
  rw [q2]
  congr 1
  · cases c <;> simp <;> omega
  · cases c
    · simp; omega
    · simp; omega
  · simp
  · simp; omega
theorem tput_tget (s : List UInt8) : (tget s = noGot 20 ∨ tget s = noGot 70) ∨ ((tget s).e = 0 ∧ 0 ≤ (tget s).k ∧ (tget s).k ≤ 63 ∧ (tget s).v.length ≤ 127 ∧ 2 ≤ (tget s).n ∧ (tget s).n ≤ (s.length : Int) ∧ tput (tget s).k (tget s).c (tget s).v = (s.take (tget s).n.toNat, 0)) := by
  match s with
  | [] => exact .inl (.inl rfl)
  | x :: r =>
  by_cases hx : x.toNat % 2 = 0
  · exact .inl (.inr (by simp only [tget, if_pos hx]))
  match r with
  | [] => exact .inl (.inl (by simp only [tget, if_neg hx]))
  | y :: r =>
  by_cases hy : y.toNat % 2 = 1
  · by_cases hs : r.length < y.toNat / 2
    · exact .inl (.inl (by simp only [tget, if_neg hx, if_pos hy, if_pos hs]))
    · right
      have ht : tget (x :: y :: r) = ⟨(x.toNat / 4 : Nat), x.toNat / 2 % 2 == 1, r.take (y.toNat / 2), (2 + y.toNat / 2 : Nat), 0⟩ := by simp only [tget, if_neg hx, if_pos hy, if_neg hs]
      rw [ht]
      have hx' := x.toNat_lt
      have hy' := y.toNat_lt
      have hl : (r.take (y.toNat / 2)).length = y.toNat / 2 := by rw [List.length_take]; omega
      refine ⟨rfl, by simp only; omega, by simp only; omega, by simp only; omega, by simp only; omega, by simp; omega, ?_⟩
      unfold tput
      rw [if_neg (by simp only; omega), if_neg (by simp only; omega)]
      simp only
      rw [hl]
      have ex : c8 (4 * ((x.toNat / 4 : Nat) : Int) + 1 + (if (x.toNat / 2 % 2 == 1) = true then 2 else 0)) = x := by
        have : (4 * ((x.toNat / 4 : Nat) : Int) + 1 + (if (x.toNat / 2 % 2 == 1) = true then 2 else 0)) = (x.toNat : Int) := by
          by_cases hb : x.toNat / 2 % 2 = 1
          · rw [if_pos (by simpa using hb)]; omega
          · rw [if_neg (by simpa using hb)]; omega
        rw [this]; simp [c8]
      have ey : c8 (2 * ((y.toNat / 2 : Nat) : Int) + 1) = y := by
        rw [show 2 * ((y.toNat / 2 : Nat) : Int) + 1 = (y.toNat : Int) by omega]; simp [c8]
      rw [ex, ey]
      congr 1
      rw [show (((2 + y.toNat / 2 : Nat) : Int)).toNat = y.toNat / 2 + 1 + 1 by omega]
      rfl
  · match r with
    | [] => exact .inl (.inl (by simp only [tget, if_neg hx, if_neg hy]))
    | _ :: _ => exact .inl (.inr (by simp only [tget, if_neg hx, if_neg hy]))
theorem tput_len (k : Int) (c : Bool) (v : List UInt8) : (tput k c v).1.length ≤ 129 := by
  unfold tput
  split
  · simp
  · split
    · simp
    · simp; omega
end Go.Proofs.Ytamibbjpapkfeaa.Ab
