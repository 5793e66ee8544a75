/-
  EaBack, called: it returns true and makes at most new blocks.
  Conditions: arguments as the model reads them.
-/
import Derived.Test.YtmnflfjcfkblbaaEaLaws
import Derived.Test.YtmnflfjcfkblbaaRegion
namespace Go.Proofs.Ytmnflfjcfkblbaa
set_option linter.unusedSimpArgs false
set_option linter.unusedVariables false
open Go.RowKit

/-! ### What is written is taken; what is taken is written. -/
theorem b8_nat {x : Int} (h0 : 0 ≤ x) (h1 : x ≤ 255) : ((b8 x).toNat : Int) = x := b8_toNat h0 h1
theorem tk_ln (n : Int) (h0 : 0 ≤ n) (h1 : n ≤ 32767) (l : List UInt8) : tk (ln n ++ l) = (n, ((ln n).length : Int), 0) := by
  by_cases h : n < 128
  · have hv : ln n = [b8 (2 * n + 1)] := by simp [ln, h]; omega
    have e := b8_nat (x := 2 * n + 1) (by omega) (by omega)
    rw [hv]
    cases l with
    | nil =>
      simp only [List.append_nil, tk, e]
      rw [if_pos (by simp)]
      simp; omega
    | cons x r =>
      simp only [List.cons_append, List.nil_append, tk, e]
      rw [if_pos (by simp)]
      simp; omega
  · have hv : ln n = [b8 (2 * (n % 128)), b8 (n / 128)] := by simp [ln, h]; omega
    have e := b8_nat (x := 2 * (n % 128)) (by omega) (by omega)
    have e2 := b8_nat (x := n / 128) (by omega) (by omega)
    rw [hv]
    simp only [List.cons_append, List.nil_append, tk, e, e2]
    rw [if_neg (by simp)]
    simp; omega
theorem ln_len (n : Int) (h0 : 0 ≤ n) (h1 : n ≤ 32767) : ((ln n).length = 1 ∧ n < 128) ∨ ((ln n).length = 2 ∧ 128 ≤ n) := by
  by_cases h : n < 128
  · have hv : ln n = [b8 (2 * n + 1)] := by simp [ln, h]; omega
    rw [hv]; exact .inl ⟨rfl, h⟩
  · have hv : ln n = [b8 (2 * (n % 128)), b8 (n / 128)] := by simp [ln, h]; omega
    rw [hv]; exact .inr ⟨rfl, by omega⟩
theorem ln_odd (x : UInt8) (h : ((x.toNat : Int) % 2 == 1) = true) : ln ((x.toNat : Int) / 2) = [x] := by
  have hx := x.toNat_lt
  have h' : (x.toNat : Int) % 2 = 1 := by simpa using h
  have e : 2 * ((x.toNat : Int) / 2) + 1 = (x.toNat : Int) := by omega
  rw [ln, if_neg (by omega), if_pos (by omega), e, b8_of]
theorem ln_even (x y : UInt8) (h : ((x.toNat : Int) % 2 == 1) = false) (hm : ¬ ((x.toNat : Int) / 2 + 128 * (y.toNat : Int)) < 128) : ln ((x.toNat : Int) / 2 + 128 * (y.toNat : Int)) = [x, y] := by
  have hx := x.toNat_lt
  have hy := y.toNat_lt
  have h' : ¬ (x.toNat : Int) % 2 = 1 := by simpa using h
  have e : 2 * (((x.toNat : Int) / 2 + 128 * (y.toNat : Int)) % 128) = (x.toNat : Int) := by omega
  have e2 : ((x.toNat : Int) / 2 + 128 * (y.toNat : Int)) / 128 = (y.toNat : Int) := by omega
  rw [ln, if_neg (by omega), if_neg hm, e, e2, b8_of, b8_of]
theorem spl_odd (a : Int) (h0 : 0 ≤ a) (h1 : a ≤ 255) (h : a % 2 = 1) : spl a = (a / 4, a / 2 % 2 == 1, true) ∧ adr (a / 4) (a / 2 % 2 == 1) = a := by
  refine ⟨by simp [spl]; omega, ?_⟩
  by_cases hc : a / 2 % 2 = 1
  · simp [adr, hc]; omega
  · have : (a / 2 % 2 == 1) = false := by simp [hc]
    rw [this]; simp [adr]; omega

/-- The cases of a string's beginning: what Take says, and what Length writes again. -/
def Tail (l : List UInt8) : Prop :=
  (tk l = (0, 0, 20)) ∨ (∃ m, (1 : Int) ≤ (l.length : Int) ∧ tk l = (m, 1, 0) ∧ ln m = l.take 1) ∨ (∃ m, (2 : Int) ≤ (l.length : Int) ∧ tk l = (m, 2, 0) ∧ m < 128) ∨ (∃ m, (2 : Int) ≤ (l.length : Int) ∧ tk l = (m, 2, 0) ∧ 128 ≤ m ∧ ln m = l.take 2)
theorem tail_all (l : List UInt8) : Tail l := by
  match l with
  | [] => exact .inl rfl
  | [x] =>
    rcases hb : ((x.toNat : Int) % 2 == 1) with _ | _
    · exact .inl (by simp only [tk, hb]; rfl)
    · exact .inr (.inl ⟨_, by simp; try omega, by simp only [tk, hb]; rfl, ln_odd x hb⟩)
  | x :: y :: r =>
    rcases hb : ((x.toNat : Int) % 2 == 1) with _ | _
    · by_cases hm : ((x.toNat : Int) / 2 + 128 * (y.toNat : Int)) < 128
      · exact .inr (.inr (.inl ⟨_, by simp; try omega, by simp only [tk, hb]; rfl, hm⟩))
      · exact .inr (.inr (.inr ⟨_, by simp; try omega, by simp only [tk, hb]; rfl, by omega, by rw [ln_even x y hb hm]; rfl⟩))
    · exact .inr (.inl ⟨_, by simp; try omega, by simp only [tk, hb]; rfl, by rw [ln_odd x hb]; rfl⟩)

theorem ea_Split' (a d : Int) (c k : Bool) (hs : spl a = (d, c, k)) (h0 : 0 ≤ a) (h1 : a ≤ 255) (w : World) :
    Calls Try.prog 17 #[.int .u8 a] w fun e w' => e = .returned (.tuple #[.int .u8 d, .bool c, .bool k]) ∧ w = w' := by
  have := ea_Split a h0 h1 w
  rw [hs] at this; exact this
theorem ea_Take' (l : List UInt8) (m z e : Int) (ht : tk l = (m, z, e)) (hl : l.length ≤ maxLen) (w : World) :
    Calls Try.prog 13 #[.string (S l)] w fun x w' => x = .returned (.tuple #[.int .i64 m, .int .i64 z, .int .i64 e]) ∧ ∃ n, w.drewN n = w' := by
  have := ea_Take l hl w
  unfold tkV at this
  rw [ht] at this; exact this

set_option maxHeartbeats 4000000 in
theorem eaBack_out (n : Int) (hn : n < 0 ∨ 32767 < n) (n0 : -9223372036854775808 ≤ n) (n1 : n ≤ 9223372036854775807) (a d : Int) (c k : Bool) (hs : spl a = (d, c, k)) (hk : k = (a % 2 == 1)) (hda : k = true → 0 ≤ d ∧ d ≤ 255 ∧ adr d c = a) (a0 : 0 ≤ a) (a1 : a ≤ 255) (l : List UInt8) (hl : l.length ≤ 1000) (w : World) :
    Calls Try.prog 5 #[.int .i64 n, .int .u8 a, .string (S l)] w fun e w' => e = .returned (.bool true) ∧ Below w.heap.size w w' := by
  have hv : ln n = [] := by simp [ln, hn]
  obtain ⟨x, y, z, hT⟩ : ∃ x y z, tk l = (x, y, z) := ⟨_, _, _, rfl⟩
  have hmax : l.length ≤ maxLen := by unfold maxLen; omega
  have HS := Lib.hid hs; clear hs
  have HT := Lib.hid hT; clear hT
  have HM := Lib.hid hmax; clear hmax
  cases k
  · have hk' : (a % 2 == 1) = false := hk.symm
    clear hk hda
    rcases hn with hn | hn
    all_goals
      go_enter Try.func5, Try.ntmps5
      go_wp2_with (first
        | (go_at_call 17; refine (ea_Split' _ _ _ _ HS.out a0 a1 _).mono ?_; rintro e w' ⟨rfl, rfl⟩)
        | (go_at_call 15; refine (ea_Length _ _).mono ?_; rintro e w1 ⟨rfl, hb1⟩)
        | (go_at_call 13; refine (ea_Take' _ _ _ _ HT.out HM.out _).mono ?_; rintro e w' ⟨rfl, k, rfl⟩)
        | (go_at_call 12; refine (ea_works _).mono ?_; rintro e w1 ⟨rfl, hb1⟩))
      go_ret
      exact ⟨rfl, by repeat (first | exact Below.refl _ _ | refine bdrew ?_ | refine balloc ?_ | refine bchain (by assumption) ?_)⟩
  · have hk' : (a % 2 == 1) = true := hk.symm
    obtain ⟨d0, d1, hd⟩ := hda rfl
    clear hk hda
    rcases hn with hn | hn
    all_goals
      go_enter Try.func5, Try.ntmps5
      go_wp2_with (first
        | (go_at_call 17; refine (ea_Split' _ _ _ _ HS.out a0 a1 _).mono ?_; rintro e w' ⟨rfl, rfl⟩)
        | (go_at_call 19; refine (ea_Address _ _ d0 d1 _).mono ?_; rintro e w' ⟨rfl, rfl⟩)
        | (go_at_call 15; refine (ea_Length _ _).mono ?_; rintro e w1 ⟨rfl, hb1⟩)
        | (go_at_call 13; refine (ea_Take' _ _ _ _ HT.out HM.out _).mono ?_; rintro e w' ⟨rfl, k, rfl⟩)
        | (go_at_call 12; refine (ea_works _).mono ?_; rintro e w1 ⟨rfl, hb1⟩))
      go_ret
      exact ⟨rfl, by repeat (first | exact Below.refl _ _ | refine bdrew ?_ | refine balloc ?_ | refine bchain (by assumption) ?_)⟩

end Go.Proofs.Ytmnflfjcfkblbaa
