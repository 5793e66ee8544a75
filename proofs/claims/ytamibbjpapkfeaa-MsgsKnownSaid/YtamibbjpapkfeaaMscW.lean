/-
  The functions of layer 9 (msc) and of its reference, each called with any arguments: what it answers.
  Conditions: a number of an octet lies from 0 to 255.
-/
import Derived.Test.YtamibbjpapkfeaaEaW
namespace Go.Proofs.Ytamibbjpapkfeaa
set_option linter.unusedSimpArgs false
set_option linter.unusedVariables false
open Go.RowKit

/-- What a status holds. -/
structure Stat where
  d : Int
  fc : Bool
  rtc : Bool
  rtr : Bool
  ic : Bool
  dv : Bool
  hb : Bool
  br : Int
def Stat.ok (s : Stat) : Prop := 0 ≤ s.d ∧ s.d ≤ 255 ∧ 0 ≤ s.br ∧ s.br ≤ 255
def bitI (b : Bool) (n : Int) : Int := if b then n else 0
/-- The signals' octet. -/
def mbits (s : Stat) : Int := 1 + bitI s.fc 2 + bitI s.rtc 4 + bitI s.rtr 8 + bitI s.ic 64 + bitI s.dv 128

/-- The sum of the first bits. -/
def bsum (bs : List Bool) : Nat → Int
  | 0 => 0
  | k + 1 => bsum bs k + bitI (bs.getD k false) (2 ^ k)
theorem bsum_bd (bs : List Bool) (k : Nat) : 0 ≤ bsum bs k ∧ bsum bs k < 2 ^ k := by
  induction k with
  | zero => simp [bsum]
  | succ k ih =>
    have : (2 : Int) ^ (k + 1) = 2 ^ k + 2 ^ k := by rw [Int.pow_succ]; omega
    simp only [bsum, bitI]
    split <;> omega
theorem or_pow (k : Nat) (hk : k < 8) (x : Int) (h0 : 0 ≤ x) (h1 : x < 2 ^ k) : bits .or .u8 x (2 ^ k % 256) = x + 2 ^ k := by
  have h8 : (2 : Int) ^ k ≤ 128 := by
    have := Nat.pow_le_pow_right (n := 2) (by decide) (show k ≤ 7 by omega)
    exact_mod_cast this
  have h : ∀ j : Fin 8, ∀ n : Fin 256, (n.val : Int) < 2 ^ j.val → bits .or .u8 (n.val : Int) (2 ^ j.val % 256) = (n.val : Int) + 2 ^ j.val := by decide +kernel
  have := h ⟨k, hk⟩ ⟨x.toNat, by omega⟩
  have e : ((x.toNat : Nat) : Int) = x := by omega
  simp only [e] at this
  exact this h1

set_option maxHeartbeats 1000000 in
theorem msc_bits (b c : Nat) (bs : List Bool) (w : World) (hc : ∀ j, j < 8 → w.cell? ⟨b, j, none⟩ = some (.bool (bs.getD j false))) :
    Calls Try.prog 60 #[.slice (some ⟨b, 0, none⟩) 8 c] w fun e w' => e = .returned (.int .u8 (bsum bs 8)) ∧ w = w' := by
  go_enter Try.func60, Try.ntmps60
  go_wp2
  go_loop [3, 8] (fun n i => ∃ k : Nat, k ≤ 8 ∧ i = .int .i64 k ∧ n = .int .u8 (bsum bs k)) (fun _ i => 8 - (intOf i).toNat)
  case atStart => exact ⟨0, by omega, rfl, rfl⟩
  case round =>
    obtain ⟨k, hk, rfl, rfl⟩ := hrel
    by_cases hlt : k < 8
    · have hcell := hc k hlt
      have hb := bsum_bd bs k
      have ho := or_pow k hlt (bsum bs k) hb.1 hb.2
      have hs : bsum bs (k + 1) = bsum bs k + bitI (bs.getD k false) (2 ^ k) := rfl
      generalize bs.getD k false = q at *
      have HS := Lib.hid hs
      clear hc hs hb
      cases q
      all_goals
        go_wp2
        go_round
        case rel => exact ⟨k + 1, by omega, by go_num, by rw [HS.out]; simp [bitI]⟩
        case measure => simp [intOf]; omega
    · obtain rfl : k = 8 := by omega
      go_wp2
      go_ret
      exact ⟨rfl, rfl⟩

theorem msc_bits_new (fc rtc rtr ic dv : Bool) (b c : Nat) (w : World) (hb : b = w.heap.size) :
    Calls Try.prog 60 #[.slice (some ⟨b, 0, none⟩) 8 c] (w.alloc (.cells #[.bool true, .bool fc, .bool rtc, .bool rtr, .bool false, .bool false, .bool ic, .bool dv] 4)) fun e w' => e = .returned (.int .u8 (mbits ⟨0, fc, rtc, rtr, ic, dv, false, 0⟩)) ∧ w.alloc (.cells #[.bool true, .bool fc, .bool rtc, .bool rtr, .bool false, .bool false, .bool ic, .bool dv] 4) = w' := by
  subst hb
  have h := msc_bits w.heap.size c [true, fc, rtc, rtr, false, false, ic, dv] (w.alloc (.cells #[.bool true, .bool fc, .bool rtc, .bool rtr, .bool false, .bool false, .bool ic, .bool dv] 4)) (fun j hj => by
    rw [World.cell?_alloc_at _ _ _ _ rfl]
    match j, hj with
    | 0, _ => rfl
    | 1, _ => rfl
    | 2, _ => rfl
    | 3, _ => rfl
    | 4, _ => rfl
    | 5, _ => rfl
    | 6, _ => rfl
    | 7, _ => rfl)
  have e : bsum [true, fc, rtc, rtr, false, false, ic, dv] 8 = mbits ⟨0, fc, rtc, rtr, ic, dv, false, 0⟩ := by
    simp [bsum, mbits, bitI]
  rw [e] at h
  exact h

set_option maxHeartbeats 1000000 in
theorem msc_Bits (d : Int) (fc rtc rtr ic dv hb : Bool) (br : Int) (w : World) :
    Calls Try.prog 54 #[.agg #[.int .u8 d, .bool fc, .bool rtc, .bool rtr, .bool ic, .bool dv, .bool hb, .int .u8 br]] w fun e w' => e = .returned (.int .u8 (mbits ⟨d, fc, rtc, rtr, ic, dv, hb, br⟩)) ∧ Below w.heap.size w w' := by
  go_enter Try.func54, Try.ntmps54
  go_wp2_with (go_at_call 60; refine (msc_bits_new _ _ _ _ _ _ _ _ (by simp)).mono ?_; rintro e w' ⟨rfl, rfl⟩)
  go_ret
  exact ⟨rfl, by repeat (first | with_reducible exact Below.refl _ _ | with_reducible assumption | with_reducible apply bdrew | with_reducible apply bdrew1 | with_reducible apply balloc | (with_reducible apply bchain; (· with_reducible assumption)))⟩

/-- What is put of a status, and the error. -/
def mput (s : Stat) : List UInt8 × Int :=
  if 63 < s.d ∨ 15 < s.br ∨ (0 < s.br ∧ s.hb = false) then ([], 2)
  else if s.hb = true then ([b8 (adr s.d true), b8 (mbits s - 1), b8 (3 + 16 * s.br)], 0) else ([b8 (adr s.d true), b8 (mbits s)], 0)
theorem mbits_odd (s : Stat) : 1 ≤ mbits s ∧ mbits s ≤ 255 ∧ mbits s % 2 = 1 := by
  obtain ⟨d, fc, rtc, rtr, ic, dv, hb, br⟩ := s
  cases fc <;> cases rtc <;> cases rtr <;> cases ic <;> cases dv <;> simp [mbits, bitI]
theorem andNot1 (x : Int) (h0 : 0 ≤ x) (h1 : x ≤ 255) (h : x % 2 = 1) : bits .andNot .u8 x 1 = x - 1 :=
  all_u8 (p := fun x => x % 2 = 1 → bits .andNot .u8 x 1 = x - 1) (by decide +kernel) x h0 h1 h
theorem or3 (x : Int) (h0 : 0 ≤ x) (h1 : x ≤ 15) : bits .or .u8 3 (x * 16) = 3 + 16 * x :=
  all_u8 (p := fun x => x ≤ 15 → bits .or .u8 3 (x * 16) = 3 + 16 * x) (by decide +kernel) x h0 (by omega) h1

set_option maxHeartbeats 2000000 in
theorem msc_Put0 (d : Int) (fc rtc rtr ic dv : Bool) (br : Int) (d0 : 0 ≤ d) (d1 : d ≤ 255) (b0 : 0 ≤ br) (b1 : br ≤ 255) (w : World) :
    Calls Try.prog 42 #[.agg #[.int .u8 d, .bool fc, .bool rtc, .bool rtr, .bool ic, .bool dv, .bool false, .int .u8 br]] w fun e w' => e = .returned (.tuple #[.string (S (mput ⟨d, fc, rtc, rtr, ic, dv, false, br⟩).1), .int .i64 (mput ⟨d, fc, rtc, rtr, ic, dv, false, br⟩).2]) ∧ Below w.heap.size w w' := by
  by_cases h1 : 63 < d
  · have hv : mput ⟨d, fc, rtc, rtr, ic, dv, false, br⟩ = ([], 2) := by simp [mput, h1]
    rw [hv]; clear hv
    go_enter Try.func42, Try.ntmps42
    go_wp2
    go_ret2
    exact ⟨rfl, by repeat (first | with_reducible exact Below.refl _ _ | with_reducible assumption | with_reducible apply bdrew | with_reducible apply bdrew1 | with_reducible apply balloc | (with_reducible apply bchain; (· with_reducible assumption)))⟩
  by_cases h3 : 0 < br
  · have hv : mput ⟨d, fc, rtc, rtr, ic, dv, false, br⟩ = ([], 2) := by simp [mput, h3]
    rw [hv]; clear hv
    by_cases h2 : 15 < br
    all_goals
      go_enter Try.func42, Try.ntmps42
      go_wp2
      go_ret2
      exact ⟨rfl, by repeat (first | with_reducible exact Below.refl _ _ | with_reducible assumption | with_reducible apply bdrew | with_reducible apply bdrew1 | with_reducible apply balloc | (with_reducible apply bchain; (· with_reducible assumption)))⟩
  · have hv : mput ⟨d, fc, rtc, rtr, ic, dv, false, br⟩ = ([b8 (adr d true), b8 (mbits ⟨d, fc, rtc, rtr, ic, dv, false, br⟩)], 0) := by simp [mput, h1, h3]; omega
    rw [hv]; clear hv
    have h2 : ¬ 15 < br := by omega
    go_enter Try.func42, Try.ntmps42
    go_wp2_with fail
    go_region_held3 (fun w' => Below w.heap.size w w' ∧ w'.cell? ⟨w.heap.size, 0, none⟩ = some (.int .u8 d) ∧ w'.cell? ⟨w.heap.size, 1, none⟩ = some (.bool fc) ∧ w'.cell? ⟨w.heap.size, 2, none⟩ = some (.bool rtc) ∧ w'.cell? ⟨w.heap.size, 3, none⟩ = some (.bool rtr) ∧ w'.cell? ⟨w.heap.size, 4, none⟩ = some (.bool ic) ∧ w'.cell? ⟨w.heap.size, 5, none⟩ = some (.bool dv) ∧ w'.cell? ⟨w.heap.size, 6, none⟩ = some (.bool false) ∧ w'.cell? ⟨w.heap.size, 7, none⟩ = some (.int .u8 br)) ((and_intros <;> first | exact bchain (by assumption) (by simp only [*]) | exact keepc (by assumption) (by simp only [*]) | exact balloc (by first | (simp only [*]; done) | (repeat (first | with_reducible exact Below.refl _ _ | with_reducible assumption | with_reducible apply bdrew | with_reducible apply bdrew1 | with_reducible apply balloc | (with_reducible apply bchain; (· with_reducible assumption))))) | exact bdrew1 (by first | (simp only [*]; done) | (repeat (first | with_reducible exact Below.refl _ _ | with_reducible assumption | with_reducible apply bdrew | with_reducible apply bdrew1 | with_reducible apply balloc | (with_reducible apply bchain; (· with_reducible assumption))))) | (simp only [*]; done) | (exact cell_drew (by first | (simp only [*]; done) | exact cell_new _ _ _ _ _ rfl rfl)) | exact cell_new _ _ _ _ _ rfl rfl | go_keep)) (first | (go_at_call 53; refine (ea_Address _ _ d0 d1 _).mono ?_; rintro e w' ⟨rfl, rfl⟩) | (go_at_call 54; refine (msc_Bits _ _ _ _ _ _ _ _ _).mono ?_; rintro e w1 ⟨rfl, hb1⟩))
    have hcv := conv_2 (P := Try.prog) w1 58 9 5 Try.underlying58 Try.underlying5 Try.underlying9 2 (adr d true) (mbits ⟨d, fc, rtc, rtr, ic, dv, false, br⟩)
    go_wp2
    go_ret2
    exact ⟨rfl, by repeat (first | with_reducible exact Below.refl _ _ | with_reducible assumption | with_reducible apply bdrew | with_reducible apply bdrew1 | with_reducible apply balloc | (with_reducible apply bchain; (· with_reducible assumption)))⟩

theorem adr_bd (a : Int) (c : Bool) (h0 : 0 ≤ a) : 0 ≤ adr a c ∧ adr a c ≤ 255 := by
  unfold adr; cases c <;> simp <;> split <;> omega

set_option maxHeartbeats 2000000 in
theorem msc_Put1 (d : Int) (fc rtc rtr ic dv : Bool) (br : Int) (d0 : 0 ≤ d) (d1 : d ≤ 255) (b0 : 0 ≤ br) (b1 : br ≤ 255) (w : World) :
    Calls Try.prog 42 #[.agg #[.int .u8 d, .bool fc, .bool rtc, .bool rtr, .bool ic, .bool dv, .bool true, .int .u8 br]] w fun e w' => e = .returned (.tuple #[.string (S (mput ⟨d, fc, rtc, rtr, ic, dv, true, br⟩).1), .int .i64 (mput ⟨d, fc, rtc, rtr, ic, dv, true, br⟩).2]) ∧ Below w.heap.size w w' := by
  by_cases h1 : 63 < d
  · have hv : mput ⟨d, fc, rtc, rtr, ic, dv, true, br⟩ = ([], 2) := by simp [mput, h1]
    rw [hv]; clear hv
    go_enter Try.func42, Try.ntmps42
    go_wp2
    go_ret2
    exact ⟨rfl, by repeat (first | with_reducible exact Below.refl _ _ | with_reducible assumption | with_reducible apply bdrew | with_reducible apply bdrew1 | with_reducible apply balloc | (with_reducible apply bchain; (· with_reducible assumption)))⟩
  by_cases h2 : 15 < br
  · have hv : mput ⟨d, fc, rtc, rtr, ic, dv, true, br⟩ = ([], 2) := by simp [mput, h2]
    rw [hv]; clear hv
    go_enter Try.func42, Try.ntmps42
    go_wp2
    go_ret2
    exact ⟨rfl, by repeat (first | with_reducible exact Below.refl _ _ | with_reducible assumption | with_reducible apply bdrew | with_reducible apply bdrew1 | with_reducible apply balloc | (with_reducible apply bchain; (· with_reducible assumption)))⟩
  · have hv : mput ⟨d, fc, rtc, rtr, ic, dv, true, br⟩ = ([b8 (adr d true), b8 (mbits ⟨d, fc, rtc, rtr, ic, dv, true, br⟩ - 1), b8 (3 + 16 * br)], 0) := by simp [mput, h1, h2]
    rw [hv]; clear hv
    obtain ⟨m0, m1, m2⟩ := mbits_odd ⟨d, fc, rtc, rtr, ic, dv, true, br⟩
    have ha := andNot1 _ (by omega) m1 m2
    have ho := or3 br b0 (by omega)
    clear m2
    have hcase : br = 0 ∨ 0 < br := by omega
    by_cases h3 : 0 < br
    all_goals
      go_enter Try.func42, Try.ntmps42
      go_wp2_with fail
      go_region_held3 (fun w' => Below w.heap.size w w' ∧ w'.cell? ⟨w.heap.size, 0, none⟩ = some (.int .u8 d) ∧ w'.cell? ⟨w.heap.size, 1, none⟩ = some (.bool fc) ∧ w'.cell? ⟨w.heap.size, 2, none⟩ = some (.bool rtc) ∧ w'.cell? ⟨w.heap.size, 3, none⟩ = some (.bool rtr) ∧ w'.cell? ⟨w.heap.size, 4, none⟩ = some (.bool ic) ∧ w'.cell? ⟨w.heap.size, 5, none⟩ = some (.bool dv) ∧ w'.cell? ⟨w.heap.size, 6, none⟩ = some (.bool true) ∧ w'.cell? ⟨w.heap.size, 7, none⟩ = some (.int .u8 br)) ((and_intros <;> first | exact bchain (by assumption) (by simp only [*]) | exact keepc (by assumption) (by simp only [*]) | exact balloc (by first | (simp only [*]; done) | (repeat (first | with_reducible exact Below.refl _ _ | with_reducible assumption | with_reducible apply bdrew | with_reducible apply bdrew1 | with_reducible apply balloc | (with_reducible apply bchain; (· with_reducible assumption))))) | exact bdrew1 (by first | (simp only [*]; done) | (repeat (first | with_reducible exact Below.refl _ _ | with_reducible assumption | with_reducible apply bdrew | with_reducible apply bdrew1 | with_reducible apply balloc | (with_reducible apply bchain; (· with_reducible assumption))))) | (simp only [*]; done) | (exact cell_drew (by first | (simp only [*]; done) | exact cell_new _ _ _ _ _ rfl rfl)) | exact cell_new _ _ _ _ _ rfl rfl | go_keep)) (first | (go_at_call 53; refine (ea_Address _ _ d0 d1 _).mono ?_; rintro e w' ⟨rfl, rfl⟩) | (go_at_call 54; refine (msc_Bits _ _ _ _ _ _ _ _ _).mono ?_; rintro e w1 ⟨rfl, hb1⟩))
      have hc7 : w1.cell? ⟨w.heap.size, 7, none⟩ = some (.int .u8 br) := keepc hb1 (cell_drew (cell_new _ _ _ _ _ rfl rfl))
      have hsz : w.heap.size < w1.heap.size := by have := hb1.size; simp at this; omega
      go_wp2_with (at_builtin; go_loud (refine append1 58 5 _ 1 Try.underlying58 infoU8 rfl (by decide) rfl (.tmp 36) (.tmp 41) rfl w1.heap.size _ 2 _ _ rfl (own_lit w1 5 [.int .u8 (adr d true), .int .u8 (mbits ⟨d, fc, rtc, rtr, ic, dv, true, br⟩ - 1)] (by simp)) rfl (by simp) rfl (by omega) (by simp) ?_); intro v' w2 hown2 hb2 hs2; have hcv := conv_own (P := Try.prog) w2 58 9 5 Try.underlying58 Try.underlying5 Try.underlying9 _ _ _ [adr d true, mbits ⟨d, fc, rtc, rtr, ic, dv, true, br⟩ - 1, 3 + 16 * br] hown2)
      go_ret2
      exact ⟨rfl, bchain2 hb2 (by omega) (by repeat (first | with_reducible exact Below.refl _ _ | with_reducible assumption | with_reducible apply bdrew | with_reducible apply bdrew1 | with_reducible apply balloc | (with_reducible apply bchain; (· with_reducible assumption))))⟩
end Go.Proofs.Ytamibbjpapkfeaa
