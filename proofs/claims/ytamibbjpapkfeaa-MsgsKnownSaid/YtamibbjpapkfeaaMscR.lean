/-
  The reference of layer 9, called with any arguments: what it answers.
  Conditions: a number of an octet lies from 0 to 255.
-/
import Derived.Test.YtamibbjpapkfeaaMscW
import Derived.Test.YtamibbjpapkfeaaRegion
namespace Go.Proofs.Ytamibbjpapkfeaa
set_option linter.unusedSimpArgs false
set_option linter.unusedVariables false
open Go.RowKit

set_option maxHeartbeats 8000000 in
theorem mscR_Bits (d : Int) (fc rtc rtr ic dv hb : Bool) (br : Int) (w : World) :
    Calls Try.prog 59 #[.agg #[.int .u8 d, .bool fc, .bool rtc, .bool rtr, .bool ic, .bool dv, .bool hb, .int .u8 br]] w fun e w' => e = .returned (.int .u8 (mbits ⟨d, fc, rtc, rtr, ic, dv, hb, br⟩)) ∧ Below w.heap.size w w' := by
  cases fc <;> cases rtc <;> cases rtr <;> cases ic <;> cases dv
  all_goals
    go_enter Try.func59, Try.ntmps59
    go_wp2
    go_ret
    exact ⟨by simp [mbits, bitI], by repeat (first | with_reducible exact Below.refl _ _ | with_reducible assumption | with_reducible apply bdrew | with_reducible apply bdrew1 | with_reducible apply balloc | (with_reducible apply bchain; (· with_reducible assumption)))⟩

set_option maxHeartbeats 2000000 in
theorem mscR_Put (d : Int) (fc rtc rtr ic dv hb : Bool) (br : Int) (d0 : 0 ≤ d) (d1 : d ≤ 255) (b0 : 0 ≤ br) (b1 : br ≤ 255) (w : World) :
    Calls Try.prog 50 #[.agg #[.int .u8 d, .bool fc, .bool rtc, .bool rtr, .bool ic, .bool dv, .bool hb, .int .u8 br]] w fun e w' => e = .returned (.tuple #[.string (S (mput ⟨d, fc, rtc, rtr, ic, dv, hb, br⟩).1), .int .i64 (mput ⟨d, fc, rtc, rtr, ic, dv, hb, br⟩).2]) ∧ Below w.heap.size w w' := by
  by_cases h1 : 63 < d
  · have hv : mput ⟨d, fc, rtc, rtr, ic, dv, hb, br⟩ = ([], 2) := by simp [mput, h1]
    rw [hv]; clear hv
    go_enter Try.func50, Try.ntmps50
    go_wp2
    go_ret2
    exact ⟨rfl, by repeat (first | with_reducible exact Below.refl _ _ | with_reducible assumption | with_reducible apply bdrew | with_reducible apply bdrew1 | with_reducible apply balloc | (with_reducible apply bchain; (· with_reducible assumption)))⟩
  by_cases h2 : 15 < br
  · have hv : mput ⟨d, fc, rtc, rtr, ic, dv, hb, br⟩ = ([], 2) := by simp [mput, h2]
    rw [hv]; clear hv
    go_enter Try.func50, Try.ntmps50
    go_wp2
    go_ret2
    exact ⟨rfl, by repeat (first | with_reducible exact Below.refl _ _ | with_reducible assumption | with_reducible apply bdrew | with_reducible apply bdrew1 | with_reducible apply balloc | (with_reducible apply bchain; (· with_reducible assumption)))⟩
  cases hb
  · by_cases h3 : 0 < br
    · have hv : mput ⟨d, fc, rtc, rtr, ic, dv, false, br⟩ = ([], 2) := by simp [mput, h3]
      rw [hv]; clear hv
      have h4 : (br != 0) = true := by simp; omega
      go_enter Try.func50, Try.ntmps50
      go_wp2
      go_ret2
      exact ⟨rfl, by repeat (first | with_reducible exact Below.refl _ _ | with_reducible assumption | with_reducible apply bdrew | with_reducible apply bdrew1 | with_reducible apply balloc | (with_reducible apply bchain; (· with_reducible assumption)))⟩
    · have hv : mput ⟨d, fc, rtc, rtr, ic, dv, false, br⟩ = ([b8 (adr d true), b8 (mbits ⟨d, fc, rtc, rtr, ic, dv, false, br⟩)], 0) := by simp [mput, h1, h3]; omega
      rw [hv]; clear hv
      have h4 : (br != 0) = false := by simp; omega
      go_enter Try.func50, Try.ntmps50
      go_wp2_with (first
        | (go_at_call 56; refine (eaR_Address _ _ d0 d1 _).mono ?_; rintro e w' ⟨rfl, rfl⟩)
        | (go_at_call 59; refine (mscR_Bits _ _ _ _ _ _ _ _ _).mono ?_; rintro e w1 ⟨rfl, hb1⟩; have hcv := conv_2 (P := Try.prog) w1 58 9 5 Try.underlying58 Try.underlying5 Try.underlying9 2 (adr d true) (mbits ⟨d, fc, rtc, rtr, ic, dv, false, br⟩)))
      go_ret2
      exact ⟨rfl, by repeat (first | with_reducible exact Below.refl _ _ | with_reducible assumption | with_reducible apply bdrew | with_reducible apply bdrew1 | with_reducible apply balloc | (with_reducible apply bchain; (· with_reducible assumption)))⟩
  · have hv : mput ⟨d, fc, rtc, rtr, ic, dv, true, br⟩ = ([b8 (adr d true), b8 (mbits ⟨d, fc, rtc, rtr, ic, dv, true, br⟩ - 1), b8 (3 + 16 * br)], 0) := by simp [mput, h1, h2]
    rw [hv]; clear hv
    obtain ⟨m0, m1, m2⟩ := mbits_odd ⟨d, fc, rtc, rtr, ic, dv, true, br⟩
    clear m2
    go_enter Try.func50, Try.ntmps50
    go_wp2_with (go_at_call 56; refine (eaR_Address _ _ d0 d1 _).mono ?_; rintro e w' ⟨rfl, rfl⟩)
    refine reg_start (S := (fun w' => Below w.heap.size w w' ∧ w'.cell? ⟨w.heap.size, 0, none⟩ = some (.int .u8 d) ∧ w'.cell? ⟨w.heap.size, 1, none⟩ = some (.bool fc) ∧ w'.cell? ⟨w.heap.size, 2, none⟩ = some (.bool rtc) ∧ w'.cell? ⟨w.heap.size, 3, none⟩ = some (.bool rtr) ∧ w'.cell? ⟨w.heap.size, 4, none⟩ = some (.bool ic) ∧ w'.cell? ⟨w.heap.size, 5, none⟩ = some (.bool dv) ∧ w'.cell? ⟨w.heap.size, 6, none⟩ = some (.bool true) ∧ w'.cell? ⟨w.heap.size, 7, none⟩ = some (.int .u8 br))) 12 #[false, false, false, false, false, false, false, false, false, false, false, false] rfl rfl (by kernel_rfl) ?_ (fun hS => ?_)
    · (first | ((repeat (first | with_reducible exact Below.refl _ _ | with_reducible assumption | with_reducible apply bdrew | with_reducible apply bdrew1 | with_reducible apply balloc | (with_reducible apply bchain; (· with_reducible assumption)))); done) | (((and_intros <;> first | exact bchain (by assumption) (by simp only [*]) | exact keepc (by assumption) (by simp only [*]) | exact balloc (by first | (simp only [*]; done) | (repeat (first | with_reducible exact Below.refl _ _ | with_reducible assumption | with_reducible apply bdrew | with_reducible apply bdrew1 | with_reducible apply balloc | (with_reducible apply bchain; (· with_reducible assumption))))) | exact bdrew1 (by first | (simp only [*]; done) | (repeat (first | with_reducible exact Below.refl _ _ | with_reducible assumption | with_reducible apply bdrew | with_reducible apply bdrew1 | with_reducible apply balloc | (with_reducible apply bchain; (· with_reducible assumption))))) | (simp only [*]; done) | (exact cell_drew (by first | (simp only [*]; done) | exact cell_new _ _ _ _ _ rfl rfl)) | exact cell_new _ _ _ _ _ rfl rfl | go_keep)); done) | fail)
    (refine reg_take 0 (some 34) (v := ?_) rfl rfl (by kernel_rfl) (by kernel_rfl) (by kernel_rfl) (fun _ _ _ h => h) (by rfl) ?_ (by assumption) ?_; rotate_left 1; (· first | (intro W' hSw; (try dsimp only at hSw); go_simp; done) | (intro W' hSw; (try dsimp only at hSw); go_simp; with_reducible rfl)))
    try simp only [Act.put, List.setIfInBounds_toArray, List.set_cons_zero, List.set_cons_succ]
    (refine reg_take 1 (some 35) (v := ?_) rfl rfl (by kernel_rfl) (by kernel_rfl) (by kernel_rfl) (fun _ _ _ h => h) (by rfl) ?_ (by assumption) ?_; rotate_left 1; (· first | (intro W' hSw; (try dsimp only at hSw); go_simp; done) | (intro W' hSw; (try dsimp only at hSw); go_simp; with_reducible rfl)))
    try simp only [Act.put, List.setIfInBounds_toArray, List.set_cons_zero, List.set_cons_succ]
    (refine reg_take 4 (some 38) (v := ?_) rfl rfl (by kernel_rfl) (by kernel_rfl) (by kernel_rfl) (fun _ _ _ h => h) (by rfl) ?_ (by assumption) ?_; rotate_left 1; (· first | (intro W' hSw; (try dsimp only at hSw); go_simp; done) | (intro W' hSw; (try dsimp only at hSw); go_simp; with_reducible rfl)))
    try simp only [Act.put, List.setIfInBounds_toArray, List.set_cons_zero, List.set_cons_succ]
    (refine reg_take 5 (some 39) (v := ?_) rfl rfl (by kernel_rfl) (by kernel_rfl) (by kernel_rfl) (fun _ _ _ h => h) (by rfl) ?_ (by assumption) ?_; rotate_left 1; (· first | (intro W' hSw; (try dsimp only at hSw); go_simp; done) | (intro W' hSw; (try dsimp only at hSw); go_simp; with_reducible rfl)))
    try simp only [Act.put, List.setIfInBounds_toArray, List.set_cons_zero, List.set_cons_succ]
    (refine reg_take 6 (some 40) (v := ?_) rfl rfl (by kernel_rfl) (by kernel_rfl) (by kernel_rfl) (fun _ _ _ h => h) (by rfl) ?_ (by assumption) ?_; rotate_left 1; (· first | (intro W' hSw; (try dsimp only at hSw); go_simp; done) | (intro W' hSw; (try dsimp only at hSw); go_simp; with_reducible rfl)))
    try simp only [Act.put, List.setIfInBounds_toArray, List.set_cons_zero, List.set_cons_succ]
    (refine reg_take 7 (some 41) (v := ?_) rfl rfl (by kernel_rfl) (by kernel_rfl) (by kernel_rfl) (fun _ _ _ h => h) (by rfl) ?_ (by assumption) ?_; rotate_left 1; (· first | (intro W' hSw; (try dsimp only at hSw); go_simp; done) | (intro W' hSw; (try dsimp only at hSw); go_simp; with_reducible rfl)))
    try simp only [Act.put, List.setIfInBounds_toArray, List.set_cons_zero, List.set_cons_succ]
    (refine reg_eff (i := 2) rfl (by kernel_rfl) (by rfl) (fun K hK => ?_); go_wp2_with (first | (go_at_call 59; refine (mscR_Bits _ _ _ _ _ _ _ _ _).mono ?_; rintro e w1 ⟨rfl, hb1⟩)); refine hK.out _ _ ?_ (fun hS => ?_); (· (try dsimp only); (first | ((repeat (first | with_reducible exact Below.refl _ _ | with_reducible assumption | with_reducible apply bdrew | with_reducible apply bdrew1 | with_reducible apply balloc | (with_reducible apply bchain; (· with_reducible assumption)))); done) | (((and_intros <;> first | exact bchain (by assumption) (by simp only [*]) | exact keepc (by assumption) (by simp only [*]) | exact balloc (by first | (simp only [*]; done) | (repeat (first | with_reducible exact Below.refl _ _ | with_reducible assumption | with_reducible apply bdrew | with_reducible apply bdrew1 | with_reducible apply balloc | (with_reducible apply bchain; (· with_reducible assumption))))) | exact bdrew1 (by first | (simp only [*]; done) | (repeat (first | with_reducible exact Below.refl _ _ | with_reducible assumption | with_reducible apply bdrew | with_reducible apply bdrew1 | with_reducible apply balloc | (with_reducible apply bchain; (· with_reducible assumption))))) | (simp only [*]; done) | (exact cell_drew (by first | (simp only [*]; done) | exact cell_new _ _ _ _ _ rfl rfl)) | exact cell_new _ _ _ _ _ rfl rfl | go_keep)); done) | fail)))
    try simp only [Act.put, List.setIfInBounds_toArray, List.set_cons_zero, List.set_cons_succ]
    (refine reg_take 3 (some 37) (v := ?_) rfl rfl (by kernel_rfl) (by kernel_rfl) (by kernel_rfl) (fun _ _ _ h => h) (by rfl) ?_ (by assumption) ?_; rotate_left 1; (· first | (intro W' hSw; (try dsimp only at hSw); go_simp; done) | (intro W' hSw; (try dsimp only at hSw); go_simp; with_reducible rfl)))
    try simp only [Act.put, List.setIfInBounds_toArray, List.set_cons_zero, List.set_cons_succ]
    (refine reg_eff (i := 8) rfl (by kernel_rfl) (by rfl) (fun K hK => ?_); go_wp2_with (first | (go_at_call 59; refine (mscR_Bits _ _ _ _ _ _ _ _ _).mono ?_; rintro e w1 ⟨rfl, hb1⟩)); refine hK.out _ _ ?_ (fun hS => ?_); (· (try dsimp only); (first | ((repeat (first | with_reducible exact Below.refl _ _ | with_reducible assumption | with_reducible apply bdrew | with_reducible apply bdrew1 | with_reducible apply balloc | (with_reducible apply bchain; (· with_reducible assumption)))); done) | (((and_intros <;> first | exact bchain (by assumption) (by simp only [*]) | exact keepc (by assumption) (by simp only [*]) | exact balloc (by first | (simp only [*]; done) | (repeat (first | with_reducible exact Below.refl _ _ | with_reducible assumption | with_reducible apply bdrew | with_reducible apply bdrew1 | with_reducible apply balloc | (with_reducible apply bchain; (· with_reducible assumption))))) | exact bdrew1 (by first | (simp only [*]; done) | (repeat (first | with_reducible exact Below.refl _ _ | with_reducible assumption | with_reducible apply bdrew | with_reducible apply bdrew1 | with_reducible apply balloc | (with_reducible apply bchain; (· with_reducible assumption))))) | (simp only [*]; done) | (exact cell_drew (by first | (simp only [*]; done) | exact cell_new _ _ _ _ _ rfl rfl)) | exact cell_new _ _ _ _ _ rfl rfl | go_keep)); done) | fail)))
    try simp only [Act.put, List.setIfInBounds_toArray, List.set_cons_zero, List.set_cons_succ]
    (refine reg_eff (i := 9) rfl (by kernel_rfl) (by rfl) (fun K hK => ?_); go_wp2_with (first | (go_at_call 59; refine (mscR_Bits _ _ _ _ _ _ _ _ _).mono ?_; rintro e w1 ⟨rfl, hb1⟩)); refine hK.out _ _ ?_ (fun hS => ?_); (· (try dsimp only); (first | ((repeat (first | with_reducible exact Below.refl _ _ | with_reducible assumption | with_reducible apply bdrew | with_reducible apply bdrew1 | with_reducible apply balloc | (with_reducible apply bchain; (· with_reducible assumption)))); done) | (((and_intros <;> first | exact bchain (by assumption) (by simp only [*]) | exact keepc (by assumption) (by simp only [*]) | exact balloc (by first | (simp only [*]; done) | (repeat (first | with_reducible exact Below.refl _ _ | with_reducible assumption | with_reducible apply bdrew | with_reducible apply bdrew1 | with_reducible apply balloc | (with_reducible apply bchain; (· with_reducible assumption))))) | exact bdrew1 (by first | (simp only [*]; done) | (repeat (first | with_reducible exact Below.refl _ _ | with_reducible assumption | with_reducible apply bdrew | with_reducible apply bdrew1 | with_reducible apply balloc | (with_reducible apply bchain; (· with_reducible assumption))))) | (simp only [*]; done) | (exact cell_drew (by first | (simp only [*]; done) | exact cell_new _ _ _ _ _ rfl rfl)) | exact cell_new _ _ _ _ _ rfl rfl | go_keep)); done) | fail)))
    try simp only [Act.put, List.setIfInBounds_toArray, List.set_cons_zero, List.set_cons_succ]
    (refine reg_take 10 (some 2) (v := ?_) rfl rfl (by kernel_rfl) (by kernel_rfl) (by kernel_rfl) (fun _ _ _ h => h) (by rfl) ?_ (by assumption) ?_; rotate_left 1; (· first | (intro W' hSw; (try dsimp only at hSw); go_simp; done) | (intro W' hSw; (try dsimp only at hSw); go_simp; with_reducible rfl)))
    try simp only [Act.put, List.setIfInBounds_toArray, List.set_cons_zero, List.set_cons_succ]
    (refine reg_take 11 (some 3) (v := ?_) rfl rfl (by kernel_rfl) (by kernel_rfl) (by kernel_rfl) (fun _ _ _ h => h) (by rfl) ?_ (by assumption) ?_; rotate_left 1; (· first | (intro W' hSw; (try dsimp only at hSw); go_simp; done) | (intro W' hSw; (try dsimp only at hSw); go_simp; with_reducible rfl)))
    try simp only [Act.put, List.setIfInBounds_toArray, List.set_cons_zero, List.set_cons_succ]
    refine wpAnyH_done (by kernel_rfl) ?_ _
    go_wp2
    go_ret2
    exact ⟨rfl, by repeat (first | with_reducible exact Below.refl _ _ | with_reducible assumption | with_reducible apply bdrew | with_reducible apply bdrew1 | with_reducible apply balloc | (with_reducible apply bchain; (· with_reducible assumption)))⟩
end Go.Proofs.Ytamibbjpapkfeaa
