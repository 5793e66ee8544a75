/-
  MscGet, called: it returns true and makes at most new blocks.
  Conditions: the argument as the model reads it.
-/
import Derived.Test.YtmnflfjcfkblbaaMscL
namespace Go.Proofs.Ytmnflfjcfkblbaa
set_option linter.unusedSimpArgs false
set_option linter.unusedVariables false
open Go.RowKit

theorem spl_hi (a : Int) (h0 : 0 ≤ a) (h1 : a ≤ 255) : 0 ≤ (spl a).1 ∧ (spl a).1 ≤ 63 := by
  unfold spl; split <;> simp <;> omega

set_option maxHeartbeats 2000000 in
theorem mscGet_walk (v : List UInt8) (hl : v.length ≤ maxLen) (w : World) :
    Calls Try.prog 8 #[.string (S v)] w fun e w' => e = .returned (.bool true) ∧ Below w.heap.size w w' := by
  unfold maxLen at hl
  by_cases h : 50 < v.length
  · go_enter Try.func8, Try.ntmps8
    go_wp2_with (go_at_call 26; refine (msc_works _).mono ?_; rintro e w1 ⟨rfl, hb1⟩)
    go_ret
    exact ⟨rfl, by repeat (first | with_reducible exact Below.refl _ _ | with_reducible assumption | with_reducible apply bdrew | with_reducible apply bdrew1 | with_reducible apply balloc | (with_reducible apply bchain; (· with_reducible assumption)) | (with_reducible apply bset; rotate_left 1; (· first | (simp; done) | omega)))⟩
  · have hg := mget_rget v
    have c1 := msc_Get v (by omega)
    have c2 := mscR_Get v (by omega)
    rw [← hg] at c2
    clear hg
    generalize mget v = q at c1 c2
    obtain ⟨⟨d, fc, rtc, rtr, ic, dv, hb, br⟩, er⟩ := q
    have c1 : ∀ w, Calls Try.prog 27 #[.string (S v)] w fun e w' => e = .returned (.tuple #[.agg #[.int .u8 d, .bool fc, .bool rtc, .bool rtr, .bool ic, .bool dv, .bool hb, .int .u8 br], .int .i64 er]) ∧ Below w.heap.size w w' := c1
    have c2 : ∀ w, Calls Try.prog 28 #[.string (S v)] w fun e w' => e = .returned (.tuple #[.agg #[.int .u8 d, .bool fc, .bool rtc, .bool rtr, .bool ic, .bool dv, .bool hb, .int .u8 br], .int .i64 er]) ∧ Below w.heap.size w w' := c2
    have C1 := Lib.hid c1; clear c1
    have C2 := Lib.hid c2; clear c2
    go_enter Try.func8, Try.ntmps8
    go_wp2_with (first
      | (go_at_call 27; refine (C1.out _).mono ?_; rintro e w1 ⟨rfl, hb1⟩)
      | (go_at_call 28; refine (C2.out _).mono ?_; rintro e w2 ⟨rfl, hb2⟩))
    refine reg_start (S := (fun w' => Below w.heap.size w w' ∧ w'.cell? ⟨w1.heap.size, 0, none⟩ = some (.int .u8 d) ∧ w'.cell? ⟨w1.heap.size, 1, none⟩ = some (.bool fc) ∧ w'.cell? ⟨w1.heap.size, 2, none⟩ = some (.bool rtc) ∧ w'.cell? ⟨w1.heap.size, 3, none⟩ = some (.bool rtr) ∧ w'.cell? ⟨w1.heap.size, 4, none⟩ = some (.bool ic) ∧ w'.cell? ⟨w1.heap.size, 5, none⟩ = some (.bool dv) ∧ w'.cell? ⟨w1.heap.size, 6, none⟩ = some (.bool hb) ∧ w'.cell? ⟨w1.heap.size, 7, none⟩ = some (.int .u8 br) ∧ w'.cell? ⟨w2.heap.size, 0, none⟩ = some (.int .u8 d) ∧ w'.cell? ⟨w2.heap.size, 1, none⟩ = some (.bool fc) ∧ w'.cell? ⟨w2.heap.size, 2, none⟩ = some (.bool rtc) ∧ w'.cell? ⟨w2.heap.size, 3, none⟩ = some (.bool rtr) ∧ w'.cell? ⟨w2.heap.size, 4, none⟩ = some (.bool ic) ∧ w'.cell? ⟨w2.heap.size, 5, none⟩ = some (.bool dv) ∧ w'.cell? ⟨w2.heap.size, 6, none⟩ = some (.bool hb) ∧ w'.cell? ⟨w2.heap.size, 7, none⟩ = some (.int .u8 br))) 13 #[false, false, false, false, false, false, false, false, false, false, false, false, false] rfl rfl (by kernel_rfl) ?_ (fun hS => ?_)
    · ((and_intros <;> (first | (simp only [*]; done) | ((repeat (first | with_reducible exact Below.refl _ _ | with_reducible assumption | with_reducible apply bdrew | with_reducible apply bdrew1 | with_reducible apply balloc | (with_reducible apply bchain; (· with_reducible assumption)) | (with_reducible apply bset; rotate_left 1; (· first | (simp; done) | omega)))); done) | ((repeat (first | with_reducible assumption | with_reducible apply cell_drew | with_reducible apply cell_drewN | (with_reducible apply cell_new; (· first | rfl | (simp; done)); (· first | rfl | (simp; done))) | with_reducible apply cell_alloc | (with_reducible apply keepc; (· with_reducible assumption)))); done) | (with_reducible apply bchain; (· with_reducible assumption); (· simp only [*]; done)) | (with_reducible apply keepc; (· with_reducible assumption); (· simp only [*]; done)))))
    (refine reg_take 0 (some 21) (v := ?_) rfl rfl (by kernel_rfl) (by kernel_rfl) (by kernel_rfl) (fun _ _ _ h => h) (by rfl) ?_ (by assumption) ?_; rotate_left 1; (· first | (intro W' hSw; (try dsimp only at hSw); go_simp; done) | (intro W' hSw; (try dsimp only at hSw); go_simp; with_reducible rfl)))
    try simp only [Act.put, List.setIfInBounds_toArray, List.set_cons_zero, List.set_cons_succ]
    (refine reg_take 2 (some 23) (v := ?_) rfl rfl (by kernel_rfl) (by kernel_rfl) (by kernel_rfl) (fun _ _ _ h => h) (by rfl) ?_ (by assumption) ?_; rotate_left 1; (· first | (intro W' hSw; (try dsimp only at hSw); go_simp; done) | (intro W' hSw; (try dsimp only at hSw); go_simp; with_reducible rfl)))
    try simp only [Act.put, List.setIfInBounds_toArray, List.set_cons_zero, List.set_cons_succ]
    (refine reg_eff (i := 1) rfl (by kernel_rfl) (by rfl) (fun K hK => ?_); go_wp2_with (first | (go_at_call 23; refine (mscL_ref _ _ _ _ _ _ _ _ _).mono ?_; rintro e w3 ⟨rfl, hb3⟩) | (go_at_call 26; refine (msc_works _).mono ?_; rintro e w3 ⟨rfl, hb3⟩)); refine hK.out _ _ ?_ (fun hS => ?_); (· (try dsimp only); ((and_intros <;> (first | (simp only [*]; done) | ((repeat (first | with_reducible exact Below.refl _ _ | with_reducible assumption | with_reducible apply bdrew | with_reducible apply bdrew1 | with_reducible apply balloc | (with_reducible apply bchain; (· with_reducible assumption)) | (with_reducible apply bset; rotate_left 1; (· first | (simp; done) | omega)))); done) | ((repeat (first | with_reducible assumption | with_reducible apply cell_drew | with_reducible apply cell_drewN | (with_reducible apply cell_new; (· first | rfl | (simp; done)); (· first | rfl | (simp; done))) | with_reducible apply cell_alloc | (with_reducible apply keepc; (· with_reducible assumption)))); done) | (with_reducible apply bchain; (· with_reducible assumption); (· simp only [*]; done)) | (with_reducible apply keepc; (· with_reducible assumption); (· simp only [*]; done)))))))
    try simp only [Act.put, List.setIfInBounds_toArray, List.set_cons_zero, List.set_cons_succ]
    (refine reg_take 3 (some 24) (v := ?_) rfl rfl (by kernel_rfl) (by kernel_rfl) (by kernel_rfl) (fun _ _ _ h => h) (by rfl) ?_ (by assumption) ?_; rotate_left 1; (· first | (intro W' hSw; (try dsimp only at hSw); go_simp; done) | (intro W' hSw; (try dsimp only at hSw); go_simp; with_reducible rfl)))
    try simp only [Act.put, List.setIfInBounds_toArray, List.set_cons_zero, List.set_cons_succ]
    (refine reg_take 4 (some 25) (v := ?_) rfl rfl (by kernel_rfl) (by kernel_rfl) (by kernel_rfl) (fun _ _ _ h => h) (by rfl) ?_ (by assumption) ?_; rotate_left 1; (· first | (intro W' hSw; (try dsimp only at hSw); go_simp; done) | (intro W' hSw; (try dsimp only at hSw); go_simp; with_reducible rfl)))
    try simp only [Act.put, List.setIfInBounds_toArray, List.set_cons_zero, List.set_cons_succ]
    first | (refine reg_take 5 (some 26) (v := ?_) rfl rfl (by kernel_rfl) (by kernel_rfl) (by kernel_rfl) (fun _ _ _ h => h) (by rfl) ?_ (by assumption) ?_; rotate_left 1; (· first | (intro W' hSw; (try dsimp only at hSw); go_simp; done) | (intro W' hSw; (try dsimp only at hSw); go_simp; with_reducible rfl))) | (refine reg_off 5 (some 26) rfl rfl (by kernel_rfl) (by kernel_rfl) (by kernel_rfl) (fun _ _ _ h => h) (by rfl) (by assumption) ?_)
    try simp only [Act.put, List.setIfInBounds_toArray, List.set_cons_zero, List.set_cons_succ]
    first | (refine reg_take 6 (some 27) (v := ?_) rfl rfl (by kernel_rfl) (by kernel_rfl) (by kernel_rfl) (fun _ _ _ h => h) (by rfl) ?_ (by assumption) ?_; rotate_left 1; (· first | (intro W' hSw; (try dsimp only at hSw); go_simp; done) | (intro W' hSw; (try dsimp only at hSw); go_simp; with_reducible rfl))) | (refine reg_off 6 (some 27) rfl rfl (by kernel_rfl) (by kernel_rfl) (by kernel_rfl) (fun _ _ _ h => h) (by rfl) (by assumption) ?_)
    try simp only [Act.put, List.setIfInBounds_toArray, List.set_cons_zero, List.set_cons_succ]
    first | (refine reg_take 7 (some 28) (v := ?_) rfl rfl (by kernel_rfl) (by kernel_rfl) (by kernel_rfl) (fun _ _ _ h => h) (by rfl) ?_ (by assumption) ?_; rotate_left 1; (· first | (intro W' hSw; (try dsimp only at hSw); go_simp; done) | (intro W' hSw; (try dsimp only at hSw); go_simp; with_reducible rfl))) | (refine reg_off 7 (some 28) rfl rfl (by kernel_rfl) (by kernel_rfl) (by kernel_rfl) (fun _ _ _ h => h) (by rfl) (by assumption) ?_)
    try simp only [Act.put, List.setIfInBounds_toArray, List.set_cons_zero, List.set_cons_succ]
    (refine reg_take 8 (some 29) (v := ?_) rfl rfl (by kernel_rfl) (by kernel_rfl) (by kernel_rfl) (fun _ _ _ h => h) (by rfl) ?_ (by assumption) ?_; rotate_left 1; (· first | (intro W' hSw; (try dsimp only at hSw); go_simp; done) | (intro W' hSw; (try dsimp only at hSw); go_simp; with_reducible rfl)))
    try simp only [Act.put, List.setIfInBounds_toArray, List.set_cons_zero, List.set_cons_succ]
    (refine reg_take 9 (some 30) (v := ?_) rfl rfl (by kernel_rfl) (by kernel_rfl) (by kernel_rfl) (fun _ _ _ h => h) (by rfl) ?_ (by assumption) ?_; rotate_left 1; (· first | (intro W' hSw; (try dsimp only at hSw); go_simp; done) | (intro W' hSw; (try dsimp only at hSw); go_simp; with_reducible rfl)))
    try simp only [Act.put, List.setIfInBounds_toArray, List.set_cons_zero, List.set_cons_succ]
    first | (refine reg_off 10 (some 31) rfl rfl (by kernel_rfl) (by kernel_rfl) (by kernel_rfl) (fun _ _ _ h => h) (by rfl) (by assumption) ?_) | (refine reg_eff (i := 10) rfl (by kernel_rfl) (by rfl) (fun K hK => ?_); go_wp2_with (first | (go_at_call 23; refine (mscL_ref _ _ _ _ _ _ _ _ _).mono ?_; rintro e w3 ⟨rfl, hb3⟩) | (go_at_call 26; refine (msc_works _).mono ?_; rintro e w3 ⟨rfl, hb3⟩)); refine hK.out _ _ ?_ (fun hS => ?_); (· (try dsimp only); ((and_intros <;> (first | (simp only [*]; done) | ((repeat (first | with_reducible exact Below.refl _ _ | with_reducible assumption | with_reducible apply bdrew | with_reducible apply bdrew1 | with_reducible apply balloc | (with_reducible apply bchain; (· with_reducible assumption)) | (with_reducible apply bset; rotate_left 1; (· first | (simp; done) | omega)))); done) | ((repeat (first | with_reducible assumption | with_reducible apply cell_drew | with_reducible apply cell_drewN | (with_reducible apply cell_new; (· first | rfl | (simp; done)); (· first | rfl | (simp; done))) | with_reducible apply cell_alloc | (with_reducible apply keepc; (· with_reducible assumption)))); done) | (with_reducible apply bchain; (· with_reducible assumption); (· simp only [*]; done)) | (with_reducible apply keepc; (· with_reducible assumption); (· simp only [*]; done)))))))
    try simp only [Act.put, List.setIfInBounds_toArray, List.set_cons_zero, List.set_cons_succ]
    (refine reg_take 11 (some 32) (v := ?_) rfl rfl (by kernel_rfl) (by kernel_rfl) (by kernel_rfl) (fun _ _ _ h => h) (by rfl) ?_ (by assumption) ?_; rotate_left 1; (· first | (intro W' hSw; (try dsimp only at hSw); go_simp; done) | (intro W' hSw; (try dsimp only at hSw); go_simp; with_reducible rfl)))
    try simp only [Act.put, List.setIfInBounds_toArray, List.set_cons_zero, List.set_cons_succ]
    (refine reg_take 12 (some 2) (v := ?_) rfl rfl (by kernel_rfl) (by kernel_rfl) (by kernel_rfl) (fun _ _ _ h => h) (by rfl) ?_ (by assumption) ?_; rotate_left 1; (· first | (intro W' hSw; (try dsimp only at hSw); go_simp; done) | (intro W' hSw; (try dsimp only at hSw); go_simp; with_reducible rfl)))
    try simp only [Act.put, List.setIfInBounds_toArray, List.set_cons_zero, List.set_cons_succ]
    refine wpAnyH_done (by kernel_rfl) ?_ _
    go_wp2
    go_ret
    exact ⟨rfl, by repeat (first | with_reducible exact Below.refl _ _ | with_reducible assumption | with_reducible apply bdrew | with_reducible apply bdrew1 | with_reducible apply balloc | (with_reducible apply bchain; (· with_reducible assumption)) | (with_reducible apply bset; rotate_left 1; (· first | (simp; done) | omega)))⟩
end Go.Proofs.Ytmnflfjcfkblbaa
