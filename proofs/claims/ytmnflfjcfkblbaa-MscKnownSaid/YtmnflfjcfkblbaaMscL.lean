/-
  The laws of layer 9 (msc), called: each returns true and makes at most new blocks.
  Conditions: arguments as the model reads them.
-/
import Derived.Test.YtmnflfjcfkblbaaMscP
import Derived.Test.YtmnflfjcfkblbaaMscR
namespace Go.Proofs.Ytmnflfjcfkblbaa
set_option linter.unusedSimpArgs false
set_option linter.unusedVariables false
open Go.RowKit

set_option maxHeartbeats 1000000 in
theorem mscL_ref (d : Int) (fc rtc rtr ic dv hb : Bool) (br : Int) (w : World) :
    Calls Try.prog 23 #[.agg #[.int .u8 d, .bool fc, .bool rtc, .bool rtr, .bool ic, .bool dv, .bool hb, .int .u8 br]] w fun e w' => e = .returned (.agg #[.int .u8 d, .bool fc, .bool rtc, .bool rtr, .bool ic, .bool dv, .bool hb, .int .u8 br]) ∧ Below w.heap.size w w' := by
  go_enter Try.func23, Try.ntmps23
  go_wp2
  refine bodyPost_ret (results_cell1 (by rfl) _ _ _ (by rfl) _ (run_loadVar_row _ _ _ _ _ _ _ (by repeat (first | with_reducible apply hset | (with_reducible apply hset_ne; (· first | (simp; done) | omega)) | with_reducible apply hdrew | (with_reducible apply hnew; (· first | (simp; done) | omega)) | with_reducible apply halloc | (with_reducible apply hcall; (· with_reducible assumption)) | with_reducible assumption)) (by rfl) (by rfl) (by rfl))) rfl ⟨by rfl, by repeat (first | with_reducible exact Below.refl _ _ | with_reducible assumption | with_reducible apply bdrew | with_reducible apply bdrew1 | with_reducible apply balloc | (with_reducible apply bchain; (· with_reducible assumption)) | (with_reducible apply bset; rotate_left 1; (· first | (simp; done) | omega)))⟩

theorem msc_Put (d : Int) (fc rtc rtr ic dv hb : Bool) (br : Int) (d0 : 0 ≤ d) (d1 : d ≤ 255) (b0 : 0 ≤ br) (b1 : br ≤ 255) (w : World) :
    Calls Try.prog 21 #[.agg #[.int .u8 d, .bool fc, .bool rtc, .bool rtr, .bool ic, .bool dv, .bool hb, .int .u8 br]] w fun e w' => e = .returned (.tuple #[.string (S (mput ⟨d, fc, rtc, rtr, ic, dv, hb, br⟩).1), .int .i64 (mput ⟨d, fc, rtc, rtr, ic, dv, hb, br⟩).2]) ∧ Below w.heap.size w w' := by
  cases hb
  · exact msc_Put0 d fc rtc rtr ic dv br d0 d1 b0 b1 w
  · exact msc_Put1 d fc rtc rtr ic dv br d0 d1 b0 b1 w

set_option maxHeartbeats 1000000 in
theorem msc_works (w : World) : Calls Try.prog 26 #[] w fun e w' => e = .returned (.bool true) ∧ Below w.heap.size w w' := by
  have p1 : mput ⟨1, false, true, true, false, true, false, 0⟩ = ([7, 141], 0) := by decide +kernel
  have p2 : mput ⟨2, true, false, false, false, false, true, 5⟩ = ([11, 2, 83], 0) := by decide +kernel
  have g1 : (mget [7]).2 = 20 := by decide +kernel
  have g2 : (mget [7, 143, 1]).2 = 70 := by decide +kernel
  have g3 : (mget [7, 141]) = (⟨1, false, true, true, false, true, false, 0⟩, 0) := by rfl
  go_enter Try.func26, Try.ntmps26
  go_wp2_with (first
    | (go_at_call 21; refine (msc_Put _ _ _ _ _ _ _ _ (by decide) (by decide) (by decide) (by decide) _).mono ?_; rintro e w1 ⟨rfl, hb1⟩)
    | (go_at_call 27; refine (msc_Get _ (by decide) _).mono ?_; rintro e w1 ⟨rfl, hb1⟩))
  go_ret
  exact ⟨rfl, by repeat (first | with_reducible exact Below.refl _ _ | with_reducible assumption | with_reducible apply bdrew | with_reducible apply bdrew1 | with_reducible apply balloc | (with_reducible apply bchain; (· with_reducible assumption)) | (with_reducible apply bset; rotate_left 1; (· first | (simp; done) | omega)))⟩
end Go.Proofs.Ytmnflfjcfkblbaa
