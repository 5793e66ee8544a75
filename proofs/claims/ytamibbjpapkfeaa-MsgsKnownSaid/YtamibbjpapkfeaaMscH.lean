/-
  The reference's Get of layer 9, called with any octets: what it answers.
  Conditions: at most 1000 octets.
-/
import Derived.Test.YtamibbjpapkfeaaMscG
namespace Go.Proofs.Ytamibbjpapkfeaa
set_option linter.unusedSimpArgs false
set_option linter.unusedVariables false
open Go.RowKit

/-- Are two octets, and what stands behind them, a message, as the reference looks at it? -/
def good (x y : UInt8) (r : List UInt8) : Bool :=
  (spl (x.toNat : Int)).2.2 && (spl (x.toNat : Int)).2.1 && ((y.toNat : Int) / 16 % 4 == 0) &&
  (if ((y.toNat : Int) % 2 == 1) = true then r.length == 0 else r.length == 1 && ((r.getD 0 0).toNat : Int) % 16 == 3)
def rget : List UInt8 → Stat × Int
  | x :: y :: r => if ((y.toNat : Int) % 2 == 1) = true then (if good x y r = true then (mdec x y false 0, 0) else (noStat, 70)) else match r with
    | [] => (noStat, 20)
    | z :: r => if good x y (z :: r) = true then (mdec x y true ((z.toNat : Int) / 16), 0) else (noStat, 70)
  | _ => (noStat, 20)

theorem bit_all (y : UInt8) : ((y.toNat : Int) / 2 % 2 == 1) = bitOf y 1 ∧ ((y.toNat : Int) / 4 % 2 == 1) = bitOf y 2 ∧ ((y.toNat : Int) / 8 % 2 == 1) = bitOf y 3 ∧ ((y.toNat : Int) / 64 % 2 == 1) = bitOf y 6 ∧ ((y.toNat : Int) / 128 == 1) = bitOf y 7 := by
  refine ⟨rfl, rfl, rfl, rfl, ?_⟩
  have hy := y.toNat_lt
  unfold bitOf
  rw [show (2 : Int) ^ 7 = 128 from by decide, Bool.eq_iff_iff]
  simp
  omega

set_option maxRecDepth 100000 in
set_option maxHeartbeats 2000000 in
theorem mscR_Get_a (x y : UInt8) (hl : ([x, y]).length ≤ 1000) (hy : ((y.toNat : Int) % 2 == 1) = true) (w : World) :
    Calls Try.prog 28 #[.string (S ([x, y]))] w fun e w' => e = .returned (.tuple #[statV (rget ([x, y])).1, .int .i64 (rget ([x, y])).2]) ∧ Below w.heap.size w w' := by
  have hx0 := x.toNat_lt
  have hy0 := y.toNat_lt
  have e1 : ((y.toNat : Int) % 2 == 0) = false := by simp at hy; simp; omega
  have hv : rget ([x, y]) = if good x y ([]) = true then (mdec x y false 0, 0) else (noStat, 70) := by simp only [rget, hy]; rfl
  have hg : good x y ([]) = ((spl (x.toNat : Int)).2.2 && (spl (x.toNat : Int)).2.1 && ((y.toNat : Int) / 16 % 4 == 0) && true) := by simp only [good, hy]; simp
  have HV := Lib.hid hv; clear hv
  have HG := Lib.hid hg; clear hg hy
  obtain ⟨b1, b2, b3, b6, b7⟩ := bit_all y
  go_enter Try.func28, Try.ntmps28
  go_wp2_with (go_at_call 46; refine (eaR_Split _ (by omega) (by omega) _).mono ?_; rintro e w' ⟨rfl, rfl⟩)
  all_goals
    rw [HV.out, HG.out]
    first
      | (have hgood : ((spl (x.toNat : Int)).2.2 && (spl (x.toNat : Int)).2.1 && ((y.toNat : Int) / 16 % 4 == 0) && true) = true := by (simp [*]; done)
         rw [hgood]; refine bodyPost_ret (results_cell2 (by rfl) _ _ _ (by rfl) _ (by rfl) _ (run_loadVar_row _ _ _ _ _ _ _ (by repeat (first | with_reducible apply hset | (with_reducible apply hset_ne; (· first | (simp; done) | omega)) | with_reducible apply hdrew | (with_reducible apply hnew; (· first | (simp; done) | omega)) | with_reducible apply halloc | (with_reducible apply hcall; (· with_reducible assumption)) | with_reducible assumption)) (by rfl) (by rfl) (by rfl))) rfl ⟨by rfl, by repeat (first | with_reducible exact Below.refl _ _ | with_reducible assumption | with_reducible apply bdrew | with_reducible apply bdrew1 | with_reducible apply balloc | (with_reducible apply bchain; (· with_reducible assumption)) | (with_reducible apply bset; rotate_left 1; (· first | (simp; done) | omega)))⟩)
      | (have hgood : ((spl (x.toNat : Int)).2.2 && (spl (x.toNat : Int)).2.1 && ((y.toNat : Int) / 16 % 4 == 0) && true) = false := by (simp [*]; done)
         rw [hgood]; refine bodyPost_ret (results_cell2 (by rfl) _ _ _ (by rfl) _ (by rfl) _ (run_loadVar_row _ _ _ _ _ _ _ (by repeat (first | with_reducible apply hset | (with_reducible apply hset_ne; (· first | (simp; done) | omega)) | with_reducible apply hdrew | (with_reducible apply hnew; (· first | (simp; done) | omega)) | with_reducible apply halloc | (with_reducible apply hcall; (· with_reducible assumption)) | with_reducible assumption)) (by rfl) (by rfl) (by rfl))) rfl ⟨by rfl, by repeat (first | with_reducible exact Below.refl _ _ | with_reducible assumption | with_reducible apply bdrew | with_reducible apply bdrew1 | with_reducible apply balloc | (with_reducible apply bchain; (· with_reducible assumption)) | (with_reducible apply bset; rotate_left 1; (· first | (simp; done) | omega)))⟩)

set_option maxRecDepth 100000 in
set_option maxHeartbeats 2000000 in
theorem mscR_Get_b (x y c : UInt8) (r : List UInt8) (hl : (x :: y :: c :: r).length ≤ 1000) (hy : ((y.toNat : Int) % 2 == 1) = true) (w : World) :
    Calls Try.prog 28 #[.string (S (x :: y :: c :: r))] w fun e w' => e = .returned (.tuple #[statV (rget (x :: y :: c :: r)).1, .int .i64 (rget (x :: y :: c :: r)).2]) ∧ Below w.heap.size w w' := by
  have hx0 := x.toNat_lt
  have hy0 := y.toNat_lt
  have e1 : ((y.toNat : Int) % 2 == 0) = false := by simp at hy; simp; omega
  have hv : rget (x :: y :: c :: r) = if good x y (c :: r) = true then (mdec x y false 0, 0) else (noStat, 70) := by simp only [rget, hy]; rfl
  have hg : good x y (c :: r) = ((spl (x.toNat : Int)).2.2 && (spl (x.toNat : Int)).2.1 && ((y.toNat : Int) / 16 % 4 == 0) && false) := by simp only [good, hy]; simp
  have HV := Lib.hid hv; clear hv
  have HG := Lib.hid hg; clear hg hy
  obtain ⟨b1, b2, b3, b6, b7⟩ := bit_all y
  go_enter Try.func28, Try.ntmps28
  go_wp2_with (go_at_call 46; refine (eaR_Split _ (by omega) (by omega) _).mono ?_; rintro e w' ⟨rfl, rfl⟩)
  all_goals
    rw [HV.out, HG.out]
    first
      | (have hgood : ((spl (x.toNat : Int)).2.2 && (spl (x.toNat : Int)).2.1 && ((y.toNat : Int) / 16 % 4 == 0) && false) = true := by (simp [*]; done)
         rw [hgood]; refine bodyPost_ret (results_cell2 (by rfl) _ _ _ (by rfl) _ (by rfl) _ (run_loadVar_row _ _ _ _ _ _ _ (by repeat (first | with_reducible apply hset | (with_reducible apply hset_ne; (· first | (simp; done) | omega)) | with_reducible apply hdrew | (with_reducible apply hnew; (· first | (simp; done) | omega)) | with_reducible apply halloc | (with_reducible apply hcall; (· with_reducible assumption)) | with_reducible assumption)) (by rfl) (by rfl) (by rfl))) rfl ⟨by rfl, by repeat (first | with_reducible exact Below.refl _ _ | with_reducible assumption | with_reducible apply bdrew | with_reducible apply bdrew1 | with_reducible apply balloc | (with_reducible apply bchain; (· with_reducible assumption)) | (with_reducible apply bset; rotate_left 1; (· first | (simp; done) | omega)))⟩)
      | (have hgood : ((spl (x.toNat : Int)).2.2 && (spl (x.toNat : Int)).2.1 && ((y.toNat : Int) / 16 % 4 == 0) && false) = false := by (simp [*]; done)
         rw [hgood]; refine bodyPost_ret (results_cell2 (by rfl) _ _ _ (by rfl) _ (by rfl) _ (run_loadVar_row _ _ _ _ _ _ _ (by repeat (first | with_reducible apply hset | (with_reducible apply hset_ne; (· first | (simp; done) | omega)) | with_reducible apply hdrew | (with_reducible apply hnew; (· first | (simp; done) | omega)) | with_reducible apply halloc | (with_reducible apply hcall; (· with_reducible assumption)) | with_reducible assumption)) (by rfl) (by rfl) (by rfl))) rfl ⟨by rfl, by repeat (first | with_reducible exact Below.refl _ _ | with_reducible assumption | with_reducible apply bdrew | with_reducible apply bdrew1 | with_reducible apply balloc | (with_reducible apply bchain; (· with_reducible assumption)) | (with_reducible apply bset; rotate_left 1; (· first | (simp; done) | omega)))⟩)

set_option maxRecDepth 100000 in
set_option maxHeartbeats 2000000 in
theorem mscR_Get_c (x y z : UInt8) (hl : ([x, y, z]).length ≤ 1000) (hy : ((y.toNat : Int) % 2 == 1) = false) (cz : Bool) (hz : ((z.toNat : Int) % 16 == 3) = cz) (hz' : ((z.toNat : Int) % 16 != 3) = !cz) (w : World) :
    Calls Try.prog 28 #[.string (S ([x, y, z]))] w fun e w' => e = .returned (.tuple #[statV (rget ([x, y, z])).1, .int .i64 (rget ([x, y, z])).2]) ∧ Below w.heap.size w w' := by
  have hx0 := x.toNat_lt
  have hy0 := y.toNat_lt
  have hz0 := z.toNat_lt
  have e1 : ((y.toNat : Int) % 2 == 0) = true := by simp at hy; simp; omega
  have hv : rget ([x, y, z]) = if good x y ([z]) = true then (mdec x y true ((z.toNat : Int) / 16), 0) else (noStat, 70) := by simp only [rget, hy]; rfl
  have hg : good x y ([z]) = ((spl (x.toNat : Int)).2.2 && (spl (x.toNat : Int)).2.1 && ((y.toNat : Int) / 16 % 4 == 0) && ((z.toNat : Int) % 16 == 3)) := by simp only [good, hy]; simp
  rw [hz] at hg; clear hz
  have HV := Lib.hid hv; clear hv
  have HG := Lib.hid hg; clear hg hy
  obtain ⟨b1, b2, b3, b6, b7⟩ := bit_all y
  cases cz
  all_goals
   go_enter Try.func28, Try.ntmps28
   go_wp2_with (go_at_call 46; refine (eaR_Split _ (by omega) (by omega) _).mono ?_; rintro e w' ⟨rfl, rfl⟩)
   all_goals
     rw [HV.out, HG.out]
     first
       | (have hgood : ((spl (x.toNat : Int)).2.2 && (spl (x.toNat : Int)).2.1 && ((y.toNat : Int) / 16 % 4 == 0) && true) = true := by (simp [*]; done)
          rw [hgood]; refine bodyPost_ret (results_cell2 (by rfl) _ _ _ (by rfl) _ (by rfl) _ (run_loadVar_row _ _ _ _ _ _ _ (by repeat (first | with_reducible apply hset | (with_reducible apply hset_ne; (· first | (simp; done) | omega)) | with_reducible apply hdrew | (with_reducible apply hnew; (· first | (simp; done) | omega)) | with_reducible apply halloc | (with_reducible apply hcall; (· with_reducible assumption)) | with_reducible assumption)) (by rfl) (by rfl) (by rfl))) rfl ⟨by rfl, by repeat (first | with_reducible exact Below.refl _ _ | with_reducible assumption | with_reducible apply bdrew | with_reducible apply bdrew1 | with_reducible apply balloc | (with_reducible apply bchain; (· with_reducible assumption)) | (with_reducible apply bset; rotate_left 1; (· first | (simp; done) | omega)))⟩)
       | (have hgood : ((spl (x.toNat : Int)).2.2 && (spl (x.toNat : Int)).2.1 && ((y.toNat : Int) / 16 % 4 == 0) && true) = false := by (simp [*]; done)
          rw [hgood]; refine bodyPost_ret (results_cell2 (by rfl) _ _ _ (by rfl) _ (by rfl) _ (run_loadVar_row _ _ _ _ _ _ _ (by repeat (first | with_reducible apply hset | (with_reducible apply hset_ne; (· first | (simp; done) | omega)) | with_reducible apply hdrew | (with_reducible apply hnew; (· first | (simp; done) | omega)) | with_reducible apply halloc | (with_reducible apply hcall; (· with_reducible assumption)) | with_reducible assumption)) (by rfl) (by rfl) (by rfl))) rfl ⟨by rfl, by repeat (first | with_reducible exact Below.refl _ _ | with_reducible assumption | with_reducible apply bdrew | with_reducible apply bdrew1 | with_reducible apply balloc | (with_reducible apply bchain; (· with_reducible assumption)) | (with_reducible apply bset; rotate_left 1; (· first | (simp; done) | omega)))⟩)
       | (have hgood : ((spl (x.toNat : Int)).2.2 && (spl (x.toNat : Int)).2.1 && ((y.toNat : Int) / 16 % 4 == 0) && false) = false := by (simp [*]; done)
          rw [hgood]; refine bodyPost_ret (results_cell2 (by rfl) _ _ _ (by rfl) _ (by rfl) _ (run_loadVar_row _ _ _ _ _ _ _ (by repeat (first | with_reducible apply hset | (with_reducible apply hset_ne; (· first | (simp; done) | omega)) | with_reducible apply hdrew | (with_reducible apply hnew; (· first | (simp; done) | omega)) | with_reducible apply halloc | (with_reducible apply hcall; (· with_reducible assumption)) | with_reducible assumption)) (by rfl) (by rfl) (by rfl))) rfl ⟨by rfl, by repeat (first | with_reducible exact Below.refl _ _ | with_reducible assumption | with_reducible apply bdrew | with_reducible apply bdrew1 | with_reducible apply balloc | (with_reducible apply bchain; (· with_reducible assumption)) | (with_reducible apply bset; rotate_left 1; (· first | (simp; done) | omega)))⟩)

set_option maxRecDepth 100000 in
set_option maxHeartbeats 2000000 in
theorem mscR_Get_d (x y z c : UInt8) (r : List UInt8) (hl : (x :: y :: z :: c :: r).length ≤ 1000) (hy : ((y.toNat : Int) % 2 == 1) = false) (w : World) :
    Calls Try.prog 28 #[.string (S (x :: y :: z :: c :: r))] w fun e w' => e = .returned (.tuple #[statV (rget (x :: y :: z :: c :: r)).1, .int .i64 (rget (x :: y :: z :: c :: r)).2]) ∧ Below w.heap.size w w' := by
  have hx0 := x.toNat_lt
  have hy0 := y.toNat_lt
  have hz0 := z.toNat_lt
  have e1 : ((y.toNat : Int) % 2 == 0) = true := by simp at hy; simp; omega
  have hv : rget (x :: y :: z :: c :: r) = if good x y (z :: c :: r) = true then (mdec x y true ((z.toNat : Int) / 16), 0) else (noStat, 70) := by simp only [rget, hy]; rfl
  have hg : good x y (z :: c :: r) = ((spl (x.toNat : Int)).2.2 && (spl (x.toNat : Int)).2.1 && ((y.toNat : Int) / 16 % 4 == 0) && false) := by simp only [good, hy]; simp
  have HV := Lib.hid hv; clear hv
  have HG := Lib.hid hg; clear hg hy
  obtain ⟨b1, b2, b3, b6, b7⟩ := bit_all y
  go_enter Try.func28, Try.ntmps28
  go_wp2_with (go_at_call 46; refine (eaR_Split _ (by omega) (by omega) _).mono ?_; rintro e w' ⟨rfl, rfl⟩)
  all_goals
    rw [HV.out, HG.out]
    first
      | (have hgood : ((spl (x.toNat : Int)).2.2 && (spl (x.toNat : Int)).2.1 && ((y.toNat : Int) / 16 % 4 == 0) && false) = true := by (simp [*]; done)
         rw [hgood]; refine bodyPost_ret (results_cell2 (by rfl) _ _ _ (by rfl) _ (by rfl) _ (run_loadVar_row _ _ _ _ _ _ _ (by repeat (first | with_reducible apply hset | (with_reducible apply hset_ne; (· first | (simp; done) | omega)) | with_reducible apply hdrew | (with_reducible apply hnew; (· first | (simp; done) | omega)) | with_reducible apply halloc | (with_reducible apply hcall; (· with_reducible assumption)) | with_reducible assumption)) (by rfl) (by rfl) (by rfl))) rfl ⟨by rfl, by repeat (first | with_reducible exact Below.refl _ _ | with_reducible assumption | with_reducible apply bdrew | with_reducible apply bdrew1 | with_reducible apply balloc | (with_reducible apply bchain; (· with_reducible assumption)) | (with_reducible apply bset; rotate_left 1; (· first | (simp; done) | omega)))⟩)
      | (have hgood : ((spl (x.toNat : Int)).2.2 && (spl (x.toNat : Int)).2.1 && ((y.toNat : Int) / 16 % 4 == 0) && false) = false := by (simp [*]; done)
         rw [hgood]; refine bodyPost_ret (results_cell2 (by rfl) _ _ _ (by rfl) _ (by rfl) _ (run_loadVar_row _ _ _ _ _ _ _ (by repeat (first | with_reducible apply hset | (with_reducible apply hset_ne; (· first | (simp; done) | omega)) | with_reducible apply hdrew | (with_reducible apply hnew; (· first | (simp; done) | omega)) | with_reducible apply halloc | (with_reducible apply hcall; (· with_reducible assumption)) | with_reducible assumption)) (by rfl) (by rfl) (by rfl))) rfl ⟨by rfl, by repeat (first | with_reducible exact Below.refl _ _ | with_reducible assumption | with_reducible apply bdrew | with_reducible apply bdrew1 | with_reducible apply balloc | (with_reducible apply bchain; (· with_reducible assumption)) | (with_reducible apply bset; rotate_left 1; (· first | (simp; done) | omega)))⟩)

set_option maxRecDepth 100000 in
set_option maxHeartbeats 2000000 in
theorem mscR_Get_short (v : List UInt8) (hv : v = [] ∨ (∃ x, v = [x]) ∨ (∃ x y, v = [x, y] ∧ ((y.toNat : Int) % 2 == 1) = false)) (w : World) :
    Calls Try.prog 28 #[.string (S v)] w fun e w' => e = .returned (.tuple #[statV noStat, .int .i64 20]) ∧ Below w.heap.size w w' := by
  rcases hv with rfl | ⟨x, rfl⟩ | ⟨x, y, rfl, hy⟩
  · go_enter Try.func28, Try.ntmps28
    go_wp2
    refine bodyPost_ret (results_cell2 (by rfl) _ _ _ (by rfl) _ (by rfl) _ (run_loadVar_row _ _ _ _ _ _ _ (by repeat (first | with_reducible apply hset | (with_reducible apply hset_ne; (· first | (simp; done) | omega)) | with_reducible apply hdrew | (with_reducible apply hnew; (· first | (simp; done) | omega)) | with_reducible apply halloc | (with_reducible apply hcall; (· with_reducible assumption)) | with_reducible assumption)) (by rfl) (by rfl) (by rfl))) rfl ⟨by rfl, by repeat (first | with_reducible exact Below.refl _ _ | with_reducible assumption | with_reducible apply bdrew | with_reducible apply bdrew1 | with_reducible apply balloc | (with_reducible apply bchain; (· with_reducible assumption)) | (with_reducible apply bset; rotate_left 1; (· first | (simp; done) | omega)))⟩
  · go_enter Try.func28, Try.ntmps28
    go_wp2
    refine bodyPost_ret (results_cell2 (by rfl) _ _ _ (by rfl) _ (by rfl) _ (run_loadVar_row _ _ _ _ _ _ _ (by repeat (first | with_reducible apply hset | (with_reducible apply hset_ne; (· first | (simp; done) | omega)) | with_reducible apply hdrew | (with_reducible apply hnew; (· first | (simp; done) | omega)) | with_reducible apply halloc | (with_reducible apply hcall; (· with_reducible assumption)) | with_reducible assumption)) (by rfl) (by rfl) (by rfl))) rfl ⟨by rfl, by repeat (first | with_reducible exact Below.refl _ _ | with_reducible assumption | with_reducible apply bdrew | with_reducible apply bdrew1 | with_reducible apply balloc | (with_reducible apply bchain; (· with_reducible assumption)) | (with_reducible apply bset; rotate_left 1; (· first | (simp; done) | omega)))⟩
  · have hy0 := y.toNat_lt
    have e1 : ((y.toNat : Int) % 2 == 0) = true := by simp at hy; simp; omega
    clear hy
    go_enter Try.func28, Try.ntmps28
    go_wp2
    refine bodyPost_ret (results_cell2 (by rfl) _ _ _ (by rfl) _ (by rfl) _ (run_loadVar_row _ _ _ _ _ _ _ (by repeat (first | with_reducible apply hset | (with_reducible apply hset_ne; (· first | (simp; done) | omega)) | with_reducible apply hdrew | (with_reducible apply hnew; (· first | (simp; done) | omega)) | with_reducible apply halloc | (with_reducible apply hcall; (· with_reducible assumption)) | with_reducible assumption)) (by rfl) (by rfl) (by rfl))) rfl ⟨by rfl, by repeat (first | with_reducible exact Below.refl _ _ | with_reducible assumption | with_reducible apply bdrew | with_reducible apply bdrew1 | with_reducible apply balloc | (with_reducible apply bchain; (· with_reducible assumption)) | (with_reducible apply bset; rotate_left 1; (· first | (simp; done) | omega)))⟩

theorem mscR_Get (v : List UInt8) (hl : v.length ≤ 1000) (w : World) :
    Calls Try.prog 28 #[.string (S v)] w fun e w' => e = .returned (.tuple #[statV (rget v).1, .int .i64 (rget v).2]) ∧ Below w.heap.size w w' := by
  match v, hl with
  | [], _ => exact mscR_Get_short [] (.inl rfl) w
  | [x], _ => exact mscR_Get_short [x] (.inr (.inl ⟨x, rfl⟩)) w
  | x :: y :: r, hl =>
    rcases hy : ((y.toNat : Int) % 2 == 1) with _ | _
    · match r, hl with
      | [], _ =>
        have hv : rget [x, y] = (noStat, 20) := by simp only [rget, hy]; rfl
        rw [hv]
        exact mscR_Get_short [x, y] (.inr (.inr ⟨x, y, rfl, hy⟩)) w
      | [z], hl => exact mscR_Get_c x y z hl hy _ rfl rfl w
      | z :: c :: r, hl => exact mscR_Get_d x y z c r hl hy w
    · match r, hl with
      | [], hl => exact mscR_Get_a x y hl hy w
      | c :: r, hl => exact mscR_Get_b x y c r hl hy w
end Go.Proofs.Ytamibbjpapkfeaa
