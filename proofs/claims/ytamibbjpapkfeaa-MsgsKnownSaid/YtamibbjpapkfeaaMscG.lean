/-
  Get of layer 9, called with any octets: what it answers.
  Conditions: at most as many octets as the model has.
-/
import Derived.Test.YtamibbjpapkfeaaMscW
import Derived.Test.YtamibbjpapkfeaaMore
namespace Go.Proofs.Ytamibbjpapkfeaa
set_option linter.unusedSimpArgs false
set_option linter.unusedVariables false
open Go.RowKit

/-- Bit k of an octet. -/
def bitOf (y : UInt8) (k : Nat) : Bool := (y.toNat : Int) / 2 ^ k % 2 == 1
theorem and_bit (y : UInt8) (k : Nat) (hk : k < 8) : (bits .and .u8 ((y.toNat : Int) / 2 ^ k) 1 == 1) = bitOf y k := by
  have h : ∀ j : Fin 8, ∀ n : Fin 256, (bits .and .u8 ((n.val : Int) / 2 ^ j.val) 1 == 1) = ((n.val : Int) / 2 ^ j.val % 2 == 1) := by decide +kernel
  exact h ⟨k, hk⟩ ⟨y.toNat, y.toNat_lt⟩

theorem msc_has (k : Int) (hk : k = 1 ∨ k = 2 ∨ k = 3 ∨ k = 6 ∨ k = 7) (b : Nat) (x y : UInt8) (r : List UInt8) (w : World) (hc : w.cell? ⟨b, 0, none⟩ = some (.string (S (x :: y :: r)))) :
    Calls Try.prog 41 #[.int .i64 k, .pointer (some ⟨b, 0, none⟩)] w fun e w' => e = .returned (.bool (bitOf y k.toNat)) ∧ w = w' := by
  have hy := y.toNat_lt
  rcases hk with rfl | rfl | rfl | rfl | rfl
  · have e1 : (bits .and .u8 ((y.toNat : Int) / 2) 1 == 1) = bitOf y 1 := and_bit y 1 (by decide)
    go_enter Try.func41, Try.ntmps41
    go_wp2
    go_ret
    exact ⟨rfl, rfl⟩
  · have e1 : (bits .and .u8 ((y.toNat : Int) / 4) 1 == 1) = bitOf y 2 := and_bit y 2 (by decide)
    go_enter Try.func41, Try.ntmps41
    go_wp2
    go_ret
    exact ⟨rfl, rfl⟩
  · have e1 : (bits .and .u8 ((y.toNat : Int) / 8) 1 == 1) = bitOf y 3 := and_bit y 3 (by decide)
    go_enter Try.func41, Try.ntmps41
    go_wp2
    go_ret
    exact ⟨rfl, rfl⟩
  · have e1 : (bits .and .u8 ((y.toNat : Int) / 64) 1 == 1) = bitOf y 6 := and_bit y 6 (by decide)
    go_enter Try.func41, Try.ntmps41
    go_wp2
    go_ret
    exact ⟨rfl, rfl⟩
  · have e1 : (bits .and .u8 ((y.toNat : Int) / 128) 1 == 1) = bitOf y 7 := and_bit y 7 (by decide)
    go_enter Try.func41, Try.ntmps41
    go_wp2
    go_ret
    exact ⟨rfl, rfl⟩

/-- What two octets say, and a break's length. -/
def mdec (x y : UInt8) (hb : Bool) (z : Int) : Stat := ⟨(spl (x.toNat : Int)).1, bitOf y 1, bitOf y 2, bitOf y 3, bitOf y 6, bitOf y 7, hb, z⟩
def chk (v : List UInt8) (s : Stat) : Stat × Int := if ((mput s).1 == v) = true then (s, 0) else (⟨0, false, false, false, false, false, false, 0⟩, 70)
abbrev noStat : Stat := ⟨0, false, false, false, false, false, false, 0⟩
/-- What is got of octets, and the error. -/
def mget : List UInt8 → Stat × Int
  | x :: y :: r => if ((y.toNat : Int) % 2 == 1) = true then chk (x :: y :: r) (mdec x y false 0) else match r with
    | [] => (noStat, 20)
    | z :: r => chk (x :: y :: z :: r) (mdec x y true ((z.toNat : Int) / 16))
  | _ => (noStat, 20)
abbrev statV (s : Stat) : Value := .agg #[.int .u8 s.d, .bool s.fc, .bool s.rtc, .bool s.rtr, .bool s.ic, .bool s.dv, .bool s.hb, .int .u8 s.br]

theorem spl_bd (a : Int) (h0 : 0 ≤ a) (h1 : a ≤ 255) : 0 ≤ (spl a).1 ∧ (spl a).1 ≤ 255 := by
  unfold spl; split <;> simp <;> omega
theorem and1e (x : UInt8) (c : Bool) (h : ((x.toNat : Int) % 2 == 1) = c) : (bits .and .u8 (x.toNat : Int) 1 == 0) = !c := by
  rw [and1, ← h, Bool.eq_iff_iff]; simp; omega

set_option maxRecDepth 100000 in
set_option maxHeartbeats 2000000 in
theorem msc_Get_long (x y z : UInt8) (r : List UInt8) (hl : (x :: y :: z :: r).length ≤ 1000) (hy : ((y.toNat : Int) % 2 == 1) = false) (w : World) :
    Calls Try.prog 24 #[.string (S (x :: y :: z :: r))] w fun e w' => e = .returned (.tuple #[statV (mget (x :: y :: z :: r)).1, .int .i64 (mget (x :: y :: z :: r)).2]) ∧ Below w.heap.size w w' := by
  have hx0 := x.toNat_lt
  have hy0 := y.toNat_lt
  have hz0 := z.toNat_lt
  obtain ⟨s0, s1⟩ := spl_bd (x.toNat : Int) (by omega) (by omega)
  have e1 := and1e y _ hy
  have hv : mget (x :: y :: z :: r) = chk (x :: y :: z :: r) (mdec x y true ((z.toNat : Int) / 16)) := by simp only [mget, hy]; rfl
  rw [hv]; clear hv hy
  rcases hq : ((mput (mdec x y true ((z.toNat : Int) / 16))).1 == x :: y :: z :: r) with _ | _
  · have hv : chk (x :: y :: z :: r) (mdec x y true ((z.toNat : Int) / 16)) = (noStat, 70) := by simp only [chk, hq]; rfl
    rw [hv]; clear hv
    unfold mdec at hq
    go_enter Try.func24, Try.ntmps24
    go_wp2_with (first
      | (go_at_call 40; refine (ea_Split _ (by omega) (by omega) _).mono ?_; rintro e w' ⟨rfl, rfl⟩)
      | (go_at_call 41; refine (msc_has _ (by decide) _ x y (z :: r) _ (by go_simp)).mono ?_; rintro e w' ⟨rfl, rfl⟩)
      | (go_at_call 42; refine (msc_Put1 _ _ _ _ _ _ _ s0 s1 (by omega) (by omega) _).mono ?_; rintro e w1 ⟨rfl, hb1⟩; obtain ⟨hc1, hf1⟩ := bcell hb1; have hz1 := hb1.size))
    refine bodyPost_ret (results_cell2 (by rfl) _ _ _ (by rfl) _ (by rfl) _ (run_loadVar_row _ _ _ _ _ _ _ (by repeat (first | with_reducible apply hset | (with_reducible apply hset_ne; (· first | (simp; done) | omega)) | with_reducible apply hdrew | (with_reducible apply hnew; (· first | (simp; done) | omega)) | with_reducible apply halloc | (with_reducible apply hcall; (· with_reducible assumption)) | with_reducible assumption)) (by rfl) (by rfl) (by rfl))) rfl ⟨by rfl, by repeat (first | with_reducible exact Below.refl _ _ | with_reducible assumption | with_reducible apply bdrew | with_reducible apply bdrew1 | with_reducible apply balloc | (with_reducible apply bchain; (· with_reducible assumption)) | (with_reducible apply bset; rotate_left 1; (· first | (simp; done) | omega)))⟩
  · have hv : chk (x :: y :: z :: r) (mdec x y true ((z.toNat : Int) / 16)) = (mdec x y true ((z.toNat : Int) / 16), 0) := by simp only [chk, hq]; rfl
    rw [hv]; clear hv
    unfold mdec at hq ⊢
    go_enter Try.func24, Try.ntmps24
    go_wp2_with (first
      | (go_at_call 40; refine (ea_Split _ (by omega) (by omega) _).mono ?_; rintro e w' ⟨rfl, rfl⟩)
      | (go_at_call 41; refine (msc_has _ (by decide) _ x y (z :: r) _ (by go_simp)).mono ?_; rintro e w' ⟨rfl, rfl⟩)
      | (go_at_call 42; refine (msc_Put1 _ _ _ _ _ _ _ s0 s1 (by omega) (by omega) _).mono ?_; rintro e w1 ⟨rfl, hb1⟩; obtain ⟨hc1, hf1⟩ := bcell hb1; have hz1 := hb1.size))
    refine bodyPost_ret (results_cell2 (by rfl) _ _ _ (by rfl) _ (by rfl) _ (run_loadVar_row _ _ _ _ _ _ _ (by repeat (first | with_reducible apply hset | (with_reducible apply hset_ne; (· first | (simp; done) | omega)) | with_reducible apply hdrew | (with_reducible apply hnew; (· first | (simp; done) | omega)) | with_reducible apply halloc | (with_reducible apply hcall; (· with_reducible assumption)) | with_reducible assumption)) (by rfl) (by rfl) (by rfl))) rfl ⟨by rfl, by repeat (first | with_reducible exact Below.refl _ _ | with_reducible assumption | with_reducible apply bdrew | with_reducible apply bdrew1 | with_reducible apply balloc | (with_reducible apply bchain; (· with_reducible assumption)) | (with_reducible apply bset; rotate_left 1; (· first | (simp; done) | omega)))⟩

set_option maxRecDepth 100000 in
set_option maxHeartbeats 2000000 in
theorem msc_Get_two (x y : UInt8) (r : List UInt8) (hl : (x :: y :: r).length ≤ 1000) (hy : ((y.toNat : Int) % 2 == 1) = true) (w : World) :
    Calls Try.prog 24 #[.string (S (x :: y :: r))] w fun e w' => e = .returned (.tuple #[statV (mget (x :: y :: r)).1, .int .i64 (mget (x :: y :: r)).2]) ∧ Below w.heap.size w w' := by
  have hx0 := x.toNat_lt
  have hy0 := y.toNat_lt
  obtain ⟨s0, s1⟩ := spl_bd (x.toNat : Int) (by omega) (by omega)
  have e1 := and1e y _ hy
  have hv : mget (x :: y :: r) = chk (x :: y :: r) (mdec x y false (0)) := by simp only [mget, hy]; rfl
  rw [hv]; clear hv hy
  rcases hq : ((mput (mdec x y false (0))).1 == x :: y :: r) with _ | _
  · have hv : chk (x :: y :: r) (mdec x y false (0)) = (noStat, 70) := by simp only [chk, hq]; rfl
    rw [hv]; clear hv
    unfold mdec at hq
    go_enter Try.func24, Try.ntmps24
    go_wp2_with (first
      | (go_at_call 40; refine (ea_Split _ (by omega) (by omega) _).mono ?_; rintro e w' ⟨rfl, rfl⟩)
      | (go_at_call 41; refine (msc_has _ (by decide) _ x y r _ (by go_simp)).mono ?_; rintro e w' ⟨rfl, rfl⟩)
      | (go_at_call 42; refine (msc_Put0 _ _ _ _ _ _ _ s0 s1 (by omega) (by omega) _).mono ?_; rintro e w1 ⟨rfl, hb1⟩; obtain ⟨hc1, hf1⟩ := bcell hb1; have hz1 := hb1.size))
    refine bodyPost_ret (results_cell2 (by rfl) _ _ _ (by rfl) _ (by rfl) _ (run_loadVar_row _ _ _ _ _ _ _ (by repeat (first | with_reducible apply hset | (with_reducible apply hset_ne; (· first | (simp; done) | omega)) | with_reducible apply hdrew | (with_reducible apply hnew; (· first | (simp; done) | omega)) | with_reducible apply halloc | (with_reducible apply hcall; (· with_reducible assumption)) | with_reducible assumption)) (by rfl) (by rfl) (by rfl))) rfl ⟨by rfl, by repeat (first | with_reducible exact Below.refl _ _ | with_reducible assumption | with_reducible apply bdrew | with_reducible apply bdrew1 | with_reducible apply balloc | (with_reducible apply bchain; (· with_reducible assumption)) | (with_reducible apply bset; rotate_left 1; (· first | (simp; done) | omega)))⟩
  · have hv : chk (x :: y :: r) (mdec x y false (0)) = (mdec x y false (0), 0) := by simp only [chk, hq]; rfl
    rw [hv]; clear hv
    unfold mdec at hq ⊢
    go_enter Try.func24, Try.ntmps24
    go_wp2_with (first
      | (go_at_call 40; refine (ea_Split _ (by omega) (by omega) _).mono ?_; rintro e w' ⟨rfl, rfl⟩)
      | (go_at_call 41; refine (msc_has _ (by decide) _ x y r _ (by go_simp)).mono ?_; rintro e w' ⟨rfl, rfl⟩)
      | (go_at_call 42; refine (msc_Put0 _ _ _ _ _ _ _ s0 s1 (by omega) (by omega) _).mono ?_; rintro e w1 ⟨rfl, hb1⟩; obtain ⟨hc1, hf1⟩ := bcell hb1; have hz1 := hb1.size))
    refine bodyPost_ret (results_cell2 (by rfl) _ _ _ (by rfl) _ (by rfl) _ (run_loadVar_row _ _ _ _ _ _ _ (by repeat (first | with_reducible apply hset | (with_reducible apply hset_ne; (· first | (simp; done) | omega)) | with_reducible apply hdrew | (with_reducible apply hnew; (· first | (simp; done) | omega)) | with_reducible apply halloc | (with_reducible apply hcall; (· with_reducible assumption)) | with_reducible assumption)) (by rfl) (by rfl) (by rfl))) rfl ⟨by rfl, by repeat (first | with_reducible exact Below.refl _ _ | with_reducible assumption | with_reducible apply bdrew | with_reducible apply bdrew1 | with_reducible apply balloc | (with_reducible apply bchain; (· with_reducible assumption)) | (with_reducible apply bset; rotate_left 1; (· first | (simp; done) | omega)))⟩

set_option maxRecDepth 100000 in
set_option maxHeartbeats 2000000 in
theorem msc_Get_short (v : List UInt8) (hv : v = [] ∨ (∃ x, v = [x]) ∨ (∃ x y, v = [x, y] ∧ ((y.toNat : Int) % 2 == 1) = false)) (w : World) :
    Calls Try.prog 24 #[.string (S v)] w fun e w' => e = .returned (.tuple #[statV noStat, .int .i64 20]) ∧ Below w.heap.size w w' := by
  rcases hv with rfl | ⟨x, rfl⟩ | ⟨x, y, rfl, hy⟩
  · go_enter Try.func24, Try.ntmps24
    go_wp2
    refine bodyPost_ret (results_cell2 (by rfl) _ _ _ (by rfl) _ (by rfl) _ (run_loadVar_row _ _ _ _ _ _ _ (by repeat (first | with_reducible apply hset | (with_reducible apply hset_ne; (· first | (simp; done) | omega)) | with_reducible apply hdrew | (with_reducible apply hnew; (· first | (simp; done) | omega)) | with_reducible apply halloc | (with_reducible apply hcall; (· with_reducible assumption)) | with_reducible assumption)) (by rfl) (by rfl) (by rfl))) rfl ⟨by rfl, by repeat (first | with_reducible exact Below.refl _ _ | with_reducible assumption | with_reducible apply bdrew | with_reducible apply bdrew1 | with_reducible apply balloc | (with_reducible apply bchain; (· with_reducible assumption)) | (with_reducible apply bset; rotate_left 1; (· first | (simp; done) | omega)))⟩
  · go_enter Try.func24, Try.ntmps24
    go_wp2
    refine bodyPost_ret (results_cell2 (by rfl) _ _ _ (by rfl) _ (by rfl) _ (run_loadVar_row _ _ _ _ _ _ _ (by repeat (first | with_reducible apply hset | (with_reducible apply hset_ne; (· first | (simp; done) | omega)) | with_reducible apply hdrew | (with_reducible apply hnew; (· first | (simp; done) | omega)) | with_reducible apply halloc | (with_reducible apply hcall; (· with_reducible assumption)) | with_reducible assumption)) (by rfl) (by rfl) (by rfl))) rfl ⟨by rfl, by repeat (first | with_reducible exact Below.refl _ _ | with_reducible assumption | with_reducible apply bdrew | with_reducible apply bdrew1 | with_reducible apply balloc | (with_reducible apply bchain; (· with_reducible assumption)) | (with_reducible apply bset; rotate_left 1; (· first | (simp; done) | omega)))⟩
  · have hy0 := y.toNat_lt
    have e1 := and1e y _ hy
    clear hy
    go_enter Try.func24, Try.ntmps24
    go_wp2
    refine bodyPost_ret (results_cell2 (by rfl) _ _ _ (by rfl) _ (by rfl) _ (run_loadVar_row _ _ _ _ _ _ _ (by repeat (first | with_reducible apply hset | (with_reducible apply hset_ne; (· first | (simp; done) | omega)) | with_reducible apply hdrew | (with_reducible apply hnew; (· first | (simp; done) | omega)) | with_reducible apply halloc | (with_reducible apply hcall; (· with_reducible assumption)) | with_reducible assumption)) (by rfl) (by rfl) (by rfl))) rfl ⟨by rfl, by repeat (first | with_reducible exact Below.refl _ _ | with_reducible assumption | with_reducible apply bdrew | with_reducible apply bdrew1 | with_reducible apply balloc | (with_reducible apply bchain; (· with_reducible assumption)) | (with_reducible apply bset; rotate_left 1; (· first | (simp; done) | omega)))⟩

theorem msc_Get (v : List UInt8) (hl : v.length ≤ 1000) (w : World) :
    Calls Try.prog 24 #[.string (S v)] w fun e w' => e = .returned (.tuple #[statV (mget v).1, .int .i64 (mget v).2]) ∧ Below w.heap.size w w' := by
  match v, hl with
  | [], _ => exact msc_Get_short [] (.inl rfl) w
  | [x], _ => exact msc_Get_short [x] (.inr (.inl ⟨x, rfl⟩)) w
  | x :: y :: r, hl =>
    rcases hy : ((y.toNat : Int) % 2 == 1) with _ | _
    · match r, hl with
      | [], _ =>
        have hv : mget [x, y] = (noStat, 20) := by simp only [mget, hy]; rfl
        rw [hv]
        exact msc_Get_short [x, y] (.inr (.inr ⟨x, y, rfl, hy⟩)) w
      | z :: r, hl => exact msc_Get_long x y z r hl hy w
    · exact msc_Get_two x y r hl hy w
end Go.Proofs.Ytamibbjpapkfeaa
