/-
  What is got of octets by the program is what is got by the reference.
  No condition.
-/
import Derived.Test.YtamibbjpapkfeaaMscH
namespace Go.Proofs.Ytamibbjpapkfeaa
set_option linter.unusedSimpArgs false
set_option linter.unusedVariables false
open Go.RowKit

theorem all_byte {p : UInt8 → Prop} (h : ∀ n : Fin 256, p (UInt8.ofNat n.val)) (y : UInt8) : p y := by
  have := h ⟨y.toNat, y.toNat_lt⟩
  simpa using this

theorem put_a (x : UInt8) : (b8 (adr (spl (x.toNat : Int)).1 true) == x) = ((spl (x.toNat : Int)).2.2 && (spl (x.toNat : Int)).2.1) :=
  all_byte (p := fun x => (b8 (adr (spl (x.toNat : Int)).1 true) == x) = ((spl (x.toNat : Int)).2.2 && (spl (x.toNat : Int)).2.1)) (by decide +kernel) x
theorem put_d (x : UInt8) : ¬ 63 < (spl (x.toNat : Int)).1 :=
  all_byte (p := fun x => ¬ 63 < (spl (x.toNat : Int)).1) (by decide +kernel) x
theorem put_m (y : UInt8) (h : ((y.toNat : Int) % 2 == 1) = true) : (b8 (1 + bitI (bitOf y 1) 2 + bitI (bitOf y 2) 4 + bitI (bitOf y 3) 8 + bitI (bitOf y 6) 64 + bitI (bitOf y 7) 128) == y) = ((y.toNat : Int) / 16 % 4 == 0) :=
  all_byte (p := fun y => ((y.toNat : Int) % 2 == 1) = true → (b8 (1 + bitI (bitOf y 1) 2 + bitI (bitOf y 2) 4 + bitI (bitOf y 3) 8 + bitI (bitOf y 6) 64 + bitI (bitOf y 7) 128) == y) = ((y.toNat : Int) / 16 % 4 == 0)) (by decide +kernel) y h
theorem put_n (y : UInt8) (h : ((y.toNat : Int) % 2 == 1) = false) : (b8 (1 + bitI (bitOf y 1) 2 + bitI (bitOf y 2) 4 + bitI (bitOf y 3) 8 + bitI (bitOf y 6) 64 + bitI (bitOf y 7) 128 - 1) == y) = ((y.toNat : Int) / 16 % 4 == 0) :=
  all_byte (p := fun y => ((y.toNat : Int) % 2 == 1) = false → (b8 (1 + bitI (bitOf y 1) 2 + bitI (bitOf y 2) 4 + bitI (bitOf y 3) 8 + bitI (bitOf y 6) 64 + bitI (bitOf y 7) 128 - 1) == y) = ((y.toNat : Int) / 16 % 4 == 0)) (by decide +kernel) y h
theorem put_z (z : UInt8) : (b8 (3 + 16 * ((z.toNat : Int) / 16)) == z) = ((z.toNat : Int) % 16 == 3) :=
  all_byte (p := fun z => (b8 (3 + 16 * ((z.toNat : Int) / 16)) == z) = ((z.toNat : Int) % 16 == 3)) (by decide +kernel) z

theorem mget_rget (v : List UInt8) : mget v = rget v := by
  match v with
  | [] => rfl
  | [_] => rfl
  | x :: y :: r =>
    have hd := put_d x
    rcases hy : ((y.toNat : Int) % 2 == 1) with _ | _
    · match r with
      | [] => simp only [mget, rget, hy, Bool.false_eq_true, if_false]
      | z :: r =>
        have hz0 := z.toNat_lt
        have hp : (mput (mdec x y true ((z.toNat : Int) / 16))).1 = [b8 (adr (spl (x.toNat : Int)).1 true), b8 (1 + bitI (bitOf y 1) 2 + bitI (bitOf y 2) 4 + bitI (bitOf y 3) 8 + bitI (bitOf y 6) 64 + bitI (bitOf y 7) 128 - 1), b8 (3 + 16 * ((z.toNat : Int) / 16))] := by
          unfold mput
          rw [if_neg (by simp [mdec, hd]; omega), if_pos (by rfl)]
          rfl
        have hg : ((mput (mdec x y true ((z.toNat : Int) / 16))).1 == x :: y :: z :: r) = good x y (z :: r) := by
          rw [hp]
          simp only [List.cons_beq_cons, put_a, put_n y hy, put_z, good, hy]
          cases r <;> simp [Bool.and_assoc]
        simp only [mget, rget, hy, chk, hg, Bool.false_eq_true, if_false, if_true]
    · have hp : (mput (mdec x y false 0)).1 = [b8 (adr (spl (x.toNat : Int)).1 true), b8 (1 + bitI (bitOf y 1) 2 + bitI (bitOf y 2) 4 + bitI (bitOf y 3) 8 + bitI (bitOf y 6) 64 + bitI (bitOf y 7) 128)] := by
        unfold mput
        rw [if_neg (by simp [mdec, hd]), if_neg (by simp [mdec])]
        rfl
      have hg : ((mput (mdec x y false 0)).1 == x :: y :: r) = good x y r := by
        rw [hp]
        simp only [List.cons_beq_cons, put_a, put_m y hy, good, hy]
        cases r <;> simp [Bool.and_assoc]
      simp only [mget, rget, hy, chk, hg, Bool.false_eq_true, if_false, if_true]
end Go.Proofs.Ytamibbjpapkfeaa
