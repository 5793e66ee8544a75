/-
  ConsoleTexts, in plain Lean: bytes written as digits, and read back.
  No condition.
-/
import Derived.Test.YtnncgjhgmmdilaaGreatDoorBase
namespace Go.Proofs.YtnncgjhgmmdilaaGreatDoor
set_option linter.unusedSimpArgs false
set_option linter.unusedVariables false
def hexL : List UInt8 := [48, 49, 50, 51, 52, 53, 54, 55, 56, 57, 97, 98, 99, 100, 101, 102]
def dig (n : Nat) : UInt8 := hexL.getD n 0
def two (b : UInt8) : List UInt8 := [dig (b.toNat / 16), dig (b.toNat % 16)]
/-- Octets, written. -/
def bytesL (s : List UInt8) : List UInt8 := 61 :: s.flatMap two
/-- A digit; -1: it is none. -/
def undig (c : UInt8) : Int := if 48 ≤ c.toNat ∧ c.toNat ≤ 57 then (c.toNat : Int) - 48 else if 97 ≤ c.toNat ∧ c.toNat ≤ 102 then (c.toNat : Int) - 87 else -1
def join2 (h l : UInt8) : UInt8 := UInt8.ofNat (16 * undig h + undig l).toNat
def pairsL : List UInt8 → Option (List UInt8)
  | [] => some []
  | [_] => none
  | h :: l :: r => if undig h < 0 ∨ undig l < 0 then none else (pairsL r).map (join2 h l :: ·)
/-- A word, read. -/
def textL : List UInt8 → List UInt8 × Bool
  | [] => ([], false)
  | c :: r => if c = 61 then (match pairsL r with | some b => (b, true) | none => ([], false)) else ([], false)
theorem all8 {p : UInt8 → Prop} (h : ∀ n : Fin 256, p (UInt8.ofNat n.val)) (b : UInt8) : p b := by
  have := h ⟨b.toNat, b.toNat_lt⟩
  simpa using this
theorem two_back (b : UInt8) : ¬ (undig (dig (b.toNat / 16)) < 0 ∨ undig (dig (b.toNat % 16)) < 0) ∧ join2 (dig (b.toNat / 16)) (dig (b.toNat % 16)) = b :=
  all8 (p := fun b => ¬ (undig (dig (b.toNat / 16)) < 0 ∨ undig (dig (b.toNat % 16)) < 0) ∧ join2 (dig (b.toNat / 16)) (dig (b.toNat % 16)) = b) (by decide +kernel) b
theorem undig_bd (c : UInt8) : -1 ≤ undig c ∧ undig c ≤ 15 := by
  unfold undig; split
  · omega
  · split <;> omega
theorem dig_undig (c : UInt8) (h : ¬ undig c < 0) : dig (undig c).toNat = c := by
  have := all8 (p := fun c => undig c < 0 ∨ dig (undig c).toNat = c) (by decide +kernel) c
  exact this.resolve_left h
theorem two_join {h l : UInt8} (hh : ¬ (undig h < 0 ∨ undig l < 0)) : two (join2 h l) = [h, l] := by
  have b1 := undig_bd h
  have b2 := undig_bd l
  have h1 : ¬ undig h < 0 := fun k => hh (.inl k)
  have h2 : ¬ undig l < 0 := fun k => hh (.inr k)
  have e : (join2 h l).toNat = (16 * undig h + undig l).toNat := by
    unfold join2
    rw [UInt8.toNat_ofNat']
    omega
  unfold two
  rw [e, show (16 * undig h + undig l).toNat / 16 = (undig h).toNat by omega, show (16 * undig h + undig l).toNat % 16 = (undig l).toNat by omega, dig_undig h h1, dig_undig l h2]
theorem pairs_two : ∀ s : List UInt8, pairsL (s.flatMap two) = some s
  | [] => rfl
  | b :: s => by
    obtain ⟨h1, h2⟩ := two_back b
    show pairsL (dig (b.toNat / 16) :: dig (b.toNat % 16) :: s.flatMap two) = _
    rw [pairsL, if_neg h1, pairs_two s, h2]; rfl
theorem two_pairs : ∀ (r : List UInt8) {b : List UInt8}, pairsL r = some b → b.flatMap two = r
  | [], b, h => by cases h; rfl
  | [_], b, h => by cases h
  | c :: d :: r, b, h => by
    rw [pairsL] at h
    split at h
    · cases h
    · rename_i hh
      cases hr : pairsL r with
      | none => rw [hr] at h; cases h
      | some b' =>
        rw [hr] at h
        cases h
        show two (join2 c d) ++ b'.flatMap two = _
        rw [two_join hh, two_pairs r hr]; rfl
theorem text_bytes (s : List UInt8) : textL (bytesL s) = (s, true) := by
  unfold bytesL textL
  simp only [if_true, pairs_two]
theorem bytes_text {s : List UInt8} (h : (textL s).2 = true) : bytesL (textL s).1 = s := by
  match s, h with
  | c :: r, h =>
    unfold textL at h ⊢
    simp only at h ⊢
    by_cases hc : c = 61
    · rw [if_pos hc] at h ⊢
      cases hr : pairsL r with
      | none => rw [hr] at h; cases h
      | some b =>
        show 61 :: b.flatMap two = c :: r
        rw [two_pairs r hr, hc]
    · rw [if_neg hc] at h; cases h
theorem bytes_len (s : List UInt8) : (bytesL s).length = 1 + 2 * s.length := by
  unfold bytesL
  induction s with
  | nil => rfl
  | cons b s ih => simp only [List.flatMap_cons, List.length_cons, List.length_append, two, List.length_nil] at *; omega
theorem pairs_len : ∀ (r : List UInt8) {b : List UInt8}, pairsL r = some b → 2 * b.length = r.length
  | [], b, h => by cases h; rfl
  | [_], b, h => by cases h
  | c :: d :: r, b, h => by
    rw [pairsL] at h
    split at h
    · cases h
    · cases hr : pairsL r with
      | none => rw [hr] at h; cases h
      | some b' =>
        rw [hr] at h; cases h
        have := pairs_len r hr
        simp only [List.length_cons]; omega
theorem pairs_odd : ∀ (r : List UInt8), r.length % 2 = 1 → pairsL r = none
  | [], h => by simp at h
  | [_], _ => rfl
  | c :: d :: r, h => by
    rw [pairsL]
    split
    · rfl
    · rw [pairs_odd r (by simp only [List.length_cons] at h; omega)]; rfl
/-- What was read so far, and what is left. -/
theorem pairs_split : ∀ (a r : List UInt8), a.length % 2 = 0 → pairsL (a ++ r) = (pairsL a).bind fun b => (pairsL r).map (b ++ ·)
  | [], r, _ => by
    show pairsL r = (pairsL r).map _
    cases pairsL r <;> rfl
  | [_], r, h => by simp at h
  | c :: d :: a, r, h => by
    show pairsL (c :: d :: (a ++ r)) = _
    rw [pairsL, pairsL]
    split
    · rfl
    · rw [pairs_split a r (by simp only [List.length_cons] at h; omega)]
      cases pairsL a with
      | none => rfl
      | some b => cases pairsL r <;> rfl
end Go.Proofs.YtnncgjhgmmdilaaGreatDoor
