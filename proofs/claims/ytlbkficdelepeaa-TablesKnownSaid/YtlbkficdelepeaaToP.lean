/-
  TablesOther, in plain terms: the rows that are handed to Accepts, and where the judge refuses.
  Conditions: as each theorem tells.
-/
import Derived.Test.YtlbkficdelepeaaToR
namespace Go.Proofs.Ytlbkficdelepeaa.Ab
set_option linter.unusedSimpArgs false
set_option linter.unusedVariables false
open Go
set_option linter.unusedSectionVars false
noncomputable section
/-- Rows that begin alike. -/
theorem seqC_pre {A B : List (List Dat)} {n2 : Int} : ∀ k, (∀ j, j < k → A.getD j [] = B.getD j []) → seqC A n2 k = seqC B n2 k
  | 0, _ => rfl
  | k + 1, h => by
    show cNext (seqC A n2 k) (A.getD k []) = cNext (seqC B n2 k) (B.getD k [])
    rw [seqC_pre k fun j hj => h j (by omega), h k (by omega)]
theorem dI_8 {d : Dat} (h : d.asI = 8) : d = .dI 8 := by
  cases d with
  | dI n => exact congrArg Dat.dI h
  | _ => exact absurd (show (0 : Int) = 8 from h) (by decide)
/-- What Accepts finds: m events are right, the next one is not. -/
structure StopAt (A : List (List Dat)) (n2 : Int) (m : Nat) : Prop where
  lt : m < A.length
  rows : RowsE A
  acc : ∀ j, j < m → (Jm (seqC A n2 j) (A.getD j []) 0).asB = true
  no : (Jm (seqC A n2 m) (A.getD m []) 0).asB = false
section
variable {TR : List (List Dat)} {n2 : Int} {i : Nat}
def rowsOdd (TR : List (List Dat)) (i : Nat) (x : List Dat) : List (List Dat) := (TR.take i ++ [x]) ++ TR.drop i
theorem odd_lo (hi : i ≤ TR.length) (x : List Dat) {j : Nat} (h : j < i) : (rowsOdd TR i x).getD j [] = TR.getD j [] := by
  unfold rowsOdd
  rw [List.getD_eq_getElem?_getD, List.getElem?_append_left (by simp; omega), List.getElem?_append_left (by simp; omega), List.getElem?_take_of_lt h, ← List.getD_eq_getElem?_getD]
theorem odd_at (hi : i ≤ TR.length) (x : List Dat) : (rowsOdd TR i x).getD i [] = x := by
  have e : (TR.take i).length = i := by simp; omega
  unfold rowsOdd
  rw [List.getD_eq_getElem?_getD, List.getElem?_append_left (by simp; omega), List.getElem?_append_right (by omega), e, Nat.sub_self]
  rfl
theorem odd_hi (hi : i ≤ TR.length) (x : List Dat) {j : Nat} (h : i < j) : (rowsOdd TR i x).getD j [] = TR.getD (j - 1) [] := by
  have e : (TR.take i ++ [x]).length = i + 1 := by simp; omega
  unfold rowsOdd
  rw [List.getD_eq_getElem?_getD, List.getElem?_append_right (by omega), e, List.getElem?_drop, show i + (j - (i + 1)) = j - 1 by omega, ← List.getD_eq_getElem?_getD]
theorem odd_len (hi : i ≤ TR.length) (x : List Dat) : (rowsOdd TR i x).length = TR.length + 1 := by
  unfold rowsOdd; simp; omega
theorem odd_stop (hR : RowsE TR) (ha : ∀ j, j < TR.length → (Jm (seqC TR n2 j) (TR.getD j []) 0).asB = true) (hi : i ≤ TR.length) {k : Int} (h1 : 1 ≤ k) (h4 : k ≤ 4) (hr : ((seqC TR n2 i).getD 4 (.dI 0)).asI ≠ k) (hm : ((seqC TR n2 i).getD 6 (.dI 0)).asI ≠ k) (a b : Bool) : StopAt (rowsOdd TR i (oddR a b k)) n2 i := by
  have pre : ∀ m, m ≤ i → seqC (rowsOdd TR i (oddR a b k)) n2 m = seqC TR n2 m := fun m hm => seqC_pre m fun j hj => odd_lo hi _ (by omega)
  refine ⟨by rw [odd_len hi]; omega, fun j hj => ?_, fun j hj => ?_, ?_⟩
  · rw [odd_len hi] at hj
    rcases Nat.lt_trichotomy j i with h | h | h
    · rw [odd_lo hi _ h]; exact hR j (by omega)
    · subst h
      rw [odd_at hi]
      exact ⟨⟨by show (0 : Int) ≤ 8 ∧ (8 : Int) ≤ 255; omega, by show 0 ≤ k ∧ k ≤ 255; omega⟩, rfl⟩
    · rw [odd_hi hi _ h]; exact hR (j - 1) (by omega)
  · rw [pre j (by omega), odd_lo hi _ hj]; exact ha j (by omega)
  · rw [pre i (Nat.le_refl _), odd_at hi]
    exact odd_no (core_ok hR i hi) h1 h4 hr hm a b
def rowsTwice (TR : List (List Dat)) (i : Nat) (x : List Dat) : List (List Dat) := TR.take (i + 1) ++ [x]
theorem twice_lo (hi : i < TR.length) (x : List Dat) {j : Nat} (h : j < i + 1) : (rowsTwice TR i x).getD j [] = TR.getD j [] := by
  unfold rowsTwice
  rw [List.getD_eq_getElem?_getD, List.getElem?_append_left (by simp; omega), List.getElem?_take_of_lt h, ← List.getD_eq_getElem?_getD]
theorem twice_at (hi : i < TR.length) (x : List Dat) : (rowsTwice TR i x).getD (i + 1) [] = x := by
  have e : (TR.take (i + 1)).length = i + 1 := by simp; omega
  unfold rowsTwice
  rw [List.getD_eq_getElem?_getD, List.getElem?_append_right (by omega), e, Nat.sub_self]
  rfl
theorem twice_len (hi : i < TR.length) (x : List Dat) : (rowsTwice TR i x).length = i + 2 := by
  unfold rowsTwice; simp; omega
theorem twice_stop (hR : RowsE TR) (ha : ∀ j, j < TR.length → (Jm (seqC TR n2 j) (TR.getD j []) 0).asB = true) (hi : i < TR.length) (h0 : ((TR.getD i []).getD 0 (.dI 0)).asI = 8) (h3 : ((TR.getD i []).getD 3 (.dI 0)).asI ≤ 4) : StopAt (rowsTwice TR i (TR.getD i [])) n2 (i + 1) := by
  have pre : ∀ m, m ≤ i + 1 → seqC (rowsTwice TR i (TR.getD i [])) n2 m = seqC TR n2 m := fun m hm => seqC_pre m fun j hj => twice_lo hi _ (by omega)
  refine ⟨by rw [twice_len hi]; omega, fun j hj => ?_, fun j hj => ?_, ?_⟩
  · rw [twice_len hi] at hj
    rcases Nat.lt_or_ge j (i + 1) with h | h
    · rw [twice_lo hi _ h]; exact hR j (by omega)
    · obtain rfl : j = i + 1 := by omega
      rw [twice_at hi]; exact hR i hi
  · rw [pre j (by omega), twice_lo hi _ hj]; exact ha j (by omega)
  · rw [pre (i + 1) (Nat.le_refl _), twice_at hi]
    exact twice_no (core_ok hR i (by omega)) (hR i hi).1 h0 h3 (ha i hi)
theorem turn_stop (hR : RowsE TR) (ha : ∀ j, j < TR.length → (Jm (seqC TR n2 j) (TR.getD j []) 0).asB = true) (hi : i < TR.length) (h0 : ((TR.getD i []).getD 0 (.dI 0)).asI = 8) (h3 : ((TR.getD i []).getD 3 (.dI 0)).asI ≤ 4) : StopAt (TR.set i (turnR (TR.getD i []))) n2 i := by
  have lo : ∀ j, j ≠ i → (TR.set i (turnR (TR.getD i []))).getD j [] = TR.getD j [] := fun j h => by
    rw [List.getD_eq_getElem?_getD, List.getElem?_set_ne (Ne.symm h), ← List.getD_eq_getElem?_getD]
  have at_ : (TR.set i (turnR (TR.getD i []))).getD i [] = turnR (TR.getD i []) := by
    rw [List.getD_eq_getElem?_getD, List.getElem?_set_self hi]; rfl
  have pre : ∀ m, m ≤ i → seqC (TR.set i (turnR (TR.getD i []))) n2 m = seqC TR n2 m := fun m hm => seqC_pre m fun j hj => lo j (by omega)
  refine ⟨by simpa using hi, fun j hj => ?_, fun j hj => ?_, ?_⟩
  · rw [List.length_set] at hj
    by_cases h : j = i
    · subst h
      rw [at_]
      exact ⟨⟨(hR j hi).1.k, (hR j hi).1.f⟩, rfl⟩
    · rw [lo j h]; exact hR j hj
  · rw [pre j (by omega), lo j (by omega)]; exact ha j (by omega)
  · rw [pre i (Nat.le_refl _), at_]
    exact turn_no (core_ok hR i (by omega)) (hR i hi).1 h0 h3 (ha i hi)
end
end
end Go.Proofs.Ytlbkficdelepeaa.Ab
