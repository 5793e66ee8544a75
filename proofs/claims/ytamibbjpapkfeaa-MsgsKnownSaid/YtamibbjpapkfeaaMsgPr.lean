/-
  Rows of messages put one behind the other, and got again.
  Conditions: as each theorem tells.
-/
import Derived.Test.YtamibbjpapkfeaaMsgQ
namespace Go.Proofs.Ytamibbjpapkfeaa.Ab
set_option linter.unusedSimpArgs false
set_option linter.unusedVariables false
open Go
/-- All rows are messages that may be. -/
def AllOk (A : List (List Dat)) : Prop := ∀ r ∈ A, RowM r ∧ (rB r).length ≤ 127 ∧ okR r = true
def catM (A : List (List Dat)) : List UInt8 := (A.map putR).flatten
theorem catM_app (A B : List (List Dat)) : catM (A ++ B) = catM A ++ catM B := by unfold catM; simp
theorem catM_one (r : List Dat) : catM [r] = putR r := by unfold catM; simp
theorem catM_len {A : List (List Dat)} (h : AllOk A) : (catM A).length ≤ 129 * A.length := by
  induction A with
  | nil => simp [catM]
  | cons r A ih =>
    obtain ⟨h1, h2, h3⟩ := h r (by simp)
    have h4 := (row_par h1 h2 h3).2.2.2.1.2
    have := ih fun x hx => h x (by simp [hx])
    show (putR r ++ catM A).length ≤ _
    rw [List.length_append, List.length_cons]; omega
theorem catM_take {A : List (List Dat)} {k : Nat} (h : k < A.length) : catM (A.take (k + 1)) = catM (A.take k) ++ putR (A.getD k []) := by
  rw [List.take_add_one, List.getElem?_eq_getElem h]
  simp only [Option.toList_some, catM_app, catM_one, List.getD_eq_getElem?_getD, List.getElem?_eq_getElem h, Option.getD_some]
theorem catM_drop {A : List (List Dat)} {k : Nat} (h : k < A.length) : catM (A.drop k) = putR (A.getD k []) ++ catM (A.drop (k + 1)) := by
  rw [List.drop_eq_getElem_cons h]
  rw [show A[k] = A.getD k [] by rw [List.getD_eq_getElem?_getD, List.getElem?_eq_getElem h, Option.getD_some]]
  rfl
theorem catM_split (A : List (List Dat)) (k : Nat) : catM A = catM (A.take k) ++ catM (A.drop k) := by
  rw [← catM_app, List.take_append_drop]
theorem drop_at (A : List (List Dat)) (z : List UInt8) (k : Nat) : (catM A ++ z).drop (catM (A.take k)).length = catM (A.drop k) ++ z := by
  rw [catM_split A k, List.append_assoc, List.drop_left]
theorem getD_mem {A : List (List Dat)} {k : Nat} (h : k < A.length) : A.getD k [] ∈ A := by
  rw [List.getD_eq_getElem?_getD, List.getElem?_eq_getElem h, Option.getD_some]
  exact List.getElem_mem h
theorem got_at {A : List (List Dat)} (h : AllOk A) (z : List UInt8) {k : Nat} (hk : k < A.length) : mgot ((catM A ++ z).drop (catM (A.take k)).length) = ⟨A.getD k [], ((putR (A.getD k [])).length : Nat), 0⟩ := by
  obtain ⟨h1, h2, h3⟩ := h _ (getD_mem hk)
  rw [drop_at, catM_drop hk, List.append_assoc]
  exact (row_par h1 h2 h3).2.2.2.2.2 _
theorem at_back {A : List (List Dat)} (h : AllOk A) (z : List UInt8) : ∀ k, k ≤ A.length → atM (catM A ++ z) k = (catM (A.take k)).length
  | 0, _ => rfl
  | k + 1, hk => by
    show atM (catM A ++ z) k + (mgot ((catM A ++ z).drop (atM (catM A ++ z) k))).n.toNat = _
    rw [at_back h z k (by omega), got_at h z (show k < A.length by omega), catM_take (show k < A.length by omega), List.length_append]
    show _ + (((putR (A.getD k [])).length : Nat) : Int).toNat = _
    rw [Int.toNat_natCast]
theorem bad0 : (mgot [0]).e ≠ 0 := by
  have : mgot [0] = noMsg 20 ∨ mgot [0] = noMsg 70 := by
    rcases tput_tget [0] with hb | ⟨_, _, _, _, g4, g5, _⟩
    · rcases hb with hb | hb
      · left
        have hm : mgot [0] = noMsg (tget [0]).e := if_pos (by rw [hb]; decide)
        rw [hm, hb]; rfl
      · right
        have hm : mgot [0] = noMsg (tget [0]).e := if_pos (by rw [hb]; decide)
        rw [hm, hb]; rfl
    · simp only [List.length_cons, List.length_nil] at g5; omega
  rcases this with h | h <;> rw [h] <;> decide
theorem end_back {A : List (List Dat)} (h : AllOk A) : EndM (catM A ++ [0]) A.length := by
  refine ⟨fun k hk => ⟨?_, ?_⟩, fun ⟨_, h2⟩ => ?_⟩
  · rw [at_back h [0] k (by omega), catM_split A k]
    simp only [List.length_append, List.length_cons, List.length_nil]; omega
  · rw [at_back h [0] k (by omega), got_at h [0] hk]
  · rw [at_back h [0] _ (Nat.le_refl _), drop_at, List.drop_length] at h2
    exact bad0 h2
theorem rows_back {A : List (List Dat)} (h : AllOk A) : ∀ n, n ≤ A.length → rowsM (catM A ++ [0]) n = A.take n := fun n hn => by
  refine List.ext_getElem? fun k => ?_
  rcases Nat.lt_or_ge k n with hk | hk
  · unfold rowsM
    rw [List.getElem?_map, List.getElem?_range hk, List.getElem?_take_of_lt hk]
    show some (mgot ((catM A ++ [0]).drop (atM (catM A ++ [0]) k))).row = _
    rw [at_back h [0] k (by omega), got_at h [0] (by omega), List.getD_eq_getElem?_getD, List.getElem?_eq_getElem (by omega), Option.getD_some]
  · rw [List.getElem?_eq_none (by rw [rowsM_len]; exact hk), List.getElem?_eq_none (by rw [List.length_take]; omega)]
/-- Those of the first k that may be. -/
def acc (L : List (List Dat)) (k : Nat) : List (List Dat) := (L.take k).filter okR
theorem acc_succ {L : List (List Dat)} {k : Nat} (h : k < L.length) : acc L (k + 1) = if okR (L.getD k []) = true then acc L k ++ [L.getD k []] else acc L k := by
  unfold acc
  rw [List.take_add_one, List.getElem?_eq_getElem h, List.filter_append]
  rw [show L.getD k [] = L[k] by rw [List.getD_eq_getElem?_getD, List.getElem?_eq_getElem h, Option.getD_some]]
  simp only [Option.toList_some]
  split
  · rename_i hk
    rw [List.filter_cons_of_pos hk]; rfl
  · rename_i hk
    rw [List.filter_cons_of_neg hk]; simp
theorem acc_len (L : List (List Dat)) (k : Nat) : (acc L k).length ≤ k := by
  unfold acc
  have := List.length_filter_le okR (L.take k)
  rw [List.length_take] at this; omega
theorem acc_mono (L : List (List Dat)) {k n : Nat} (h : k ≤ n) : (acc L k).length ≤ (acc L n).length := by
  induction n with
  | zero => obtain rfl : k = 0 := by omega
            exact Nat.le_refl _
  | succ n ih =>
    rcases Nat.lt_or_ge k (n + 1) with hk | hk
    · refine Nat.le_trans (ih (by omega)) ?_
      rcases Nat.lt_or_ge n L.length with hn | hn
      · rw [acc_succ hn]; split <;> simp
      · unfold acc; rw [List.take_of_length_le hn, List.take_of_length_le (by omega)]; exact Nat.le_refl _
    · obtain rfl : k = n + 1 := by omega
      exact Nat.le_refl _
/-- Rows as they come in: messages, the first k of 127 octets at most. -/
def RowsOk (L : List (List Dat)) : Prop := ∀ i, i < L.length → RowM (L.getD i [])
theorem acc_ok {L : List (List Dat)} (hL : RowsOk L) {k : Nat} (hk : k ≤ L.length) (hb : ∀ i, i < k → (rB (L.getD i [])).length ≤ 127) : AllOk (acc L k) := fun r hr => by
  unfold acc at hr
  obtain ⟨h1, h2⟩ := List.mem_filter.1 hr
  obtain ⟨i, hi, rfl⟩ := List.getElem_of_mem h1
  rw [List.length_take] at hi
  have e : (L.take k)[i] = L.getD i [] := by
    rw [List.getElem_take, List.getD_eq_getElem?_getD, List.getElem?_eq_getElem (by omega), Option.getD_some]
  rw [e] at h2 ⊢
  exact ⟨hL i (by omega), hb i (by omega), h2⟩
end Go.Proofs.Ytamibbjpapkfeaa.Ab
