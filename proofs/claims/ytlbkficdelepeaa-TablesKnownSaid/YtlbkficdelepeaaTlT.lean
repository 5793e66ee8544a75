/-
  Chapter 24, a side to which things happen: a round of run keeps the invariant.
  Conditions: as each theorem tells.
-/
import Derived.Test.YtlbkficdelepeaaTlS
import Derived.Test.YtlbkficdelepeaaTlE
namespace Go.Proofs.Ytlbkficdelepeaa.Ab
set_option linter.unusedSimpArgs false
set_option linter.unusedVariables false
open Go
set_option linter.unusedSectionVars false
noncomputable section
theorem isFr_out {es : Eqs} : ∀ {n : Nat} {ss : List Sr} {l : List Tm}, isFr es n ss l = true → ∀ (k : Nat) {s : Sr} {t : Tm}, ss[k]? = some s → l[k]? = some t → outE es (n + k) = some (s, t)
  | _, [], [], _, _, _, _, h, _ => by simp at h
  | _, [], _ :: _, h, _, _, _, _, _ => by cases h
  | _, _ :: _, [], h, _, _, _, _, _ => by cases h
  | n, s0 :: ss, t0 :: l, h, 0, s, t, h1, h2 => by
    simp only [List.getElem?_cons_zero, Option.some.injEq] at h1 h2
    subst h1; subst h2
    unfold isFr at h
    rw [Bool.and_eq_true] at h
    have h := h.1
    split at h
    · rename_i s' u ho
      rw [Bool.and_eq_true] at h
      obtain rfl := eqSrB_eq h.1
      obtain rfl := @Tm.eqv_eq rho0 _ _ h.2
      exact ho
    · cases h
  | n, s0 :: ss, t0 :: l, h, k + 1, s, t, h1, h2 => by
    unfold isFr at h
    rw [Bool.and_eq_true] at h
    have := isFr_out h.2 k (s := s) (t := t) (by simpa using h1) (by simpa using h2)
    rw [show n + 1 + k = n + (k + 1) by omega] at this
    exact this
theorem aFr {ρ : Rho} {es : Eqs} {po : Dat} {t0 t1 t2 t3 t4 t5 t6 t7 t8 t9 t10 t11 t12 t13 t14 t15 t16 t17 t18 t19 t20 t21 t22 t23 : Tm} (h : isFr es 8 soA [t0, t1, t2, t3, t4, t5, t6, t7, t8, t9, t10, t11, t12, t13, t14, t15, t16, t17, t18, t19, t20, t21, t22, t23] = true) : aAt (nxtR ρ es po) = ⟨(@Tm.den ρ t0).asI, (@Tm.den ρ t1).asI, (@Tm.den ρ t2).asI, (@Tm.den ρ t3).asI, (@Tm.den ρ t4).asI, (@Tm.den ρ t5).asI, (@Tm.den ρ t6).asI, (@Tm.den ρ t7).asB, (@Tm.den ρ t8).asB, (@Tm.den ρ t9).asB, (@Tm.den ρ t10).asB, (@Tm.den ρ t11).asB, (@Tm.den ρ t12).asB, (@Tm.den ρ t13).asI, (@Tm.den ρ t14).asI, (@Tm.den ρ t15).asI, (@Tm.den ρ t16).asI, (@Tm.den ρ t17).asI, (@Tm.den ρ t18).asL, (@Tm.den ρ t19).asI, (@Tm.den ρ t20).asB, (@Tm.den ρ t21).asB, (@Tm.den ρ t22).asB, (@Tm.den ρ t23).asB⟩ := by
  have e : ∀ (k : Nat) {s : Sr} {t : Tm}, soA[k]? = some s → [t0, t1, t2, t3, t4, t5, t6, t7, t8, t9, t10, t11, t12, t13, t14, t15, t16, t17, t18, t19, t20, t21, t22, t23][k]? = some t → k < 24 → (nxtR ρ es po).val (8 + k) = canS s (@Tm.den ρ t) := fun k s t h1 h2 hk => nxtR_out (by omega) (by omega) (isFr_out h k h1 h2)
  unfold aAt
  rw [show (nxtR ρ es po).val 8 = _ from e 0 rfl rfl (by omega)]
  rw [show (nxtR ρ es po).val 9 = _ from e 1 rfl rfl (by omega)]
  rw [show (nxtR ρ es po).val 10 = _ from e 2 rfl rfl (by omega)]
  rw [show (nxtR ρ es po).val 11 = _ from e 3 rfl rfl (by omega)]
  rw [show (nxtR ρ es po).val 12 = _ from e 4 rfl rfl (by omega)]
  rw [show (nxtR ρ es po).val 13 = _ from e 5 rfl rfl (by omega)]
  rw [show (nxtR ρ es po).val 14 = _ from e 6 rfl rfl (by omega)]
  rw [show (nxtR ρ es po).val 15 = _ from e 7 rfl rfl (by omega)]
  rw [show (nxtR ρ es po).val 16 = _ from e 8 rfl rfl (by omega)]
  rw [show (nxtR ρ es po).val 17 = _ from e 9 rfl rfl (by omega)]
  rw [show (nxtR ρ es po).val 18 = _ from e 10 rfl rfl (by omega)]
  rw [show (nxtR ρ es po).val 19 = _ from e 11 rfl rfl (by omega)]
  rw [show (nxtR ρ es po).val 20 = _ from e 12 rfl rfl (by omega)]
  rw [show (nxtR ρ es po).val 21 = _ from e 13 rfl rfl (by omega)]
  rw [show (nxtR ρ es po).val 22 = _ from e 14 rfl rfl (by omega)]
  rw [show (nxtR ρ es po).val 23 = _ from e 15 rfl rfl (by omega)]
  rw [show (nxtR ρ es po).val 24 = _ from e 16 rfl rfl (by omega)]
  rw [show (nxtR ρ es po).val 25 = _ from e 17 rfl rfl (by omega)]
  rw [show (nxtR ρ es po).val 26 = _ from e 18 rfl rfl (by omega)]
  rw [show (nxtR ρ es po).val 27 = _ from e 19 rfl rfl (by omega)]
  rw [show (nxtR ρ es po).val 28 = _ from e 20 rfl rfl (by omega)]
  rw [show (nxtR ρ es po).val 29 = _ from e 21 rfl rfl (by omega)]
  rw [show (nxtR ρ es po).val 30 = _ from e 22 rfl rfl (by omega)]
  rw [show (nxtR ρ es po).val 31 = _ from e 23 rfl rfl (by omega)]
  rfl
section
variable {v : Nat → Dat} {es : Eqs} {po : Dat}
theorem aSame (h : isFr es 8 soA frSame = true) : aAt (nxtR ⟨v, fnU⟩ es po) = aAt ⟨v, fnU⟩ := (aFr h).trans (by kernel_rfl)
theorem aHear (h : isFr es 8 soA frHear = true) : aAt (nxtR ⟨v, fnU⟩ es po) = (aAt ⟨v, fnU⟩).hearTo ((aAt ⟨v, fnU⟩).hear (frOf (rowAt3 ⟨v, fnU⟩) 1)).2 := (aFr h).trans (by kernel_rfl)
theorem aNext (h : isFr es 8 soA frNext = true) : aAt (nxtR ⟨v, fnU⟩ es po) = (aAt ⟨v, fnU⟩).nextW := (aFr h).trans (by kernel_rfl)
theorem aTick (h : isFr es 8 soA frTick = true) : aAt (nxtR ⟨v, fnU⟩ es po) = ((aAt ⟨v, fnU⟩).pushW ((rowAt3 ⟨v, fnU⟩).getD 7 (.dI 0))).tickW := (aFr h).trans (by kernel_rfl)
def aNil : ASt := ⟨0, 0, 0, 0, 0, 0, 0, false, false, false, false, false, false, 2, 3, 2, 0, 0, [], 0, false, false, false, false⟩
def sNil : SSt := ⟨2, 3, 2, 0, 0, [], 0, 0, 0, 0, false, false, false, false, false, false, false, false, false, false, 0, 0⟩
theorem aNew (h : isFr es 8 soA frNew = true) : aAt (nxtR ⟨v, fnU⟩ es po) = aNil := (aFr h).trans (by kernel_rfl)
theorem relNil (N : Int) (h : 0 ≤ N) : Rel N aNil sNil :=
  { ek := rfl, en := rfl, et := rfl, k1 := by decide, k7 := by decide, n0 := by decide, n2 := by decide, t0 := by decide, t2 := by decide, va := rfl, vr := rfl, out := rfl, high := rfl, len := rfl, failed := rfl, busy := rfl, rejs := rfl, wants := rfl, pb := rfl, asks := rfl, due := rfl, final := rfl, reject := rfl, poll := rfl, tries := rfl, left := rfl,
    acked0 := Int.le_refl _, sent0 := Int.le_refl _, top0 := Int.le_refl _, len0 := Int.le_refl _, lenk := by decide
    lenN := h, got0 := Int.le_refl _, gotN := h, aoff := Int.le_refl _, aL := Int.le_refl _, soff := Int.le_refl _, sL := Int.le_refl _, W := rfl, left0 := Int.le_refl _, left2 := by decide
    tries0 := Int.le_refl _, tries2 := by decide
    tries3 := fun _ => by decide
    fleft := fun _ => rfl }
/-- The numbered side behind a round. -/
theorem relNext {i : Int} (hi : 0 ≤ i) (hr : ∃ s, Rel i (aAt ⟨v, fnU⟩) s) (h : (isFr es 8 soA frSame || isFr es 8 soA frHear || isFr es 8 soA frNext || isFr es 8 soA frTick || isFr es 8 soA frNew) = true) : ∃ s, Rel (i + 1) (aAt (nxtR ⟨v, fnU⟩ es po)) s := by
  obtain ⟨s, r⟩ := hr
  simp only [Bool.or_eq_true] at h
  rcases h with (((h | h) | h) | h) | h
  · rw [aSame h]; exact ⟨s, r.mono (by omega)⟩
  · rw [aHear h, ← ASt.hear_w]; exact ⟨_, (r.hear _).2⟩
  · rw [aNext h, ← ASt.next_w]; exact ⟨_, r.next.2.2.mono (by omega)⟩
  · rw [aTick h, ← ASt.push_w, ← ASt.tick_w]; exact ⟨_, (r.push _).2.tick.2⟩
  · rw [aNew h]; exact ⟨sNil, relNil _ (by omega)⟩
theorem fact_ok : (@Tm.den ⟨v, fnU⟩ (factOf es)).asB = true := by
  have hl : LowFn ⟨v, fnU⟩ := fun k d hk => (fnU_low hk).symm
  unfold factOf
  cases isFr es 8 soA frHear with
  | true => exact factH_ok hl
  | false =>
    cases isFr es 8 soA frNext with
    | true => exact factN_ok hl
    | false => rfl
/-- The debts of what it calls. -/
theorem debts {i : Int} (hi : i ≤ 400) (hr : ∃ s, Rel i (aAt ⟨v, fnU⟩) s) : (@Tm.den ⟨v, fnU⟩ (.app 724 tH)).asB = true ∧ (@Tm.den ⟨v, fnU⟩ (.app 655 tN)).asB = true ∧ (@Tm.den ⟨v, fnU⟩ (.app 581 tP)).asB = true ∧ (@Tm.den ⟨v, fnU⟩ (.app 905 tT)).asB = true := by
  obtain ⟨s, r⟩ := hr
  have a1 := r.len; have a2 := r.lenk; have a3 := r.k7; have a4 := r.sent0; have a5 := r.top0; have a6 := r.len0; have a7 := r.high; have a8 := r.out; have a9 := r.aoff; have a10 := r.aL
  have q := (r.push ((rowAt3 ⟨v, fnU⟩).getD 7 (.dI 0))).2
  rw [ASt.push_w] at q
  have b1 := q.tries0; have b2 := q.tries2; have b3 := q.n2; have b4 := q.left0; have b5 := q.left2
  refine ⟨?_, ?_, ?_, ?_⟩
  · have e : (@Tm.den ⟨v, fnU⟩ (.app 724 tH)).asB = decide (0 ≤ (aAt ⟨v, fnU⟩).out ∧ (aAt ⟨v, fnU⟩).out ≤ 100 ∧ 0 ≤ (aAt ⟨v, fnU⟩).high ∧ (aAt ⟨v, fnU⟩).high ≤ (aAt ⟨v, fnU⟩).len ∧ (aAt ⟨v, fnU⟩).high ≤ 7) := by kernel_rfl
    rw [e]; exact decide_eq_true (by omega)
  · have e : (@Tm.den ⟨v, fnU⟩ (.app 655 tN)).asB = decide (0 ≤ (aAt ⟨v, fnU⟩).out ∧ (aAt ⟨v, fnU⟩).out ≤ 100 ∧ 0 ≤ (aAt ⟨v, fnU⟩).len ∧ 0 ≤ (aAt ⟨v, fnU⟩).off) := by kernel_rfl
    rw [e]; exact decide_eq_true (by omega)
  · have e : (@Tm.den ⟨v, fnU⟩ (.app 581 tP)).asB = decide (0 ≤ (aAt ⟨v, fnU⟩).len ∧ (aAt ⟨v, fnU⟩).len < 1000 ∧ (aAt ⟨v, fnU⟩).off + (aAt ⟨v, fnU⟩).len ≤ ((aAt ⟨v, fnU⟩).L.length : Int) ∧ 0 ≤ (aAt ⟨v, fnU⟩).off) := by kernel_rfl
    rw [e]; exact decide_eq_true (by omega)
  · have e : (@Tm.den ⟨v, fnU⟩ (.app 905 tT)).asB = decide (0 ≤ ((aAt ⟨v, fnU⟩).pushW ((rowAt3 ⟨v, fnU⟩).getD 7 (.dI 0))).tries ∧ ((aAt ⟨v, fnU⟩).pushW ((rowAt3 ⟨v, fnU⟩).getD 7 (.dI 0))).tries ≤ 1000 ∧ 0 ≤ ((aAt ⟨v, fnU⟩).pushW ((rowAt3 ⟨v, fnU⟩).getD 7 (.dI 0))).left ∧ ((aAt ⟨v, fnU⟩).pushW ((rowAt3 ⟨v, fnU⟩).getD 7 (.dI 0))).left ≤ 1000) := by kernel_rfl
    rw [e]; exact decide_eq_true (by omega)
end
end
end Go.Proofs.Ytlbkficdelepeaa.Ab
