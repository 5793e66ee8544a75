/-
  What the document's side of chapter 15 does, function by function: the trees of answers are the plain functions.
  Conditions: as each theorem tells.
-/
import Derived.Test.YtlbkficdelepeaaSidT
import Derived.Test.YtlbkficdelepeaaArqP
namespace Go.Proofs.Ytlbkficdelepeaa.Ab
set_option linter.unusedSimpArgs false
set_option linter.unusedVariables false
open Go
set_option linter.unusedSimpArgs false
abbrev sR (ρ : Rho) : SSt := ⟨(ρ.val 0).asI, (ρ.val 1).asI, (ρ.val 2).asI, (ρ.val 3).asI, (ρ.val 4).asI, (ρ.val 5).asL, (ρ.val 6).asI, (ρ.val 7).asI, (ρ.val 8).asI, (ρ.val 9).asI, (ρ.val 10).asB, (ρ.val 11).asB, (ρ.val 12).asB, (ρ.val 13).asB, (ρ.val 14).asB, (ρ.val 15).asB, (ρ.val 16).asB, (ρ.val 17).asB, (ρ.val 18).asB, (ρ.val 19).asB, (ρ.val 20).asI, (ρ.val 21).asI⟩
section
variable {ρ : Rho}
theorem d_rem (k : IntKind) (x y : Tm) : (@Tm.den ρ (.ib .rem k x y)).asI = (@Tm.den ρ x).asI.tmod (@Tm.den ρ y).asI := rfl
theorem tmod8 {x : Int} (h : 0 ≤ x) : x.tmod 8 = x % 8 := Int.tmod_eq_emod_of_nonneg h
theorem ap1280 (hf : ρ.fn = fnOf mSid) (x y : Tm) : (@Tm.den ρ (.app 1280 (tp [x, y]))).asI = (@Tm.den ρ x).asI - (@Tm.den ρ y).asI := by rw [d_app, hf]; rfl
theorem ap1281 (hf : ρ.fn = fnOf mSid) (x y : Tm) : (@Tm.den ρ (.app 1281 (tp [x, y]))).asB = decide (0 ≤ (@Tm.den ρ x).asI ∧ (@Tm.den ρ x).asI ≤ 200000 ∧ 0 ≤ (@Tm.den ρ y).asI ∧ (@Tm.den ρ y).asI ≤ 200000) := by rw [d_app, hf]; rfl
theorem ap1344 (hf : ρ.fn = fnOf mSid) (a b c d e f g h i j : Tm) : (@Tm.den ρ (.app 1344 (tp [a, b, c, d, e, f, g, h, i, j]))).asI = cntS (@Tm.den ρ a).asI (@Tm.den ρ b).asI (@Tm.den ρ c).asI (@Tm.den ρ d).asI (@Tm.den ρ e).asB (@Tm.den ρ f).asB (@Tm.den ρ g).asB (@Tm.den ρ h).asB (@Tm.den ρ i).asI (@Tm.den ρ j).asB := by rw [d_app, hf]; rfl
theorem ap1345 (hf : ρ.fn = fnOf mSid) (a b c d e f g h i j : Tm) : (@Tm.den ρ (.app 1345 (tp [a, b, c, d, e, f, g, h, i, j]))).asB = decide (0 ≤ (@Tm.den ρ b).asI ∧ (@Tm.den ρ b).asI ≤ 200000 ∧ 0 ≤ (@Tm.den ρ c).asI ∧ (@Tm.den ρ c).asI ≤ 200000) := by rw [d_app, hf]; rfl
end
theorem waits_okS {env : Env} (h : SWaitsS.tree Try.prog env 78 = tWaitsS) : SumOK Try.prog env 78 SWaitsS 1280 1 (fnOf mSid) := by
  intro ρ hf hok
  rw [h]
  rw [show fnOf mSid (1280 + 1) (tupD ρ.val SWaitsS.us) = .dB (decide (0 ≤ (ρ.val 4).asI ∧ (ρ.val 4).asI ≤ 200000 ∧ 0 ≤ (ρ.val 6).asI ∧ (ρ.val 6).asI ≤ 200000)) from rfl, asB_dB, decide_eq_true_eq] at hok
  have e0 : ((rhoO SWaitsS 1280 ρ).val 22).asI = (ρ.val 4).asI - (ρ.val 6).asI := by show (ρ.fn 1280 _).asI = _; rw [hf]; rfl
  have w1 : IntKind.i64.wrap ((ρ.val 4).asI - (ρ.val 6).asI) = (ρ.val 4).asI - (ρ.val 6).asI := i64wrap (by omega) (by omega)
  unfold tWaitsS
  repeat' (first | (refine sel_fork (fun h => ?_) (fun h => ?_) <;> (try simp only [gtr_t, gtr_f, eql_t, eql_f, lss_t, lss_f, leq_t, leq_f, geq_t, geq_f, not_t, not_f, d_sub, w1, d_var, d_ci, d_cb, reduceCtorEq] at h)) | refine sel_leaf ?_)
  all_goals first | (exfalso; omega) | ((simp only [eI, eB, eS, eL, eN, d_var, d_ci, d_cb, d_cs, e0, d_sub, w1, and_true, true_and]) <;> ((try simp [*]) <;> (try rfl)))
theorem count_okS {env : Env} (h : SCountS.tree Try.prog env 101 = tCountS) : SumOK Try.prog env 101 SCountS 1344 1 (fnOf mSid) := by
  intro ρ hf hok
  rw [h]
  rw [show fnOf mSid (1344 + 1) (tupD ρ.val SCountS.us) = .dB (decide (0 ≤ (ρ.val 4).asI ∧ (ρ.val 4).asI ≤ 200000 ∧ 0 ≤ (ρ.val 6).asI ∧ (ρ.val 6).asI ≤ 200000)) from rfl, asB_dB, decide_eq_true_eq] at hok
  have e0 : ((rhoO SCountS 1344 ρ).val 23).asI = cntS (ρ.val 2).asI (ρ.val 4).asI (ρ.val 6).asI (ρ.val 7).asI (ρ.val 14).asB (ρ.val 17).asB (ρ.val 18).asB (ρ.val 19).asB (ρ.val 21).asI (ρ.val 22).asB := by show (ρ.fn 1344 _).asI = _; rw [hf]; rfl
  have hd : (@Tm.den ρ (.app 1281 (tp [vt 4, vt 6]))).asB = true := by rw [ap1281 hf]; exact decide_eq_true hok
  unfold tCountS
  repeat' (first | (refine sel_fork (fun h => ?_) (fun h => ?_) <;> (try simp only [gtr_t, gtr_f, eql_t, eql_f, lss_t, lss_f, leq_t, leq_f, geq_t, geq_f, not_t, not_f, hd, ap1280 hf, d_var, d_ci, d_cb, reduceCtorEq] at h)) | refine sel_leaf ?_)
  all_goals first | (exfalso; omega) | ((simp only [eI, eB, eS, eL, eN, d_var, d_ci, d_cb, d_cs, e0, hd, ap1280 hf, and_true, true_and]) <;> ((simp_all [cntS] <;> omega)))
theorem take_okS {env : Env} (h : STakeS.tree Try.prog env 103 = tTakeS) : SumOK Try.prog env 103 STakeS 1664 8 (fnOf mSid) := by
  intro ρ hf hok
  rw [h]
  rw [show fnOf mSid (1664 + 8) (tupD ρ.val STakeS.us) = .dB (decide (0 ≤ (ρ.val 9).asI ∧ (ρ.val 9).asI ≤ 100000 ∧ 0 ≤ (ρ.val 26).asI ∧ (ρ.val 26).asI ≤ 255)) from rfl, asB_dB, decide_eq_true_eq] at hok
  have e0 : ((rhoO STakeS 1664 ρ).val 33).asS = (takS (ρ.val 9).asI (ρ.val 10).asB (ρ.val 12).asB (ρ.val 15).asB (ρ.val 16).asB (ρ.val 26).asI (ρ.val 28).asS ⟨(ρ.val 29).asS, (ρ.val 30).asB, (ρ.val 31).asI, (ρ.val 32).asB⟩).1.info := by show (ρ.fn 1664 _).asS = _; rw [hf]; rfl
  have e1 : ((rhoO STakeS 1664 ρ).val 34).asB = (takS (ρ.val 9).asI (ρ.val 10).asB (ρ.val 12).asB (ρ.val 15).asB (ρ.val 16).asB (ρ.val 26).asI (ρ.val 28).asS ⟨(ρ.val 29).asS, (ρ.val 30).asB, (ρ.val 31).asI, (ρ.val 32).asB⟩).1.taken := by show (ρ.fn 1665 _).asB = _; rw [hf]; rfl
  have e2 : ((rhoO STakeS 1664 ρ).val 35).asI = (takS (ρ.val 9).asI (ρ.val 10).asB (ρ.val 12).asB (ρ.val 15).asB (ρ.val 16).asB (ρ.val 26).asI (ρ.val 28).asS ⟨(ρ.val 29).asS, (ρ.val 30).asB, (ρ.val 31).asI, (ρ.val 32).asB⟩).1.acked := by show (ρ.fn 1666 _).asI = _; rw [hf]; rfl
  have e3 : ((rhoO STakeS 1664 ρ).val 36).asB = (takS (ρ.val 9).asI (ρ.val 10).asB (ρ.val 12).asB (ρ.val 15).asB (ρ.val 16).asB (ρ.val 26).asI (ρ.val 28).asS ⟨(ρ.val 29).asS, (ρ.val 30).asB, (ρ.val 31).asI, (ρ.val 32).asB⟩).1.failed := by show (ρ.fn 1667 _).asB = _; rw [hf]; rfl
  have e4 : ((rhoO STakeS 1664 ρ).val 37).asI = (takS (ρ.val 9).asI (ρ.val 10).asB (ρ.val 12).asB (ρ.val 15).asB (ρ.val 16).asB (ρ.val 26).asI (ρ.val 28).asS ⟨(ρ.val 29).asS, (ρ.val 30).asB, (ρ.val 31).asI, (ρ.val 32).asB⟩).2.1 := by show (ρ.fn 1668 _).asI = _; rw [hf]; rfl
  have e5 : ((rhoO STakeS 1664 ρ).val 38).asB = (takS (ρ.val 9).asI (ρ.val 10).asB (ρ.val 12).asB (ρ.val 15).asB (ρ.val 16).asB (ρ.val 26).asI (ρ.val 28).asS ⟨(ρ.val 29).asS, (ρ.val 30).asB, (ρ.val 31).asI, (ρ.val 32).asB⟩).2.2.1 := by show (ρ.fn 1669 _).asB = _; rw [hf]; rfl
  have e6 : ((rhoO STakeS 1664 ρ).val 39).asB = (takS (ρ.val 9).asI (ρ.val 10).asB (ρ.val 12).asB (ρ.val 15).asB (ρ.val 16).asB (ρ.val 26).asI (ρ.val 28).asS ⟨(ρ.val 29).asS, (ρ.val 30).asB, (ρ.val 31).asI, (ρ.val 32).asB⟩).2.2.2.1 := by show (ρ.fn 1670 _).asB = _; rw [hf]; rfl
  have e7 : ((rhoO STakeS 1664 ρ).val 40).asB = (takS (ρ.val 9).asI (ρ.val 10).asB (ρ.val 12).asB (ρ.val 15).asB (ρ.val 16).asB (ρ.val 26).asI (ρ.val 28).asS ⟨(ρ.val 29).asS, (ρ.val 30).asB, (ρ.val 31).asI, (ρ.val 32).asB⟩).2.2.2.2 := by show (ρ.fn 1671 _).asB = _; rw [hf]; rfl
  have w1 : IntKind.i64.wrap ((ρ.val 9).asI + 1) = (ρ.val 9).asI + 1 := i64wrap (by omega) (by omega)
  have w2 : IntKind.i64.wrap ((ρ.val 26).asI % 8) = (ρ.val 26).asI % 8 := i64wrap (by omega) (by omega)
  have c0 : (@Tm.den ρ tTakeS_0).asB = decide (¬ (ρ.val 26).asI % 8 = (ρ.val 9).asI % 8) := by
    show (_ != _) = _
    simp only [d_wrap, d_rem, d_var, d_ci, tmod8 hok.1, tmod8 hok.2.2.1, w2]
    rw [bne, decide_not]; rfl
  unfold tTakeS
  repeat' (first | (refine sel_fork (fun h => ?_) (fun h => ?_) <;> (try simp only [neq_t, neq_f, not_t, not_f, d_add, w1, c0, decide_eq_true_eq, decide_eq_false_iff_not, d_var, d_ci, d_cb, reduceCtorEq] at h)) | refine sel_leaf ?_)
  all_goals first | (exfalso; omega) | ((simp only [eI, eB, eS, eL, eN, d_var, d_ci, d_cb, d_cs, e0, e1, e2, e3, e4, e5, e6, e7, d_add, w1, c0, decide_eq_true_eq, decide_eq_false_iff_not, and_true, true_and]) <;> ((try simp [takS, *]) <;> (try rfl)))
theorem has_okS {env : Env} (h : SHasS.tree Try.prog env 31 = tHasS) : SumOK Try.prog env 31 SHasS 1408 1 (fnOf mSid) := by
  intro ρ hf hok
  rw [h]
  have e0 : ((rhoO SHasS 1408 ρ).val 22).asB = hasS (ρ.val 4).asI (ρ.val 7).asI (ρ.val 10).asB (ρ.val 13).asB (ρ.val 14).asB (ρ.val 17).asB (ρ.val 18).asB := by show (ρ.fn 1408 _).asB = _; rw [hf]; rfl
  unfold tHasS
  repeat' (first | (refine sel_fork (fun h => ?_) (fun h => ?_) <;> (try simp only [not_t, not_f, d_lss, d_var, d_ci, d_cb, reduceCtorEq] at h)) | refine sel_leaf ?_)
  all_goals first | (exfalso; omega) | ((simp only [eI, eB, eS, eL, eN, d_var, d_ci, d_cb, d_cs, e0, d_lss, and_true, true_and]) <;> ((try simp [hasS, *]) <;> (try rfl)))
theorem push_okS {env : Env} (h : SPushS.tree Try.prog env 71 = tPushS) : SumOK Try.prog env 71 SPushS 1472 5 (fnOf mSid) := by
  intro ρ hf hok
  rw [h]
  rw [show fnOf mSid (1472 + 5) (tupD ρ.val SPushS.us) = .dB (decide ((0 ≤ (ρ.val 3).asI ∧ 0 ≤ (ρ.val 4).asI ∧ (ρ.val 4).asI ≤ 100000 ∧ (ρ.val 3).asI + (ρ.val 4).asI ≤ ((ρ.val 5).asL.length : Int) ∧ 0 ≤ (ρ.val 6).asI ∧ (ρ.val 6).asI ≤ 100000 ∧ 0 ≤ (ρ.val 7).asI ∧ (ρ.val 7).asI ≤ 100000 ∧ 0 ≤ (ρ.val 8).asI ∧ (ρ.val 8).asI ≤ 100000 ∧ 0 ≤ (ρ.val 9).asI ∧ (ρ.val 9).asI ≤ 100000))) from rfl, asB_dB, decide_eq_true_eq] at hok
  have e0 : ((rhoO SPushS 1472 ρ).val 23).asI = ((sR ρ).push (ρ.val 22)).1 := by show (ρ.fn 1472 _).asI = _; rw [hf]; rfl
  have e1 : ((rhoO SPushS 1472 ρ).val 24).asI = ((sR ρ).push (ρ.val 22)).2.left := by show (ρ.fn 1473 _).asI = _; rw [hf]; rfl
  have e2 : ((rhoO SPushS 1472 ρ).val 25).asI = ((sR ρ).push (ρ.val 22)).2.off := by show (ρ.fn 1474 _).asI = _; rw [hf]; rfl
  have e3 : ((rhoO SPushS 1472 ρ).val 26).asI = ((sR ρ).push (ρ.val 22)).2.len := by show (ρ.fn 1475 _).asI = _; rw [hf]; rfl
  have e4 : ((rhoO SPushS 1472 ρ).val 27).asL = ((sR ρ).push (ρ.val 22)).2.L := by show (ρ.fn 1476 _).asL = _; rw [hf]; rfl
  have hLL : (@Tm.den ρ (.llen (.lapp (.lcut (vt 5) (vt 3) (vt 4)) (.row (tp [vt 22]))))).asI = (((sR ρ).W.length : Nat) : Int) + 1 := by
    rw [d_llen, d_lapp, d_row]; simp [SSt.W, d_lcut, d_var]
  have hL2 : (@Tm.den ρ (.lapp (.lcut (vt 5) (vt 3) (vt 4)) (.row (tp [vt 22])))).asL = (sR ρ).W ++ [[ρ.val 22]] := by
    rw [d_lapp, d_row]; rfl
  have hw : ((sR ρ).W.length : Int) ≤ 100000 := by
    have : (sR ρ).W.length ≤ (ρ.val 4).asI.toNat := by simp only [SSt.W, List.length_take]; omega
    omega
  have hd : (@Tm.den ρ (.app 1281 (tp [vt 4, vt 6]))).asB = true := by rw [ap1281 hf]; exact decide_eq_true (by simp only [d_var]; omega)
  have h5 : (@Tm.den ρ (.app 1345 tPushS_0)).asB = true := by rw [ap1345 hf, hLL]; exact decide_eq_true (by simp only [d_var]; omega)
  have h4 : (@Tm.den ρ (.app 1344 tPushS_0)).asI = cntS (ρ.val 2).asI ((((sR ρ).W.length : Nat) : Int) + 1) (ρ.val 6).asI (ρ.val 7).asI (ρ.val 14).asB (ρ.val 17).asB (ρ.val 18).asB (ρ.val 19).asB (ρ.val 21).asI false := by rw [ap1344 hf, hLL]; rfl
  unfold tPushS
  repeat' (first | (refine sel_fork (fun h => ?_) (fun h => ?_) <;> (try simp only [gtr_t, gtr_f, eql_t, eql_f, lss_t, lss_f, leq_t, leq_f, geq_t, geq_f, not_t, not_f, hLL, hL2, hd, h5, h4, ap1280 hf, d_var, d_ci, d_cb, reduceCtorEq] at h)) | refine sel_leaf ?_)
  all_goals first | (exfalso; omega) | ((simp only [eI, eB, eS, eL, eN, d_var, d_ci, d_cb, d_cs, e0, e1, e2, e3, e4, hLL, hL2, hd, h5, h4, ap1280 hf, and_true, true_and]) <;> ((simp [SSt.push, SSt.count, *] <;> skip)))
theorem busy_okS {env : Env} (h : SBusyS.tree Try.prog env 77 = tBusyS) : SumOK Try.prog env 77 SBusyS 1792 3 (fnOf mSid) := by
  intro ρ hf hok
  rw [h]
  rw [show fnOf mSid (1792 + 3) (tupD ρ.val SBusyS.us) = .dB (decide ((0 ≤ (ρ.val 3).asI ∧ 0 ≤ (ρ.val 4).asI ∧ (ρ.val 4).asI ≤ 100000 ∧ (ρ.val 3).asI + (ρ.val 4).asI ≤ ((ρ.val 5).asL.length : Int) ∧ 0 ≤ (ρ.val 6).asI ∧ (ρ.val 6).asI ≤ 100000 ∧ 0 ≤ (ρ.val 7).asI ∧ (ρ.val 7).asI ≤ 100000 ∧ 0 ≤ (ρ.val 8).asI ∧ (ρ.val 8).asI ≤ 100000 ∧ 0 ≤ (ρ.val 9).asI ∧ (ρ.val 9).asI ≤ 100000))) from rfl, asB_dB, decide_eq_true_eq] at hok
  have e0 : ((rhoO SBusyS 1792 ρ).val 23).asB = ((sR ρ).setBusy (ρ.val 22).asB).due := by show (ρ.fn 1792 _).asB = _; rw [hf]; rfl
  have e1 : ((rhoO SBusyS 1792 ρ).val 24).asB = ((sR ρ).setBusy (ρ.val 22).asB).busy := by show (ρ.fn 1793 _).asB = _; rw [hf]; rfl
  have e2 : ((rhoO SBusyS 1792 ρ).val 25).asI = ((sR ρ).setBusy (ρ.val 22).asB).left := by show (ρ.fn 1794 _).asI = _; rw [hf]; rfl
  have h5 : (@Tm.den ρ (.app 1345 tBusyS_0)).asB = true := by rw [ap1345 hf]; exact decide_eq_true (by simp only [d_var]; omega)
  unfold tBusyS
  repeat' (first | (refine sel_fork (fun h => ?_) (fun h => ?_) <;> (try simp only [beq_t, beq_f, h5, ap1344 hf, d_var, d_ci, d_cb, reduceCtorEq] at h)) | refine sel_leaf ?_)
  all_goals first | (exfalso; omega) | ((simp only [eI, eB, eS, eL, eN, d_var, d_ci, d_cb, d_cs, e0, e1, e2, h5, ap1344 hf, and_true, true_and]) <;> ((try simp [SSt.setBusy, SSt.count, *]) <;> (try rfl)))
theorem want_okS {env : Env} (h : SWantS.tree Try.prog env 76 = tWantS) : SumOK Try.prog env 76 SWantS 1856 2 (fnOf mSid) := by
  intro ρ hf hok
  rw [h]
  rw [show fnOf mSid (1856 + 2) (tupD ρ.val SWantS.us) = .dB (decide ((0 ≤ (ρ.val 3).asI ∧ 0 ≤ (ρ.val 4).asI ∧ (ρ.val 4).asI ≤ 100000 ∧ (ρ.val 3).asI + (ρ.val 4).asI ≤ ((ρ.val 5).asL.length : Int) ∧ 0 ≤ (ρ.val 6).asI ∧ (ρ.val 6).asI ≤ 100000 ∧ 0 ≤ (ρ.val 7).asI ∧ (ρ.val 7).asI ≤ 100000 ∧ 0 ≤ (ρ.val 8).asI ∧ (ρ.val 8).asI ≤ 100000 ∧ 0 ≤ (ρ.val 9).asI ∧ (ρ.val 9).asI ≤ 100000))) from rfl, asB_dB, decide_eq_true_eq] at hok
  have e0 : ((rhoO SWantS 1856 ρ).val 23).asB = ((sR ρ).setWant (ρ.val 22).asB).wants := by show (ρ.fn 1856 _).asB = _; rw [hf]; rfl
  have e1 : ((rhoO SWantS 1856 ρ).val 24).asI = ((sR ρ).setWant (ρ.val 22).asB).left := by show (ρ.fn 1857 _).asI = _; rw [hf]; rfl
  have h5 : (@Tm.den ρ (.app 1345 tWantS_0)).asB = true := by rw [ap1345 hf]; exact decide_eq_true (by simp only [d_var]; omega)
  unfold tWantS
  repeat' (first | (refine sel_fork (fun h => ?_) (fun h => ?_) <;> (try simp only [not_t, not_f, h5, ap1344 hf, d_var, d_ci, d_cb, reduceCtorEq] at h)) | refine sel_leaf ?_)
  all_goals first | (exfalso; omega) | ((simp only [eI, eB, eS, eL, eN, d_var, d_ci, d_cb, d_cs, e0, e1, h5, ap1344 hf, and_true, true_and]) <;> ((try simp [SSt.setWant, SSt.count, *]) <;> (try rfl)))
theorem tick_okS {env : Env} (h : STickS.tree Try.prog env 75 = tTickS) : SumOK Try.prog env 75 STickS 1920 9 (fnOf mSid) := by
  intro ρ hf hok
  rw [h]
  rw [show fnOf mSid (1920 + 9) (tupD ρ.val STickS.us) = .dB (decide (0 ≤ (ρ.val 20).asI ∧ (ρ.val 20).asI ≤ 1000 ∧ 0 ≤ (ρ.val 21).asI ∧ (ρ.val 21).asI ≤ 1000)) from rfl, asB_dB, decide_eq_true_eq] at hok
  have e0 : ((rhoO STickS 1920 ρ).val 22).asS = (sR ρ).tick.1.info := by show (ρ.fn 1920 _).asS = _; rw [hf]; rfl
  have e1 : ((rhoO STickS 1920 ρ).val 23).asB = (sR ρ).tick.1.taken := by show (ρ.fn 1921 _).asB = _; rw [hf]; rfl
  have e2 : ((rhoO STickS 1920 ρ).val 24).asI = (sR ρ).tick.1.acked := by show (ρ.fn 1922 _).asI = _; rw [hf]; rfl
  have e3 : ((rhoO STickS 1920 ρ).val 25).asB = (sR ρ).tick.1.failed := by show (ρ.fn 1923 _).asB = _; rw [hf]; rfl
  have e4 : ((rhoO STickS 1920 ρ).val 26).asB = (sR ρ).tick.2.poll := by show (ρ.fn 1924 _).asB = _; rw [hf]; rfl
  have e5 : ((rhoO STickS 1920 ρ).val 27).asB = (sR ρ).tick.2.asks := by show (ρ.fn 1925 _).asB = _; rw [hf]; rfl
  have e6 : ((rhoO STickS 1920 ρ).val 28).asB = (sR ρ).tick.2.failed := by show (ρ.fn 1926 _).asB = _; rw [hf]; rfl
  have e7 : ((rhoO STickS 1920 ρ).val 29).asI = (sR ρ).tick.2.tries := by show (ρ.fn 1927 _).asI = _; rw [hf]; rfl
  have e8 : ((rhoO STickS 1920 ρ).val 30).asI = (sR ρ).tick.2.left := by show (ρ.fn 1928 _).asI = _; rw [hf]; rfl
  have w1 : IntKind.i64.wrap ((ρ.val 21).asI - 1) = (ρ.val 21).asI - 1 := i64wrap (by omega) (by omega)
  have w2 : IntKind.i64.wrap ((ρ.val 20).asI + 1) = (ρ.val 20).asI + 1 := i64wrap (by omega) (by omega)
  unfold tTickS
  repeat' (first | (refine sel_fork (fun h => ?_) (fun h => ?_) <;> (try simp only [gtr_t, gtr_f, eql_t, eql_f, lss_t, lss_f, leq_t, leq_f, geq_t, geq_f, not_t, not_f, d_sub, d_add, w1, w2, d_var, d_ci, d_cb, reduceCtorEq] at h)) | refine sel_leaf ?_)
  all_goals first | (exfalso; omega) | ((simp only [eI, eB, eS, eL, eN, d_var, d_ci, d_cb, d_cs, e0, e1, e2, e3, e4, e5, e6, e7, e8, d_sub, d_add, w1, w2, and_true, true_and]) <;> ((simp [SSt.tick, Act.none, *] <;> (first | done | (repeat (split <;> (try simp_all) <;> (try omega)))))))
theorem next_okS {env : Env} (h : SNextS.tree Try.prog env 72 = tNextS) : SumOK Try.prog env 72 SNextS 1536 15 (fnOf mSid) := by
  intro ρ hf hok
  rw [h]
  rw [show fnOf mSid (1536 + 15) (tupD ρ.val SNextS.us) = .dB (decide ((0 ≤ (ρ.val 3).asI ∧ 0 ≤ (ρ.val 4).asI ∧ (ρ.val 4).asI ≤ 100000 ∧ (ρ.val 3).asI + (ρ.val 4).asI ≤ ((ρ.val 5).asL.length : Int) ∧ 0 ≤ (ρ.val 6).asI ∧ (ρ.val 6).asI ≤ 100000 ∧ 0 ≤ (ρ.val 7).asI ∧ (ρ.val 7).asI ≤ 100000 ∧ 0 ≤ (ρ.val 8).asI ∧ (ρ.val 8).asI ≤ 100000 ∧ 0 ≤ (ρ.val 9).asI ∧ (ρ.val 9).asI ≤ 100000))) from rfl, asB_dB, decide_eq_true_eq] at hok
  have e0 : ((rhoO SNextS 1536 ρ).val 22).asI = (sR ρ).next.1.d := by show (ρ.fn 1536 _).asI = _; rw [hf]; rfl
  have e1 : ((rhoO SNextS 1536 ρ).val 23).asB = (sR ρ).next.1.c := by show (ρ.fn 1537 _).asB = _; rw [hf]; rfl
  have e2 : ((rhoO SNextS 1536 ρ).val 24).asI = (sR ρ).next.1.k := by show (ρ.fn 1538 _).asI = _; rw [hf]; rfl
  have e3 : ((rhoO SNextS 1536 ρ).val 25).asB = (sR ρ).next.1.pf := by show (ρ.fn 1539 _).asB = _; rw [hf]; rfl
  have e4 : ((rhoO SNextS 1536 ρ).val 26).asI = (sR ρ).next.1.ns := by show (ρ.fn 1540 _).asI = _; rw [hf]; rfl
  have e5 : ((rhoO SNextS 1536 ρ).val 27).asI = (sR ρ).next.1.nr := by show (ρ.fn 1541 _).asI = _; rw [hf]; rfl
  have e6 : ((rhoO SNextS 1536 ρ).val 28).asS = (sR ρ).next.1.info := by show (ρ.fn 1542 _).asS = _; rw [hf]; rfl
  have e7 : ((rhoO SNextS 1536 ρ).val 29).asB = (sR ρ).next.2.1 := by show (ρ.fn 1543 _).asB = _; rw [hf]; rfl
  have e8 : ((rhoO SNextS 1536 ρ).val 30).asI = (sR ρ).next.2.2.sent := by show (ρ.fn 1544 _).asI = _; rw [hf]; rfl
  have e9 : ((rhoO SNextS 1536 ρ).val 31).asI = (sR ρ).next.2.2.top := by show (ρ.fn 1545 _).asI = _; rw [hf]; rfl
  have e10 : ((rhoO SNextS 1536 ρ).val 32).asB = (sR ρ).next.2.2.due := by show (ρ.fn 1546 _).asB = _; rw [hf]; rfl
  have e11 : ((rhoO SNextS 1536 ρ).val 33).asB = (sR ρ).next.2.2.final := by show (ρ.fn 1547 _).asB = _; rw [hf]; rfl
  have e12 : ((rhoO SNextS 1536 ρ).val 34).asB = (sR ρ).next.2.2.reject := by show (ρ.fn 1548 _).asB = _; rw [hf]; rfl
  have e13 : ((rhoO SNextS 1536 ρ).val 35).asB = (sR ρ).next.2.2.poll := by show (ρ.fn 1549 _).asB = _; rw [hf]; rfl
  have e14 : ((rhoO SNextS 1536 ρ).val 36).asI = (sR ρ).next.2.2.left := by show (ρ.fn 1550 _).asI = _; rw [hf]; rfl
  have w1 : IntKind.i64.wrap ((ρ.val 7).asI + 1) = (ρ.val 7).asI + 1 := i64wrap (by omega) (by omega)
  have w2 : IntKind.u8.wrap ((ρ.val 9).asI % 8) = (ρ.val 9).asI % 8 := u8wrap (by omega) (by omega)
  have w3 : IntKind.u8.wrap ((ρ.val 7).asI % 8) = (ρ.val 7).asI % 8 := u8wrap (by omega) (by omega)
  have r1 : (ρ.val 9).asI.tmod 8 = (ρ.val 9).asI % 8 := tmod8 (by omega)
  have r2 : (ρ.val 7).asI.tmod 8 = (ρ.val 7).asI % 8 := tmod8 (by omega)
  have h5 : (@Tm.den ρ (.app 1345 tNextS_0)).asB = true := by rw [ap1345 hf]; exact decide_eq_true (by simp only [d_var]; omega)
  have h6 : (@Tm.den ρ (.app 1345 tNextS_1)).asB = true := by rw [ap1345 hf]; exact decide_eq_true (by simp only [d_var]; omega)
  have h4 : (@Tm.den ρ (.app 1344 tNextS_0)).asI = cntS (ρ.val 2).asI (ρ.val 4).asI (ρ.val 6).asI (ρ.val 7).asI (ρ.val 14).asB (ρ.val 17).asB (ρ.val 18).asB (ρ.val 19).asB (ρ.val 21).asI false := by rw [ap1344 hf]; rfl
  have h7 : (@Tm.den ρ (.app 1344 tNextS_1)).asI = cntS (ρ.val 2).asI (ρ.val 4).asI (ρ.val 6).asI ((ρ.val 7).asI + 1) (ρ.val 14).asB (ρ.val 17).asB (ρ.val 18).asB (ρ.val 19).asB (ρ.val 21).asI false := by rw [ap1344 hf, d_add]; simp only [d_var, d_ci, d_cb, w1]
  have hmax : (@Tm.den ρ tNextS_2).asI = max (ρ.val 8).asI ((ρ.val 7).asI + 1) := by
    simp only [tNextS_2, d_ite]
    cases hc : (@Tm.den ρ (.ib .gtr .i64 (.ib .add .i64 (vt 7) (.ci 1)) (vt 8))).asB with
    | true => simp only [gtr_t, d_add, d_var, d_ci, w1] at hc; simp only [cond_true, d_add, d_var, d_ci, w1]; omega
    | false => simp only [gtr_f, d_add, d_var, d_ci, w1] at hc; simp only [cond_false, d_var]; omega
  have hg : (@Tm.den ρ (.lget (vt 5) (.plus (vt 3) (vt 7)) 0)).asS = infoAt (ρ.val 5).asL ((ρ.val 3).asI + (ρ.val 7).asI) := by rw [d_lget, d_plus]; rfl
  unfold tNextS
  repeat' (first | (refine sel_fork (fun h => ?_) (fun h => ?_) <;> (try simp only [lss_t, lss_f, leq_t, leq_f, not_t, not_f, and_t, and_f, d_add, d_wrap, d_rem, r1, r2, w1, w2, w3, h5, h6, h4, h7, hmax, hg, d_var, d_ci, d_cb, reduceCtorEq] at h)) | refine sel_leaf ?_)
  all_goals first | (exfalso; omega) | ((simp only [eI, eB, eS, eL, eN, d_var, d_ci, d_cb, d_cs, e0, e1, e2, e3, e4, e5, e6, e7, e8, e9, e10, e11, e12, e13, e14, d_add, d_wrap, d_rem, r1, r2, w1, w2, w3, h5, h6, h4, h7, hmax, hg, and_true, true_and]) <;> ((simp [SSt.next, SSt.count, Frm.none, *] <;> skip)))
set_option maxHeartbeats 4000000 in
theorem hear_okS {env : Env} (h : SHearS.tree Try.prog env 74 = tHearS) : SumOK Try.prog env 74 SHearS 1728 17 (fnOf mSid) := by
  intro ρ hf hok
  rw [h]
  rw [show fnOf mSid (1728 + 17) (tupD ρ.val SHearS.us) = .dB (decide (((0 ≤ (ρ.val 3).asI ∧ 0 ≤ (ρ.val 4).asI ∧ (ρ.val 4).asI ≤ 100000 ∧ (ρ.val 3).asI + (ρ.val 4).asI ≤ ((ρ.val 5).asL.length : Int) ∧ 0 ≤ (ρ.val 6).asI ∧ (ρ.val 6).asI ≤ 100000 ∧ 0 ≤ (ρ.val 7).asI ∧ (ρ.val 7).asI ≤ 100000 ∧ 0 ≤ (ρ.val 8).asI ∧ (ρ.val 8).asI ≤ 100000 ∧ 0 ≤ (ρ.val 9).asI ∧ (ρ.val 9).asI ≤ 100000)) ∧ (ρ.val 8).asI - (ρ.val 6).asI ≤ 7 ∧ 0 ≤ (ρ.val 26).asI ∧ (ρ.val 26).asI ≤ 255 ∧ 0 ≤ (ρ.val 27).asI ∧ (ρ.val 27).asI ≤ 255)) from rfl, asB_dB, decide_eq_true_eq] at hok
  have e0 : ((rhoO SHearS 1728 ρ).val 29).asS = ((sR ρ).hear (fR ρ 22)).1.info := by show (ρ.fn 1728 _).asS = _; rw [hf]; rfl
  have e1 : ((rhoO SHearS 1728 ρ).val 30).asB = ((sR ρ).hear (fR ρ 22)).1.taken := by show (ρ.fn 1729 _).asB = _; rw [hf]; rfl
  have e2 : ((rhoO SHearS 1728 ρ).val 31).asI = ((sR ρ).hear (fR ρ 22)).1.acked := by show (ρ.fn 1730 _).asI = _; rw [hf]; rfl
  have e3 : ((rhoO SHearS 1728 ρ).val 32).asB = ((sR ρ).hear (fR ρ 22)).1.failed := by show (ρ.fn 1731 _).asB = _; rw [hf]; rfl
  have e4 : ((rhoO SHearS 1728 ρ).val 33).asI = ((sR ρ).hear (fR ρ 22)).2.acked := by show (ρ.fn 1732 _).asI = _; rw [hf]; rfl
  have e5 : ((rhoO SHearS 1728 ρ).val 34).asI = ((sR ρ).hear (fR ρ 22)).2.sent := by show (ρ.fn 1733 _).asI = _; rw [hf]; rfl
  have e6 : ((rhoO SHearS 1728 ρ).val 35).asI = ((sR ρ).hear (fR ρ 22)).2.got := by show (ρ.fn 1734 _).asI = _; rw [hf]; rfl
  have e7 : ((rhoO SHearS 1728 ρ).val 36).asB = ((sR ρ).hear (fR ρ 22)).2.due := by show (ρ.fn 1735 _).asB = _; rw [hf]; rfl
  have e8 : ((rhoO SHearS 1728 ρ).val 37).asB = ((sR ρ).hear (fR ρ 22)).2.final := by show (ρ.fn 1736 _).asB = _; rw [hf]; rfl
  have e9 : ((rhoO SHearS 1728 ρ).val 38).asB = ((sR ρ).hear (fR ρ 22)).2.reject := by show (ρ.fn 1737 _).asB = _; rw [hf]; rfl
  have e10 : ((rhoO SHearS 1728 ρ).val 39).asB = ((sR ρ).hear (fR ρ 22)).2.poll := by show (ρ.fn 1738 _).asB = _; rw [hf]; rfl
  have e11 : ((rhoO SHearS 1728 ρ).val 40).asB = ((sR ρ).hear (fR ρ 22)).2.pb := by show (ρ.fn 1739 _).asB = _; rw [hf]; rfl
  have e12 : ((rhoO SHearS 1728 ρ).val 41).asB = ((sR ρ).hear (fR ρ 22)).2.rejs := by show (ρ.fn 1740 _).asB = _; rw [hf]; rfl
  have e13 : ((rhoO SHearS 1728 ρ).val 42).asB = ((sR ρ).hear (fR ρ 22)).2.asks := by show (ρ.fn 1741 _).asB = _; rw [hf]; rfl
  have e14 : ((rhoO SHearS 1728 ρ).val 43).asB = ((sR ρ).hear (fR ρ 22)).2.failed := by show (ρ.fn 1742 _).asB = _; rw [hf]; rfl
  have e15 : ((rhoO SHearS 1728 ρ).val 44).asI = ((sR ρ).hear (fR ρ 22)).2.tries := by show (ρ.fn 1743 _).asI = _; rw [hf]; rfl
  have e16 : ((rhoO SHearS 1728 ρ).val 45).asI = ((sR ρ).hear (fR ρ 22)).2.left := by show (ρ.fn 1744 _).asI = _; rw [hf]; rfl
  have t1600 : (@Tm.den ρ (.app 1600 (tp [vt 6, vt 8, vt 27]))).asI = (ackn (ρ.val 6).asI (ρ.val 8).asI (ρ.val 27).asI).1 := by rw [d_app, hf]; rfl
  have t1601 : (@Tm.den ρ (.app 1601 (tp [vt 6, vt 8, vt 27]))).asB = (ackn (ρ.val 6).asI (ρ.val 8).asI (ρ.val 27).asI).2 := by rw [d_app, hf]; rfl
  have t1602 : (@Tm.den ρ (.app 1602 (tp [vt 6, vt 8, vt 27]))).asB = true := by
    rw [d_app, hf]
    show decide (0 ≤ (ρ.val 6).asI ∧ (ρ.val 8).asI ≤ 100000 ∧ (ρ.val 8).asI - (ρ.val 6).asI ≤ 7 ∧ 0 ≤ (ρ.val 27).asI ∧ (ρ.val 27).asI ≤ 255) = true
    exact decide_eq_true (by omega)
  have hr : 0 ≤ (ackn (ρ.val 6).asI (ρ.val 8).asI (ρ.val 27).asI).1 ∧ (ackn (ρ.val 6).asI (ρ.val 8).asI (ρ.val 27).asI).1 ≤ 100000 := by
    unfold ackn
    split
    · have : 0 ≤ way8 (ρ.val 6).asI (ρ.val 27).asI := by unfold way8; omega
      exact ⟨by simp only; omega, by simp only; omega⟩
    · exact ⟨by simp, by simp⟩
  have w1 : IntKind.i64.wrap ((ackn (ρ.val 6).asI (ρ.val 8).asI (ρ.val 27).asI).1 - (ρ.val 6).asI) = (ackn (ρ.val 6).asI (ρ.val 8).asI (ρ.val 27).asI).1 - (ρ.val 6).asI := i64wrap (by omega) (by omega)
  have hs : (@Tm.den ρ (.ib .sub .i64 (.app 1600 (tp [vt 6, vt 8, vt 27])) (vt 6))).asI = (ackn (ρ.val 6).asI (ρ.val 8).asI (ρ.val 27).asI).1 - (ρ.val 6).asI := by rw [d_sub, t1600, d_var, w1]
  have t1664 : (@Tm.den ρ (.app 1664 tHearS_5)).asS = (takS (ρ.val 9).asI (ρ.val 10).asB (ρ.val 12).asB (ρ.val 15).asB (ρ.val 16).asB (ρ.val 26).asI (ρ.val 28).asS ⟨[], false, (ackn (ρ.val 6).asI (ρ.val 8).asI (ρ.val 27).asI).1 - (ρ.val 6).asI, false⟩).1.info := by rw [← hs, d_app, hf]; rfl
  have t1665 : (@Tm.den ρ (.app 1665 tHearS_5)).asB = (takS (ρ.val 9).asI (ρ.val 10).asB (ρ.val 12).asB (ρ.val 15).asB (ρ.val 16).asB (ρ.val 26).asI (ρ.val 28).asS ⟨[], false, (ackn (ρ.val 6).asI (ρ.val 8).asI (ρ.val 27).asI).1 - (ρ.val 6).asI, false⟩).1.taken := by rw [← hs, d_app, hf]; rfl
  have t1666 : (@Tm.den ρ (.app 1666 tHearS_5)).asI = (takS (ρ.val 9).asI (ρ.val 10).asB (ρ.val 12).asB (ρ.val 15).asB (ρ.val 16).asB (ρ.val 26).asI (ρ.val 28).asS ⟨[], false, (ackn (ρ.val 6).asI (ρ.val 8).asI (ρ.val 27).asI).1 - (ρ.val 6).asI, false⟩).1.acked := by rw [← hs, d_app, hf]; rfl
  have t1667 : (@Tm.den ρ (.app 1667 tHearS_5)).asB = (takS (ρ.val 9).asI (ρ.val 10).asB (ρ.val 12).asB (ρ.val 15).asB (ρ.val 16).asB (ρ.val 26).asI (ρ.val 28).asS ⟨[], false, (ackn (ρ.val 6).asI (ρ.val 8).asI (ρ.val 27).asI).1 - (ρ.val 6).asI, false⟩).1.failed := by rw [← hs, d_app, hf]; rfl
  have t1668 : (@Tm.den ρ (.app 1668 tHearS_5)).asI = (takS (ρ.val 9).asI (ρ.val 10).asB (ρ.val 12).asB (ρ.val 15).asB (ρ.val 16).asB (ρ.val 26).asI (ρ.val 28).asS ⟨[], false, (ackn (ρ.val 6).asI (ρ.val 8).asI (ρ.val 27).asI).1 - (ρ.val 6).asI, false⟩).2.1 := by rw [← hs, d_app, hf]; rfl
  have t1669 : (@Tm.den ρ (.app 1669 tHearS_5)).asB = (takS (ρ.val 9).asI (ρ.val 10).asB (ρ.val 12).asB (ρ.val 15).asB (ρ.val 16).asB (ρ.val 26).asI (ρ.val 28).asS ⟨[], false, (ackn (ρ.val 6).asI (ρ.val 8).asI (ρ.val 27).asI).1 - (ρ.val 6).asI, false⟩).2.2.1 := by rw [← hs, d_app, hf]; rfl
  have t1670 : (@Tm.den ρ (.app 1670 tHearS_5)).asB = (takS (ρ.val 9).asI (ρ.val 10).asB (ρ.val 12).asB (ρ.val 15).asB (ρ.val 16).asB (ρ.val 26).asI (ρ.val 28).asS ⟨[], false, (ackn (ρ.val 6).asI (ρ.val 8).asI (ρ.val 27).asI).1 - (ρ.val 6).asI, false⟩).2.2.2.1 := by rw [← hs, d_app, hf]; rfl
  have t1671 : (@Tm.den ρ (.app 1671 tHearS_5)).asB = (takS (ρ.val 9).asI (ρ.val 10).asB (ρ.val 12).asB (ρ.val 15).asB (ρ.val 16).asB (ρ.val 26).asI (ρ.val 28).asS ⟨[], false, (ackn (ρ.val 6).asI (ρ.val 8).asI (ρ.val 27).asI).1 - (ρ.val 6).asI, false⟩).2.2.2.2 := by rw [← hs, d_app, hf]; rfl
  have t1672 : (@Tm.den ρ (.app 1672 tHearS_5)).asB = true := by
    rw [d_app, hf]
    show decide (0 ≤ (ρ.val 9).asI ∧ (ρ.val 9).asI ≤ 100000 ∧ 0 ≤ (ρ.val 26).asI ∧ (ρ.val 26).asI ≤ 255) = true
    exact decide_eq_true (by omega)
  have hmax : (@Tm.den ρ tHearS_3).asI = max (ρ.val 7).asI (ackn (ρ.val 6).asI (ρ.val 8).asI (ρ.val 27).asI).1 := by
    simp only [tHearS_3, d_ite]
    cases hc : (@Tm.den ρ (.ib .gtr .i64 (.app 1600 (tp [vt 6, vt 8, vt 27])) (vt 7))).asB with
    | true => simp only [gtr_t, d_var, t1600] at hc; simp only [cond_true, t1600]; omega
    | false => simp only [gtr_f, d_var, t1600] at hc; simp only [cond_false, d_var]; omega
  have d1 : (@Tm.den ρ (.app 1345 tHearS_1)).asB = true := by rw [ap1345 hf, t1600]; exact decide_eq_true (by simp only [d_var]; omega)
  have d2 : (@Tm.den ρ (.app 1345 tHearS_2)).asB = true := by rw [ap1345 hf, t1600]; exact decide_eq_true (by simp only [d_var]; omega)
  have d4 : (@Tm.den ρ (.app 1345 tHearS_4)).asB = true := by rw [ap1345 hf, t1600]; exact decide_eq_true (by simp only [d_var]; omega)
  have d6 : (@Tm.den ρ (.app 1345 tHearS_6)).asB = true := by rw [ap1345 hf, t1600]; exact decide_eq_true (by simp only [d_var]; omega)
  have d7 : (@Tm.den ρ (.app 1345 tHearS_7)).asB = true := by rw [ap1345 hf, t1600]; exact decide_eq_true (by simp only [d_var]; omega)
  have d8 : (@Tm.den ρ (.app 1345 tHearS_8)).asB = true := by rw [ap1345 hf, t1600]; exact decide_eq_true (by simp only [d_var]; omega)
  have hK : (@Tm.den ρ (.ib .eql .u8 (vt 24) (.ci 9))).asB = decide ((ρ.val 24).asI = 9) := by rw [d_eql]; rfl
  have hK1 : (@Tm.den ρ (.ib .eql .u8 (vt 24) (.ci 10))).asB = decide ((ρ.val 24).asI = 10) := by rw [d_eql]; rfl
  unfold tHearS
  repeat' (first | (refine sel_fork (fun h => ?_) (fun h => ?_) <;> (try simp only [neq_t, neq_f, gtr_t, gtr_f, not_t, not_f, t1600, t1601, t1602, hs, t1664, t1665, t1666, t1667, t1668, t1669, t1670, t1671, t1672, hmax, d1, d2, d4, d6, d7, d8, hK, hK1, decide_eq_true_eq, decide_eq_false_iff_not, ap1344 hf, d_gtr, Int.sub_pos, d_var, d_ci, d_cb, reduceCtorEq] at h)) | refine sel_leaf ?_)
  all_goals first | (exfalso; omega) | ((simp only [eI, eB, eS, eL, eN, d_var, d_ci, d_cb, d_cs, e0, e1, e2, e3, e4, e5, e6, e7, e8, e9, e10, e11, e12, e13, e14, e15, e16, t1600, t1601, t1602, hs, t1664, t1665, t1666, t1667, t1668, t1669, t1670, t1671, t1672, hmax, d1, d2, d4, d6, d7, d8, hK, hK1, decide_eq_true_eq, decide_eq_false_iff_not, ap1344 hf, d_gtr, Int.sub_pos, and_true, true_and]) <;> ((simp [SSt.hear, SSt.count, SSt.kind, SSt.answered, SSt.take, SSt.polled, Act.none, *] <;> (try (intros; first | omega | (exfalso; simp_all; done) | (exfalso; simp_all; omega))))))
end Go.Proofs.Ytlbkficdelepeaa.Ab
