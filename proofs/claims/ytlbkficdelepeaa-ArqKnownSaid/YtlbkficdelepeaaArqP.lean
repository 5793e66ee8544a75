/-
  What the program's side of chapter 15 does, function by function: the trees of answers are the plain functions.
  Conditions: as each theorem tells.
-/
import Derived.Test.YtlbkficdelepeaaArqT
import Derived.Test.YtlbkficdelepeaaSidM
namespace Go.Proofs.Ytlbkficdelepeaa.Ab
set_option linter.unusedSimpArgs false
set_option linter.unusedVariables false
open Go
set_option linter.unusedSimpArgs false
theorem count_ok {env : Env} (h : SCount.tree Try.prog env 82 = tCount) : SumOK Try.prog env 82 SCount 320 1 (fnOf mSid) := by
  intro ρ hf hok
  rw [h]
  have e25 : ((rhoO SCount 320 ρ).val 25).asI = cntL (ρ.val 4).asI (ρ.val 6).asI (ρ.val 7).asB (ρ.val 10).asB (ρ.val 11).asB (ρ.val 12).asB (ρ.val 15).asI (ρ.val 17).asI (ρ.val 24).asB := by
    show (ρ.fn 320 _).asI = _
    rw [hf]; rfl
  unfold tCount
  repeat' (first | (refine sel_fork (fun h => ?_) (fun h => ?_)) | refine sel_leaf ?_)
  all_goals
    simp only [eql_t, eql_f, leq_t, leq_f, not_t, not_f, d_var, d_ci] at *
    simp only [eI, eN, d_var, d_ci, e25, and_true]
    simp_all [cntL]
theorem add_ok {env : Env} (h : SAdd.tree Try.prog env 69 = tAdd) : SumOK Try.prog env 69 SAdd 128 1 (fnOf mSid) := by
  intro ρ hf hok
  rw [h]
  have e : ((rhoO SAdd 128 ρ).val 2).asI = add8 (ρ.val 0).asI (ρ.val 1).asI := by
    show (ρ.fn 128 _).asI = _
    rw [hf]; rfl
  refine sel_leaf ?_
  simp only [eI, eN, d_var, e, and_true, d_wrap, and7, d_add, d_ci, i64wrap_mod8]
  rw [u8wrap (x := (ρ.val 0).asI % 8) (by omega) (by omega), i64wrap (x := (ρ.val 0).asI % 8) (by omega) (by omega), u8wrap (by omega) (by omega)]
  rfl
theorem way_ok {env : Env} (h : SWay.tree Try.prog env 104 = tWay) : SumOK Try.prog env 104 SWay 192 1 (fnOf mSid) := by
  intro ρ hf hok
  rw [h]
  have e : ((rhoO SWay 192 ρ).val 2).asI = way8 (ρ.val 0).asI (ρ.val 1).asI := by
    show (ρ.fn 192 _).asI = _
    rw [hf]; rfl
  refine sel_leaf ?_
  simp only [eI, eN, d_var, e, and_true, d_wrap, and7, d_sub, d_ci, i64wrap_mod8]
  rw [u8wrap (x := (ρ.val 0).asI % 8) (by omega) (by omega), i64wrap (x := (ρ.val 0).asI % 8) (by omega) (by omega), u8wrap (x := (ρ.val 1).asI % 8) (by omega) (by omega), i64wrap (x := (ρ.val 1).asI % 8) (by omega) (by omega), u8wrap (by omega) (by omega), i64wrap (by omega) (by omega)]
  rfl
theorem acks_ok {env : Env} (h : SAcks.tree Try.prog env 83 = tAcks) : SumOK Try.prog env 83 SAcks 256 2 (fnOf mSid) := by
  intro ρ hf hok
  rw [h]
  have e3 : ((rhoO SAcks 256 ρ).val 3).asI = (acks8 (ρ.val 0).asI (ρ.val 1).asI (ρ.val 2).asI).1 := by
    show (ρ.fn 256 _).asI = _
    rw [hf]; rfl
  have e4 : ((rhoO SAcks 256 ρ).val 4).asB = (acks8 (ρ.val 0).asI (ρ.val 1).asI (ρ.val 2).asI).2 := by
    show (ρ.fn 257 _).asB = _
    rw [hf]; rfl
  have a1 : (@Tm.den ρ (.app 192 (tp [vt 0, vt 2]))).asI = way8 (ρ.val 0).asI (ρ.val 2).asI := by rw [d_app, hf]; rfl
  have a2 : (@Tm.den ρ (.app 192 (tp [vt 0, vt 1]))).asI = way8 (ρ.val 0).asI (ρ.val 1).asI := by rw [d_app, hf]; rfl
  have a3 : ∀ x, (@Tm.den ρ (.app 193 (tp x))).asB = true := fun x => by rw [d_app, hf]; rfl
  unfold tAcks
  repeat' (first | (refine sel_fork (fun h => ?_) (fun h => ?_) <;> (try simp only [gtr_t, gtr_f, a1, a2, a3, d_var, d_ci, reduceCtorEq] at h)) | refine sel_leaf ?_)
  all_goals
    simp only [eI, eB, eN, d_var, d_ci, d_cb, e3, e4, a1, and_true, acks8]
    rename_i h
    first | (rw [if_pos (by omega)]; exact ⟨rfl, rfl⟩) | (rw [if_neg (by omega)]; exact ⟨rfl, rfl⟩)
theorem acked_ok {env : Env} (h : SAcked.tree Try.prog env 85 = tAcked) : SumOK Try.prog env 85 SAcked 384 6 (fnOf mSid) := by
  intro ρ hf hok
  rw [h]
  rw [show fnOf mSid (384 + 6) (tupD ρ.val SAcked.us) = .dB (decide (0 ≤ (ρ.val 24).asI ∧ (ρ.val 24).asI ≤ (ρ.val 17).asI ∧ (ρ.val 24).asI ≤ 100 ∧ 0 ≤ (ρ.val 4).asI ∧ (ρ.val 4).asI ≤ 100 ∧ 0 ≤ (ρ.val 19).asI ∧ (ρ.val 19).asI ≤ 100)) from rfl, asB_dB, decide_eq_true_eq] at hok
  have e0 : ((rhoO SAcked 384 ρ).val 25).asI = add8 (ρ.val 0).asI (ρ.val 24).asI := by show (ρ.fn 384 _).asI = _; rw [hf]; rfl
  have e1 : ((rhoO SAcked 384 ρ).val 26).asI = max 0 ((ρ.val 4).asI - (ρ.val 24).asI) := by show (ρ.fn 385 _).asI = _; rw [hf]; rfl
  have e2 : ((rhoO SAcked 384 ρ).val 27).asI = if (ρ.val 24).asI > 0 then 0 else (ρ.val 5).asI := by show (ρ.fn 386 _).asI = _; rw [hf]; rfl
  have e3 : ((rhoO SAcked 384 ρ).val 28).asI = (ρ.val 16).asI + (ρ.val 24).asI := by show (ρ.fn 387 _).asI = _; rw [hf]; rfl
  have e4 : ((rhoO SAcked 384 ρ).val 29).asI = (ρ.val 17).asI - (ρ.val 24).asI := by show (ρ.fn 388 _).asI = _; rw [hf]; rfl
  have e5 : ((rhoO SAcked 384 ρ).val 30).asI = (ρ.val 19).asI - (ρ.val 24).asI := by show (ρ.fn 389 _).asI = _; rw [hf]; rfl
  have a1 : (@Tm.den ρ (.app 128 (tp [vt 0, vt 24]))).asI = add8 (ρ.val 0).asI (ρ.val 24).asI := by rw [d_app, hf]; rfl
  have a3 : ∀ x, (@Tm.den ρ (.app 129 (tp x))).asB = true := fun x => by rw [d_app, hf]; rfl
  have c0 : (@Tm.den ρ tAcked_0).asB = true := by
    simp only [tAcked_0, and_t, leq_t, d_var, d_ci]; omega
  have c1 : (@Tm.den ρ tAcked_1).asI = max 0 ((ρ.val 4).asI - (ρ.val 24).asI) := by
    simp only [tAcked_1, d_ite]
    cases hc : (@Tm.den ρ (.ib .gtr .i64 (.ib .sub .i64 (vt 4) (vt 24)) (.ci 0))).asB with
    | true =>
      simp only [gtr_t, d_sub, d_var, d_ci] at hc
      rw [i64wrap (by omega) (by omega)] at hc
      simp only [cond_true, d_sub, d_var]
      rw [i64wrap (by omega) (by omega)]; omega
    | false =>
      simp only [gtr_f, d_sub, d_var, d_ci] at hc
      rw [i64wrap (by omega) (by omega)] at hc
      simp only [cond_false, d_ci]
      omega
  unfold tAcked
  repeat' (first | (refine sel_fork (fun h => ?_) (fun h => ?_) <;> (try simp only [gtr_t, gtr_f, a3, c0, d_var, d_ci, reduceCtorEq] at h)) | refine sel_leaf ?_)
  all_goals
    simp only [eI, eN, d_var, d_ci, e0, e1, e2, e3, e4, e5, a1, c1, d_plus, d_minus, d_sub, and_true, true_and]
    rw [i64wrap (by omega) (by omega)]
    first | exact ⟨if_pos (by omega), rfl⟩ | exact ⟨if_neg (by omega), rfl⟩
theorem take_ok {env : Env} (h : STake.tree Try.prog env 86 = tTake) : SumOK Try.prog env 86 STake 448 8 (fnOf mSid) := by
  intro ρ hf hok
  rw [h]
  have e0 : ((rhoO STake 448 ρ).val 31).asS = (tak (ρ.val 2).asI (ρ.val 8).asB (ρ.val 9).asB (ρ.val 20).asB (ρ.val 22).asB (ρ.val 28).asI (ρ.val 30).asS).1.info := by show (ρ.fn 448 _).asS = _; rw [hf]; rfl
  have e1 : ((rhoO STake 448 ρ).val 32).asB = (tak (ρ.val 2).asI (ρ.val 8).asB (ρ.val 9).asB (ρ.val 20).asB (ρ.val 22).asB (ρ.val 28).asI (ρ.val 30).asS).1.taken := by show (ρ.fn 449 _).asB = _; rw [hf]; rfl
  have e2 : ((rhoO STake 448 ρ).val 33).asI = (tak (ρ.val 2).asI (ρ.val 8).asB (ρ.val 9).asB (ρ.val 20).asB (ρ.val 22).asB (ρ.val 28).asI (ρ.val 30).asS).1.acked := by show (ρ.fn 450 _).asI = _; rw [hf]; rfl
  have e3 : ((rhoO STake 448 ρ).val 34).asB = (tak (ρ.val 2).asI (ρ.val 8).asB (ρ.val 9).asB (ρ.val 20).asB (ρ.val 22).asB (ρ.val 28).asI (ρ.val 30).asS).1.failed := by show (ρ.fn 451 _).asB = _; rw [hf]; rfl
  have e4 : ((rhoO STake 448 ρ).val 35).asI = (tak (ρ.val 2).asI (ρ.val 8).asB (ρ.val 9).asB (ρ.val 20).asB (ρ.val 22).asB (ρ.val 28).asI (ρ.val 30).asS).2.1 := by show (ρ.fn 452 _).asI = _; rw [hf]; rfl
  have e5 : ((rhoO STake 448 ρ).val 36).asB = (tak (ρ.val 2).asI (ρ.val 8).asB (ρ.val 9).asB (ρ.val 20).asB (ρ.val 22).asB (ρ.val 28).asI (ρ.val 30).asS).2.2.1 := by show (ρ.fn 453 _).asB = _; rw [hf]; rfl
  have e6 : ((rhoO STake 448 ρ).val 37).asB = (tak (ρ.val 2).asI (ρ.val 8).asB (ρ.val 9).asB (ρ.val 20).asB (ρ.val 22).asB (ρ.val 28).asI (ρ.val 30).asS).2.2.2.2 := by show (ρ.fn 454 _).asB = _; rw [hf]; rfl
  have e7 : ((rhoO STake 448 ρ).val 38).asB = (tak (ρ.val 2).asI (ρ.val 8).asB (ρ.val 9).asB (ρ.val 20).asB (ρ.val 22).asB (ρ.val 28).asI (ρ.val 30).asS).2.2.2.1 := by show (ρ.fn 455 _).asB = _; rw [hf]; rfl
  have a1 : (@Tm.den ρ (.app 128 (tp [vt 2, .ci 1]))).asI = add8 (ρ.val 2).asI 1 := by rw [d_app, hf]; rfl
  have a2 : (@Tm.den ρ (.app 192 (tp [vt 2, vt 28]))).asI = way8 (ρ.val 2).asI (ρ.val 28).asI := by rw [d_app, hf]; rfl
  have a3 : ∀ x, (@Tm.den ρ (.app 129 (tp x))).asB = true := fun x => by rw [d_app, hf]; rfl
  have a4 : ∀ x, (@Tm.den ρ (.app 193 (tp x))).asB = true := fun x => by rw [d_app, hf]; rfl
  unfold tTake
  repeat' (first | (refine sel_fork (fun h => ?_) (fun h => ?_) <;> (try simp only [eql_t, eql_f, not_t, not_f, a2, a3, a4, d_var, d_ci, reduceCtorEq] at h)) | refine sel_leaf ?_)
  all_goals
    simp only [eI, eB, eS, eN, d_var, d_ci, d_cb, d_cs, e0, e1, e2, e3, e4, e5, e6, e7, a1, and_true]
    simp [tak, Act.none, *]
theorem has_ok {env : Env} (h : SHas.tree Try.prog env 30 = tHas) : SumOK Try.prog env 30 SHas 512 1 (fnOf mSid) := by
  intro ρ hf hok
  rw [h]
  have e0 : ((rhoO SHas 512 ρ).val 24).asB = hasB (ρ.val 4).asI (ρ.val 7).asB (ρ.val 10).asB (ρ.val 12).asB (ρ.val 17).asI (ρ.val 20).asB (ρ.val 23).asB := by show (ρ.fn 512 _).asB = _; rw [hf]; rfl
  unfold tHas
  repeat' (first | (refine sel_fork (fun h => ?_) (fun h => ?_) <;> (try simp only [eql_t, eql_f, lss_t, lss_f, not_t, not_f, d_var, d_ci, reduceCtorEq] at h)) | refine sel_leaf ?_)
  all_goals
    simp only [eI, eB, eS, eN, d_var, d_ci, d_cb, d_not, d_lss, e0, and_true]
    simp [hasB, *] <;> rfl
abbrev aR (ρ : Rho) : ASt := ⟨(ρ.val 0).asI, (ρ.val 1).asI, (ρ.val 2).asI, (ρ.val 3).asI, (ρ.val 4).asI, (ρ.val 5).asI, (ρ.val 6).asI, (ρ.val 7).asB, (ρ.val 8).asB, (ρ.val 9).asB, (ρ.val 10).asB, (ρ.val 11).asB, (ρ.val 12).asB, (ρ.val 13).asI, (ρ.val 14).asI, (ρ.val 15).asI, (ρ.val 16).asI, (ρ.val 17).asI, (ρ.val 18).asL, (ρ.val 19).asI, (ρ.val 20).asB, (ρ.val 21).asB, (ρ.val 22).asB, (ρ.val 23).asB⟩
abbrev fR (ρ : Rho) (i : Nat) : Frm := ⟨(ρ.val i).asI, (ρ.val (i + 1)).asB, (ρ.val (i + 2)).asI, (ρ.val (i + 3)).asB, (ρ.val (i + 4)).asI, (ρ.val (i + 5)).asI, (ρ.val (i + 6)).asS⟩
theorem view_ok {env : Env} (h : SView.tree Try.prog env 25 = tView) : SumOK Try.prog env 25 SView 960 13 (fnOf mSid) := by
  intro ρ hf hok
  rw [h]
  have e0 : ((rhoO SView 960 ρ).val 24).asI = (ρ.val 0).asI := by show (ρ.fn 960 _).asI = _; rw [hf]; rfl
  have e1 : ((rhoO SView 960 ρ).val 25).asI = add8 (ρ.val 0).asI (ρ.val 4).asI := by show (ρ.fn 961 _).asI = _; rw [hf]; rfl
  have e2 : ((rhoO SView 960 ρ).val 26).asI = (ρ.val 2).asI := by show (ρ.fn 962 _).asI = _; rw [hf]; rfl
  have e3 : ((rhoO SView 960 ρ).val 27).asI = (ρ.val 17).asI := by show (ρ.fn 963 _).asI = _; rw [hf]; rfl
  have e4 : ((rhoO SView 960 ρ).val 28).asI = (ρ.val 4).asI := by show (ρ.fn 964 _).asI = _; rw [hf]; rfl
  have e5 : ((rhoO SView 960 ρ).val 29).asI = (ρ.val 5).asI := by show (ρ.fn 965 _).asI = _; rw [hf]; rfl
  have e6 : ((rhoO SView 960 ρ).val 30).asI = (ρ.val 6).asI := by show (ρ.fn 966 _).asI = _; rw [hf]; rfl
  have e7 : ((rhoO SView 960 ρ).val 31).asB = (ρ.val 7).asB := by show (ρ.fn 967 _).asB = _; rw [hf]; rfl
  have e8 : ((rhoO SView 960 ρ).val 32).asB = (ρ.val 8).asB := by show (ρ.fn 968 _).asB = _; rw [hf]; rfl
  have e9 : ((rhoO SView 960 ρ).val 33).asB = (ρ.val 9).asB := by show (ρ.fn 969 _).asB = _; rw [hf]; rfl
  have e10 : ((rhoO SView 960 ρ).val 34).asB = (ρ.val 10).asB := by show (ρ.fn 970 _).asB = _; rw [hf]; rfl
  have e11 : ((rhoO SView 960 ρ).val 35).asB = (ρ.val 11).asB := by show (ρ.fn 971 _).asB = _; rw [hf]; rfl
  have e12 : ((rhoO SView 960 ρ).val 36).asB = (ρ.val 12).asB := by show (ρ.fn 972 _).asB = _; rw [hf]; rfl
  have a1 : (@Tm.den ρ (.app 128 (tp [vt 0, vt 4]))).asI = add8 (ρ.val 0).asI (ρ.val 4).asI := by rw [d_app, hf]; rfl
  have a3 : (@Tm.den ρ (.app 129 (tp [vt 0, vt 4]))).asB = true := by rw [d_app, hf]; rfl
  unfold tView
  repeat' (first | (refine sel_fork (fun h => ?_) (fun h => ?_) <;> (try simp only [gtr_t, gtr_f, eql_t, eql_f, lss_t, lss_f, leq_t, leq_f, geq_t, geq_f, not_t, not_f, a1, a3, d_var, d_ci, d_cb, reduceCtorEq] at h)) | refine sel_leaf ?_)
  all_goals first | (exfalso; omega) | ((simp only [eI, eB, eS, eL, eN, d_var, d_ci, d_cb, d_cs, e0, e1, e2, e3, e4, e5, e6, e7, e8, e9, e10, e11, e12, a1, a3, and_true, true_and]) <;> ((try simp [*]) <;> (try rfl)))
theorem busy_ok {env : Env} (h : SBusy.tree Try.prog env 34 = tBusy) : SumOK Try.prog env 34 SBusy 768 3 (fnOf mSid) := by
  intro ρ hf hok
  rw [h]
  have e0 : ((rhoO SBusy 768 ρ).val 25).asI = ((aR ρ).setBusy (ρ.val 24).asB).left := by show (ρ.fn 768 _).asI = _; rw [hf]; rfl
  have e1 : ((rhoO SBusy 768 ρ).val 26).asB = ((aR ρ).setBusy (ρ.val 24).asB).busy := by show (ρ.fn 769 _).asB = _; rw [hf]; rfl
  have e2 : ((rhoO SBusy 768 ρ).val 27).asB = ((aR ρ).setBusy (ρ.val 24).asB).due := by show (ρ.fn 770 _).asB = _; rw [hf]; rfl
  have a1 : (@Tm.den ρ (.app 320 (tp [vt 4, vt 6, vt 7, vt 10, vt 11, vt 12, vt 15, vt 17, .cb false]))).asI = cntL (ρ.val 4).asI (ρ.val 6).asI (ρ.val 7).asB (ρ.val 10).asB (ρ.val 11).asB (ρ.val 12).asB (ρ.val 15).asI (ρ.val 17).asI false := by rw [d_app, hf]; rfl
  have a3 : (@Tm.den ρ (.app 321 (tp [vt 4, vt 6, vt 7, vt 10, vt 11, vt 12, vt 15, vt 17, .cb false]))).asB = true := by rw [d_app, hf]; rfl
  unfold tBusy
  repeat' (first | (refine sel_fork (fun h => ?_) (fun h => ?_) <;> (try simp only [beq_t, beq_f, gtr_t, gtr_f, eql_t, eql_f, not_t, not_f, a1, a3, d_var, d_ci, d_cb, reduceCtorEq] at h)) | refine sel_leaf ?_)
  all_goals first | (exfalso; omega) | ((simp only [eI, eB, eS, eL, eN, d_var, d_ci, d_cb, d_cs, e0, e1, e2, a1, a3, and_true, true_and]) <;> ((try simp [ASt.setBusy, ASt.count, *]) <;> (try rfl)))
theorem want_ok {env : Env} (h : SWant.tree Try.prog env 35 = tWant) : SumOK Try.prog env 35 SWant 832 2 (fnOf mSid) := by
  intro ρ hf hok
  rw [h]
  have e0 : ((rhoO SWant 832 ρ).val 25).asI = ((aR ρ).setWant (ρ.val 24).asB).left := by show (ρ.fn 832 _).asI = _; rw [hf]; rfl
  have e1 : ((rhoO SWant 832 ρ).val 26).asB = ((aR ρ).setWant (ρ.val 24).asB).wants := by show (ρ.fn 833 _).asB = _; rw [hf]; rfl
  have a1 : (@Tm.den ρ (.app 320 (tp [vt 4, vt 6, vt 7, vt 10, vt 24, vt 12, vt 15, vt 17, .cb false]))).asI = cntL (ρ.val 4).asI (ρ.val 6).asI (ρ.val 7).asB (ρ.val 10).asB (ρ.val 24).asB (ρ.val 12).asB (ρ.val 15).asI (ρ.val 17).asI false := by rw [d_app, hf]; rfl
  have a3 : (@Tm.den ρ (.app 321 (tp [vt 4, vt 6, vt 7, vt 10, vt 24, vt 12, vt 15, vt 17, .cb false]))).asB = true := by rw [d_app, hf]; rfl
  unfold tWant
  repeat' (first | (refine sel_fork (fun h => ?_) (fun h => ?_) <;> (try simp only [gtr_t, gtr_f, eql_t, eql_f, lss_t, lss_f, leq_t, leq_f, geq_t, geq_f, not_t, not_f, a1, a3, d_var, d_ci, d_cb, reduceCtorEq] at h)) | refine sel_leaf ?_)
  all_goals first | (exfalso; omega) | ((simp only [eI, eB, eS, eL, eN, d_var, d_ci, d_cb, d_cs, e0, e1, a1, a3, and_true, true_and]) <;> ((try simp [ASt.setWant, ASt.count, *]) <;> (try rfl)))
theorem tick_ok {env : Env} (h : STick.tree Try.prog env 38 = tTick) : SumOK Try.prog env 38 STick 896 9 (fnOf mSid) := by
  intro ρ hf hok
  rw [h]
  rw [show fnOf mSid (896 + 9) (tupD ρ.val STick.us) = .dB (decide (0 ≤ (ρ.val 5).asI ∧ (ρ.val 5).asI ≤ 1000 ∧ 0 ≤ (ρ.val 6).asI ∧ (ρ.val 6).asI ≤ 1000)) from rfl, asB_dB, decide_eq_true_eq] at hok
  have e0 : ((rhoO STick 896 ρ).val 24).asS = (aR ρ).tick.1.info := by show (ρ.fn 896 _).asS = _; rw [hf]; rfl
  have e1 : ((rhoO STick 896 ρ).val 25).asB = (aR ρ).tick.1.taken := by show (ρ.fn 897 _).asB = _; rw [hf]; rfl
  have e2 : ((rhoO STick 896 ρ).val 26).asI = (aR ρ).tick.1.acked := by show (ρ.fn 898 _).asI = _; rw [hf]; rfl
  have e3 : ((rhoO STick 896 ρ).val 27).asB = (aR ρ).tick.1.failed := by show (ρ.fn 899 _).asB = _; rw [hf]; rfl
  have e4 : ((rhoO STick 896 ρ).val 28).asI = (aR ρ).tick.2.tries := by show (ρ.fn 900 _).asI = _; rw [hf]; rfl
  have e5 : ((rhoO STick 896 ρ).val 29).asI = (aR ρ).tick.2.left := by show (ρ.fn 901 _).asI = _; rw [hf]; rfl
  have e6 : ((rhoO STick 896 ρ).val 30).asB = (aR ρ).tick.2.asks := by show (ρ.fn 902 _).asB = _; rw [hf]; rfl
  have e7 : ((rhoO STick 896 ρ).val 31).asB = (aR ρ).tick.2.failed := by show (ρ.fn 903 _).asB = _; rw [hf]; rfl
  have e8 : ((rhoO STick 896 ρ).val 32).asB = (aR ρ).tick.2.poll := by show (ρ.fn 904 _).asB = _; rw [hf]; rfl
  have w1 : IntKind.i64.wrap ((ρ.val 6).asI - 1) = (ρ.val 6).asI - 1 := i64wrap (by omega) (by omega)
  have w2 : IntKind.i64.wrap ((ρ.val 5).asI + 1) = (ρ.val 5).asI + 1 := i64wrap (by omega) (by omega)
  unfold tTick
  repeat' (first | (refine sel_fork (fun h => ?_) (fun h => ?_) <;> (try simp only [gtr_t, gtr_f, eql_t, eql_f, lss_t, lss_f, leq_t, leq_f, geq_t, geq_f, not_t, not_f, d_sub, d_add, w1, w2, d_var, d_ci, d_cb, reduceCtorEq] at h)) | refine sel_leaf ?_)
  all_goals first | (exfalso; omega) | ((simp only [eI, eB, eS, eL, eN, d_var, d_ci, d_cb, d_cs, e0, e1, e2, e3, e4, e5, e6, e7, e8, d_sub, d_add, w1, w2, and_true, true_and]) <;> ((simp [ASt.tick, ASt.fail, Act.none, *] <;> (first | done | (repeat (split <;> (try simp_all) <;> (try omega)))))))
theorem push_ok {env : Env} (h : SPush.tree Try.prog env 36 = tPush) : SumOK Try.prog env 36 SPush 576 5 (fnOf mSid) := by
  intro ρ hf hok
  rw [h]
  rw [show fnOf mSid (576 + 5) (tupD ρ.val SPush.us) = .dB (decide (0 ≤ (ρ.val 17).asI ∧ (ρ.val 17).asI < 1000 ∧ (ρ.val 16).asI + (ρ.val 17).asI ≤ ((ρ.val 18).asL.length : Int) ∧ 0 ≤ (ρ.val 16).asI)) from rfl, asB_dB, decide_eq_true_eq] at hok
  have e0 : ((rhoO SPush 576 ρ).val 25).asI = ((aR ρ).push (ρ.val 24)).1 := by show (ρ.fn 576 _).asI = _; rw [hf]; rfl
  have e1 : ((rhoO SPush 576 ρ).val 26).asI = ((aR ρ).push (ρ.val 24)).2.left := by show (ρ.fn 577 _).asI = _; rw [hf]; rfl
  have e2 : ((rhoO SPush 576 ρ).val 27).asI = ((aR ρ).push (ρ.val 24)).2.off := by show (ρ.fn 578 _).asI = _; rw [hf]; rfl
  have e3 : ((rhoO SPush 576 ρ).val 28).asI = ((aR ρ).push (ρ.val 24)).2.len := by show (ρ.fn 579 _).asI = _; rw [hf]; rfl
  have e4 : ((rhoO SPush 576 ρ).val 29).asL = ((aR ρ).push (ρ.val 24)).2.L := by show (ρ.fn 580 _).asL = _; rw [hf]; rfl
  have a3 : (@Tm.den ρ (.app 321 (tp [vt 4, vt 6, vt 7, vt 10, vt 11, vt 12, vt 15, (.llen (.lapp (.lcut (vt 18) (vt 16) (vt 17)) (.row (tp [vt 24])))), .cb false]))).asB = true := by rw [d_app, hf]; rfl
  have hc : (@Tm.den ρ (tp [vt 24])) = .dP (ρ.val 24) (.dB false) := rfl
  have hLL : (@Tm.den ρ (.llen (.lapp (.lcut (vt 18) (vt 16) (vt 17)) (.row (tp [vt 24]))))).asI = (((aR ρ).W.length : Nat) : Int) + 1 := by
    rw [d_llen, d_lapp, d_row]; simp [ASt.W, d_lcut, d_var]
  have a1 : (@Tm.den ρ (.app 320 (tp [vt 4, vt 6, vt 7, vt 10, vt 11, vt 12, vt 15, (.llen (.lapp (.lcut (vt 18) (vt 16) (vt 17)) (.row (tp [vt 24])))), .cb false]))).asI = cntL (ρ.val 4).asI (ρ.val 6).asI (ρ.val 7).asB (ρ.val 10).asB (ρ.val 11).asB (ρ.val 12).asB (ρ.val 15).asI ((((aR ρ).W.length : Nat) : Int) + 1) false := by rw [← hLL, d_app, hf]; rfl
  have hL2 : (@Tm.den ρ (.lapp (.lcut (vt 18) (vt 16) (vt 17)) (.row (tp [vt 24])))).asL = (aR ρ).W ++ [[ρ.val 24]] := by
    rw [d_lapp, d_row]; rfl
  unfold tPush
  repeat' (first | (refine sel_fork (fun h => ?_) (fun h => ?_) <;> (try simp only [gtr_t, gtr_f, eql_t, eql_f, lss_t, lss_f, leq_t, leq_f, geq_t, geq_f, not_t, not_f, a3, a1, hLL, hL2, d_var, d_ci, d_cb, reduceCtorEq] at h)) | refine sel_leaf ?_)
  all_goals first | (exfalso; omega) | ((simp only [eI, eB, eS, eL, eN, d_var, d_ci, d_cb, d_cs, e0, e1, e2, e3, e4, a3, a1, hLL, hL2, and_true, true_and]) <;> ((simp [ASt.push, ASt.count, *] <;> skip)))
theorem next_ok {env : Env} (h : SNext.tree Try.prog env 33 = tNext) : SumOK Try.prog env 33 SNext 640 15 (fnOf mSid) := by
  intro ρ hf hok
  rw [h]
  rw [show fnOf mSid (640 + 15) (tupD ρ.val SNext.us) = .dB (decide (0 ≤ (ρ.val 4).asI ∧ (ρ.val 4).asI ≤ 100 ∧ 0 ≤ (ρ.val 17).asI ∧ 0 ≤ (ρ.val 16).asI)) from rfl, asB_dB, decide_eq_true_eq] at hok
  have e0 : ((rhoO SNext 640 ρ).val 24).asI = (aR ρ).next.1.d := by show (ρ.fn 640 _).asI = _; rw [hf]; rfl
  have e1 : ((rhoO SNext 640 ρ).val 25).asB = (aR ρ).next.1.c := by show (ρ.fn 641 _).asB = _; rw [hf]; rfl
  have e2 : ((rhoO SNext 640 ρ).val 26).asI = (aR ρ).next.1.k := by show (ρ.fn 642 _).asI = _; rw [hf]; rfl
  have e3 : ((rhoO SNext 640 ρ).val 27).asB = (aR ρ).next.1.pf := by show (ρ.fn 643 _).asB = _; rw [hf]; rfl
  have e4 : ((rhoO SNext 640 ρ).val 28).asI = (aR ρ).next.1.ns := by show (ρ.fn 644 _).asI = _; rw [hf]; rfl
  have e5 : ((rhoO SNext 640 ρ).val 29).asI = (aR ρ).next.1.nr := by show (ρ.fn 645 _).asI = _; rw [hf]; rfl
  have e6 : ((rhoO SNext 640 ρ).val 30).asS = (aR ρ).next.1.info := by show (ρ.fn 646 _).asS = _; rw [hf]; rfl
  have e7 : ((rhoO SNext 640 ρ).val 31).asB = (aR ρ).next.2.1 := by show (ρ.fn 647 _).asB = _; rw [hf]; rfl
  have e8 : ((rhoO SNext 640 ρ).val 32).asI = (aR ρ).next.2.2.out := by show (ρ.fn 648 _).asI = _; rw [hf]; rfl
  have e9 : ((rhoO SNext 640 ρ).val 33).asI = (aR ρ).next.2.2.left := by show (ρ.fn 649 _).asI = _; rw [hf]; rfl
  have e10 : ((rhoO SNext 640 ρ).val 34).asI = (aR ρ).next.2.2.high := by show (ρ.fn 650 _).asI = _; rw [hf]; rfl
  have e11 : ((rhoO SNext 640 ρ).val 35).asB = (aR ρ).next.2.2.due := by show (ρ.fn 651 _).asB = _; rw [hf]; rfl
  have e12 : ((rhoO SNext 640 ρ).val 36).asB = (aR ρ).next.2.2.final := by show (ρ.fn 652 _).asB = _; rw [hf]; rfl
  have e13 : ((rhoO SNext 640 ρ).val 37).asB = (aR ρ).next.2.2.reject := by show (ρ.fn 653 _).asB = _; rw [hf]; rfl
  have e14 : ((rhoO SNext 640 ρ).val 38).asB = (aR ρ).next.2.2.poll := by show (ρ.fn 654 _).asB = _; rw [hf]; rfl
  have ah : (@Tm.den ρ (.app 512 (tp [vt 4, vt 7, vt 10, vt 12, vt 17, vt 20, vt 23]))).asB = hasB (ρ.val 4).asI (ρ.val 7).asB (ρ.val 10).asB (ρ.val 12).asB (ρ.val 17).asI (ρ.val 20).asB (ρ.val 23).asB := by rw [d_app, hf]; rfl
  have ah2 : (@Tm.den ρ (.app 513 (tp [vt 4, vt 7, vt 10, vt 12, vt 17, vt 20, vt 23]))).asB = true := by rw [d_app, hf]; rfl
  have a1 : (@Tm.den ρ (.app 320 (tp [vt 4, vt 6, vt 7, vt 10, vt 11, vt 12, vt 15, vt 17, .cb false]))).asI = cntL (ρ.val 4).asI (ρ.val 6).asI (ρ.val 7).asB (ρ.val 10).asB (ρ.val 11).asB (ρ.val 12).asB (ρ.val 15).asI (ρ.val 17).asI false := by rw [d_app, hf]; rfl
  have a3 : (@Tm.den ρ (.app 321 (tp [vt 4, vt 6, vt 7, vt 10, vt 11, vt 12, vt 15, vt 17, .cb false]))).asB = true := by rw [d_app, hf]; rfl
  have a4 : (@Tm.den ρ (.app 321 (tp [.ib .add .i64 (vt 4) (.ci 1), vt 6, vt 7, vt 10, vt 11, vt 12, vt 15, vt 17, .cb false]))).asB = true := by rw [d_app, hf]; rfl
  have a5 : (@Tm.den ρ (.app 128 (tp [vt 0, vt 4]))).asI = add8 (ρ.val 0).asI (ρ.val 4).asI := by rw [d_app, hf]; rfl
  have a6 : (@Tm.den ρ (.app 129 (tp [vt 0, vt 4]))).asB = true := by rw [d_app, hf]; rfl
  have w1 : IntKind.i64.wrap ((ρ.val 4).asI + 1) = (ρ.val 4).asI + 1 := i64wrap (by omega) (by omega)
  have a7 : (@Tm.den ρ (.app 320 (tp [.ib .add .i64 (vt 4) (.ci 1), vt 6, vt 7, vt 10, vt 11, vt 12, vt 15, vt 17, .cb false]))).asI = cntL ((ρ.val 4).asI + 1) (ρ.val 6).asI (ρ.val 7).asB (ρ.val 10).asB (ρ.val 11).asB (ρ.val 12).asB (ρ.val 15).asI (ρ.val 17).asI false := by rw [← w1, d_app, hf]; rfl
  have hmax : (@Tm.den ρ tNext_4).asI = max (ρ.val 19).asI ((ρ.val 4).asI + 1) := by
    simp only [tNext_4, d_ite]
    cases hc : (@Tm.den ρ (.ib .gtr .i64 (.ib .add .i64 (vt 4) (.ci 1)) (vt 19))).asB with
    | true => simp only [gtr_t, d_add, d_var, d_ci, w1] at hc; simp only [cond_true, d_add, d_var, d_ci, w1]; omega
    | false => simp only [gtr_f, d_add, d_var, d_ci, w1] at hc; simp only [cond_false, d_var]; omega
  unfold tNext
  repeat' (first | (refine sel_fork (fun h => ?_) (fun h => ?_) <;> (try simp only [gtr_t, gtr_f, eql_t, eql_f, lss_t, lss_f, leq_t, leq_f, geq_t, geq_f, not_t, not_f, and_t, and_f, ah, ah2, a1, a3, a4, a5, a6, w1, a7, hmax, and_t, d_add, d_var, d_ci, d_cb, reduceCtorEq] at h)) | refine sel_leaf ?_)
  all_goals first | (exfalso; omega) | (exfalso; simp only [hasB] at *; simp_all; done) | (exfalso; simp only [hasB] at *; simp_all; omega) | ((simp only [eI, eB, eS, eL, eN, d_var, d_ci, d_cb, d_cs, e0, e1, e2, e3, e4, e5, e6, e7, e8, e9, e10, e11, e12, e13, e14, ah, ah2, a1, a3, a4, a5, a6, w1, a7, hmax, and_t, d_add, and_true, true_and]) <;> (((first | (have hh : (aR ρ).has = true := (by (show hasB _ _ _ _ _ _ _ = true); assumption)) | (have hh : (aR ρ).has = false := (by (show hasB _ _ _ _ _ _ _ = false); assumption))) <;> simp only [ASt.next, hh] <;> simp [ASt.count, Frm.none, *] <;> rfl)))
section
variable {ρ : Rho}
theorem ap128 (hf : ρ.fn = fnOf mSid) (x y : Tm) : (@Tm.den ρ (.app 128 (tp [x, y]))).asI = add8 (@Tm.den ρ x).asI (@Tm.den ρ y).asI := by rw [d_app, hf]; rfl
theorem ap256 (hf : ρ.fn = fnOf mSid) (x y z : Tm) : (@Tm.den ρ (.app 256 (tp [x, y, z]))).asI = (acks8 (@Tm.den ρ x).asI (@Tm.den ρ y).asI (@Tm.den ρ z).asI).1 := by rw [d_app, hf]; rfl
theorem ap257 (hf : ρ.fn = fnOf mSid) (x y z : Tm) : (@Tm.den ρ (.app 257 (tp [x, y, z]))).asB = (acks8 (@Tm.den ρ x).asI (@Tm.den ρ y).asI (@Tm.den ρ z).asI).2 := by rw [d_app, hf]; rfl
theorem ap320 (hf : ρ.fn = fnOf mSid) (a b c d e f g h i : Tm) : (@Tm.den ρ (.app 320 (tp [a, b, c, d, e, f, g, h, i]))).asI = cntL (@Tm.den ρ a).asI (@Tm.den ρ b).asI (@Tm.den ρ c).asB (@Tm.den ρ d).asB (@Tm.den ρ e).asB (@Tm.den ρ f).asB (@Tm.den ρ g).asI (@Tm.den ρ h).asI (@Tm.den ρ i).asB := by rw [d_app, hf]; rfl
theorem ap384 (hf : ρ.fn = fnOf mSid) (a b c d e f g : Tm) : (@Tm.den ρ (.app 384 (tp [a, b, c, d, e, f, g]))).asI = add8 (@Tm.den ρ a).asI (@Tm.den ρ g).asI := by rw [d_app, hf]; rfl
theorem ap385 (hf : ρ.fn = fnOf mSid) (a b c d e f g : Tm) : (@Tm.den ρ (.app 385 (tp [a, b, c, d, e, f, g]))).asI = max 0 ((@Tm.den ρ b).asI - (@Tm.den ρ g).asI) := by rw [d_app, hf]; rfl
theorem ap386 (hf : ρ.fn = fnOf mSid) (a b c d e f g : Tm) : (@Tm.den ρ (.app 386 (tp [a, b, c, d, e, f, g]))).asI = if (@Tm.den ρ g).asI > 0 then 0 else (@Tm.den ρ c).asI := by rw [d_app, hf]; rfl
theorem ap387 (hf : ρ.fn = fnOf mSid) (a b c d e f g : Tm) : (@Tm.den ρ (.app 387 (tp [a, b, c, d, e, f, g]))).asI = (@Tm.den ρ d).asI + (@Tm.den ρ g).asI := by rw [d_app, hf]; rfl
theorem ap388 (hf : ρ.fn = fnOf mSid) (a b c d e f g : Tm) : (@Tm.den ρ (.app 388 (tp [a, b, c, d, e, f, g]))).asI = (@Tm.den ρ e).asI - (@Tm.den ρ g).asI := by rw [d_app, hf]; rfl
theorem ap389 (hf : ρ.fn = fnOf mSid) (a b c d e f g : Tm) : (@Tm.den ρ (.app 389 (tp [a, b, c, d, e, f, g]))).asI = (@Tm.den ρ f).asI - (@Tm.den ρ g).asI := by rw [d_app, hf]; rfl
theorem ap390 (hf : ρ.fn = fnOf mSid) (a b c d e f g : Tm) : (@Tm.den ρ (.app 390 (tp [a, b, c, d, e, f, g]))).asB = decide (0 ≤ (@Tm.den ρ g).asI ∧ (@Tm.den ρ g).asI ≤ (@Tm.den ρ e).asI ∧ (@Tm.den ρ g).asI ≤ 100 ∧ 0 ≤ (@Tm.den ρ b).asI ∧ (@Tm.den ρ b).asI ≤ 100 ∧ 0 ≤ (@Tm.den ρ f).asI ∧ (@Tm.den ρ f).asI ≤ 100) := by rw [d_app, hf]; rfl
end
theorem way_add {a h : Int} (h0 : 0 ≤ h) (h7 : h ≤ 7) : way8 a (add8 a h) = h := by unfold way8 add8; omega
theorem acks_le {a h n : Int} (h0 : 0 ≤ h) (h7 : h ≤ 7) : 0 ≤ (acks8 a (add8 a h) n).1 ∧ (acks8 a (add8 a h) n).1 ≤ h := by
  unfold acks8
  rw [way_add h0 h7]
  have : 0 ≤ way8 a n := by unfold way8; omega
  split
  · exact ⟨Int.le_refl _, h0⟩
  · exact ⟨this, by omega⟩
theorem hear_ok {env : Env} (h : SHear.tree Try.prog env 37 = tHear) : SumOK Try.prog env 37 SHear 704 20 (fnOf mSid) := by
  intro ρ hf hok
  rw [h]
  rw [show fnOf mSid (704 + 20) (tupD ρ.val SHear.us) = .dB (decide (0 ≤ (ρ.val 4).asI ∧ (ρ.val 4).asI ≤ 100 ∧ 0 ≤ (ρ.val 19).asI ∧ (ρ.val 19).asI ≤ (ρ.val 17).asI ∧ (ρ.val 19).asI ≤ 7)) from rfl, asB_dB, decide_eq_true_eq] at hok
  have e0 : ((rhoO SHear 704 ρ).val 31).asS = ((aR ρ).hear (fR ρ 24)).1.info := by show (ρ.fn 704 _).asS = _; rw [hf]; rfl
  have e1 : ((rhoO SHear 704 ρ).val 32).asB = ((aR ρ).hear (fR ρ 24)).1.taken := by show (ρ.fn 705 _).asB = _; rw [hf]; rfl
  have e2 : ((rhoO SHear 704 ρ).val 33).asI = ((aR ρ).hear (fR ρ 24)).1.acked := by show (ρ.fn 706 _).asI = _; rw [hf]; rfl
  have e3 : ((rhoO SHear 704 ρ).val 34).asB = ((aR ρ).hear (fR ρ 24)).1.failed := by show (ρ.fn 707 _).asB = _; rw [hf]; rfl
  have e4 : ((rhoO SHear 704 ρ).val 35).asI = ((aR ρ).hear (fR ρ 24)).2.va := by show (ρ.fn 708 _).asI = _; rw [hf]; rfl
  have e5 : ((rhoO SHear 704 ρ).val 36).asI = ((aR ρ).hear (fR ρ 24)).2.vr := by show (ρ.fn 709 _).asI = _; rw [hf]; rfl
  have e6 : ((rhoO SHear 704 ρ).val 37).asI = ((aR ρ).hear (fR ρ 24)).2.out := by show (ρ.fn 710 _).asI = _; rw [hf]; rfl
  have e7 : ((rhoO SHear 704 ρ).val 38).asI = ((aR ρ).hear (fR ρ 24)).2.tries := by show (ρ.fn 711 _).asI = _; rw [hf]; rfl
  have e8 : ((rhoO SHear 704 ρ).val 39).asI = ((aR ρ).hear (fR ρ 24)).2.left := by show (ρ.fn 712 _).asI = _; rw [hf]; rfl
  have e9 : ((rhoO SHear 704 ρ).val 40).asB = ((aR ρ).hear (fR ρ 24)).2.pb := by show (ρ.fn 713 _).asB = _; rw [hf]; rfl
  have e10 : ((rhoO SHear 704 ρ).val 41).asB = ((aR ρ).hear (fR ρ 24)).2.rejs := by show (ρ.fn 714 _).asB = _; rw [hf]; rfl
  have e11 : ((rhoO SHear 704 ρ).val 42).asB = ((aR ρ).hear (fR ρ 24)).2.asks := by show (ρ.fn 715 _).asB = _; rw [hf]; rfl
  have e12 : ((rhoO SHear 704 ρ).val 43).asB = ((aR ρ).hear (fR ρ 24)).2.failed := by show (ρ.fn 716 _).asB = _; rw [hf]; rfl
  have e13 : ((rhoO SHear 704 ρ).val 44).asI = ((aR ρ).hear (fR ρ 24)).2.off := by show (ρ.fn 717 _).asI = _; rw [hf]; rfl
  have e14 : ((rhoO SHear 704 ρ).val 45).asI = ((aR ρ).hear (fR ρ 24)).2.len := by show (ρ.fn 718 _).asI = _; rw [hf]; rfl
  have e15 : ((rhoO SHear 704 ρ).val 46).asI = ((aR ρ).hear (fR ρ 24)).2.high := by show (ρ.fn 719 _).asI = _; rw [hf]; rfl
  have e16 : ((rhoO SHear 704 ρ).val 47).asB = ((aR ρ).hear (fR ρ 24)).2.due := by show (ρ.fn 720 _).asB = _; rw [hf]; rfl
  have e17 : ((rhoO SHear 704 ρ).val 48).asB = ((aR ρ).hear (fR ρ 24)).2.final := by show (ρ.fn 721 _).asB = _; rw [hf]; rfl
  have e18 : ((rhoO SHear 704 ρ).val 49).asB = ((aR ρ).hear (fR ρ 24)).2.reject := by show (ρ.fn 722 _).asB = _; rw [hf]; rfl
  have e19 : ((rhoO SHear 704 ρ).val 50).asB = ((aR ρ).hear (fR ρ 24)).2.poll := by show (ρ.fn 723 _).asB = _; rw [hf]; rfl
  have t448 : (@Tm.den ρ (.app 448 (tp [vt 2, vt 8, vt 9, vt 20, vt 22, vt 28, vt 30]))).asS = (tak (ρ.val 2).asI (ρ.val 8).asB (ρ.val 9).asB (ρ.val 20).asB (ρ.val 22).asB (ρ.val 28).asI (ρ.val 30).asS).1.info := by rw [d_app, hf]; rfl
  have t449 : (@Tm.den ρ (.app 449 (tp [vt 2, vt 8, vt 9, vt 20, vt 22, vt 28, vt 30]))).asB = (tak (ρ.val 2).asI (ρ.val 8).asB (ρ.val 9).asB (ρ.val 20).asB (ρ.val 22).asB (ρ.val 28).asI (ρ.val 30).asS).1.taken := by rw [d_app, hf]; rfl
  have t450 : (@Tm.den ρ (.app 450 (tp [vt 2, vt 8, vt 9, vt 20, vt 22, vt 28, vt 30]))).asI = (tak (ρ.val 2).asI (ρ.val 8).asB (ρ.val 9).asB (ρ.val 20).asB (ρ.val 22).asB (ρ.val 28).asI (ρ.val 30).asS).1.acked := by rw [d_app, hf]; rfl
  have t451 : (@Tm.den ρ (.app 451 (tp [vt 2, vt 8, vt 9, vt 20, vt 22, vt 28, vt 30]))).asB = (tak (ρ.val 2).asI (ρ.val 8).asB (ρ.val 9).asB (ρ.val 20).asB (ρ.val 22).asB (ρ.val 28).asI (ρ.val 30).asS).1.failed := by rw [d_app, hf]; rfl
  have t452 : (@Tm.den ρ (.app 452 (tp [vt 2, vt 8, vt 9, vt 20, vt 22, vt 28, vt 30]))).asI = (tak (ρ.val 2).asI (ρ.val 8).asB (ρ.val 9).asB (ρ.val 20).asB (ρ.val 22).asB (ρ.val 28).asI (ρ.val 30).asS).2.1 := by rw [d_app, hf]; rfl
  have t453 : (@Tm.den ρ (.app 453 (tp [vt 2, vt 8, vt 9, vt 20, vt 22, vt 28, vt 30]))).asB = (tak (ρ.val 2).asI (ρ.val 8).asB (ρ.val 9).asB (ρ.val 20).asB (ρ.val 22).asB (ρ.val 28).asI (ρ.val 30).asS).2.2.1 := by rw [d_app, hf]; rfl
  have t454 : (@Tm.den ρ (.app 454 (tp [vt 2, vt 8, vt 9, vt 20, vt 22, vt 28, vt 30]))).asB = (tak (ρ.val 2).asI (ρ.val 8).asB (ρ.val 9).asB (ρ.val 20).asB (ρ.val 22).asB (ρ.val 28).asI (ρ.val 30).asS).2.2.2.2 := by rw [d_app, hf]; rfl
  have t455 : (@Tm.den ρ (.app 455 (tp [vt 2, vt 8, vt 9, vt 20, vt 22, vt 28, vt 30]))).asB = (tak (ρ.val 2).asI (ρ.val 8).asB (ρ.val 9).asB (ρ.val 20).asB (ρ.val 22).asB (ρ.val 28).asI (ρ.val 30).asS).2.2.2.1 := by rw [d_app, hf]; rfl
  have t456 : (@Tm.den ρ (.app 456 (tp [vt 2, vt 8, vt 9, vt 20, vt 22, vt 28, vt 30]))).asB = true := by rw [d_app, hf]; rfl
  have t258 : (@Tm.den ρ (.app 258 (tp [vt 0, .app 128 (tp [vt 0, vt 19]), vt 29]))).asB = true := by rw [d_app, hf]; rfl
  have t129 : (@Tm.den ρ (.app 129 (tp [vt 0, vt 19]))).asB = true := by rw [d_app, hf]; rfl
  have a321 : ∀ x, (@Tm.den ρ (.app 321 (tp x))).asB = true := fun x => by rw [d_app, hf]; rfl
  have hr := acks_le (a := (ρ.val 0).asI) (n := (ρ.val 29).asI) hok.2.2.1 hok.2.2.2.2
  have t256 : (@Tm.den ρ (.app 256 (tp [vt 0, .app 128 (tp [vt 0, vt 19]), vt 29]))).asI = (acks8 (ρ.val 0).asI (add8 (ρ.val 0).asI (ρ.val 19).asI) (ρ.val 29).asI).1 := by rw [ap256 hf, ap128 hf]; rfl
  have t257 : (@Tm.den ρ (.app 257 (tp [vt 0, .app 128 (tp [vt 0, vt 19]), vt 29]))).asB = (acks8 (ρ.val 0).asI (add8 (ρ.val 0).asI (ρ.val 19).asI) (ρ.val 29).asI).2 := by rw [ap257 hf, ap128 hf]; rfl
  have t390 : (@Tm.den ρ (.app 390 tHear_1)).asB = true := by
    rw [ap390 hf, t256]
    refine decide_eq_true ?_
    simp only [d_var]; omega
  have t3 : (@Tm.den ρ tHear_3).asB = decide (0 < (acks8 (ρ.val 0).asI (add8 (ρ.val 0).asI (ρ.val 19).asI) (ρ.val 29).asI).1) := by rw [← t256]; rfl
  unfold tHear
  repeat' (first | (refine sel_fork (fun h => ?_) (fun h => ?_) <;> (try simp only [gtr_t, gtr_f, eql_t, eql_f, lss_t, lss_f, leq_t, leq_f, geq_t, geq_f, not_t, not_f, t448, t449, t450, t451, t452, t453, t454, t455, t456, t258, t129, a321, t3, t256, t257, t390, ap320 hf, ap384 hf, ap385 hf, ap386 hf, ap387 hf, ap388 hf, ap389 hf, d_var, d_ci, d_cb, reduceCtorEq] at h)) | refine sel_leaf ?_)
  all_goals first | (exfalso; omega) | ((simp only [eI, eB, eS, eL, eN, d_var, d_ci, d_cb, d_cs, e0, e1, e2, e3, e4, e5, e6, e7, e8, e9, e10, e11, e12, e13, e14, e15, e16, e17, e18, e19, t448, t449, t450, t451, t452, t453, t454, t455, t456, t258, t129, a321, t3, t256, t257, t390, ap320 hf, ap384 hf, ap385 hf, ap386 hf, ap387 hf, ap388 hf, ap389 hf, and_true, true_and]) <;> ((simp [ASt.hear, ASt.count, ASt.acked, ASt.kind, ASt.answered, ASt.take, ASt.polled, ASt.fail, Act.none, *] <;> skip)))

end Go.Proofs.Ytlbkficdelepeaa.Ab
