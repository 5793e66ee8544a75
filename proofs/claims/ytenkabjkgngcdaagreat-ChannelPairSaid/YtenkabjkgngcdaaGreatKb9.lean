import Derived.Test.YtenkabjkgngcdaaGreatKb7
import Derived.Test.YtenkabjkgngcdaaGreatKb8
set_option linter.unusedVariables false
set_option linter.unusedSimpArgs false
set_option linter.unusedSectionVars false
namespace Go.Proofs.YtenkabjkgngcdaaGreat.Ab
open Go
theorem zZO {env : Env} (h : SCount.tree Tryz.prog env 77 = zTT) : SumOK Tryz.prog env 77 SCount 320 1 (zCV zEf) := by
 intro ρ hf hok;rw [h];have e25 : ((zAc SCount 320 ρ).val 25).asI = zOz (ρ.val 4).asI (ρ.val 6).asI (ρ.val 7).asB (ρ.val 10).asB (ρ.val 11).asB (ρ.val 12).asB (ρ.val 15).asI (ρ.val 17).asI (ρ.val 24).asB := by
  show (ρ.fn 320 _).asI = _;rw [hf]; rfl
 unfold zTT
 repeat' (first | (refine zAb (fun h => ?_) (fun h => ?_)) | refine zAk ?_)
 all_goals
  simp only [zAU, zAQ, zAS, zEo, zDo, zDp, zAv, zBs] at *;simp only [eI, eN, zAv, zBs, e25, and_true]
  simp_all [zOz]
theorem xHd {env : Env} (h : SAdd.tree Tryz.prog env 68 = xIL) : SumOK Tryz.prog env 68 SAdd 128 1 (zCV zEf) := by
 intro ρ hf hok;rw [h];have e : ((zAc SAdd 128 ρ).val 2).asI = zFx (ρ.val 0).asI (ρ.val 1).asI := by
  show (ρ.fn 128 _).asI = _;rw [hf]; rfl
 refine zAk ?_;simp only [eI, eN, zAv, e, and_true, zSa, and7, zCX, zBs, zHU];rw [zMG (x := (ρ.val 0).asI % 8) (by omega) (by omega), i64wrap (x := (ρ.val 0).asI % 8) (by omega) (by omega), zMG (by omega) (by omega)]
 rfl
theorem xEP {env : Env} (h : SWay.tree Tryz.prog env 144 = xIK) : SumOK Tryz.prog env 144 SWay 192 1 (zCV zEf) := by
 intro ρ hf hok;rw [h];have e : ((zAc SWay 192 ρ).val 2).asI = zFa (ρ.val 0).asI (ρ.val 1).asI := by
  show (ρ.fn 192 _).asI = _;rw [hf]; rfl
 refine zAk ?_;simp only [eI, eN, zAv, e, and_true, zSa, and7, zDw, zBs, zHU];rw [zMG (x := (ρ.val 0).asI % 8) (by omega) (by omega), i64wrap (x := (ρ.val 0).asI % 8) (by omega) (by omega), zMG (x := (ρ.val 1).asI % 8) (by omega) (by omega), i64wrap (x := (ρ.val 1).asI % 8) (by omega) (by omega), zMG (by omega) (by omega), i64wrap (by omega) (by omega)]
 rfl
theorem xEi {env : Env} (h : SAcks.tree Tryz.prog env 125 = xCg) : SumOK Tryz.prog env 125 SAcks 256 2 (zCV zEf) := by
 intro ρ hf hok;rw [h];have e3 : ((zAc SAcks 256 ρ).val 3).asI = (zEv (ρ.val 0).asI (ρ.val 1).asI (ρ.val 2).asI).1 := by
  show (ρ.fn 256 _).asI = _;rw [hf]; rfl
 have e4 : ((zAc SAcks 256 ρ).val 4).asB = (zEv (ρ.val 0).asI (ρ.val 1).asI (ρ.val 2).asI).2 := by
  show (ρ.fn 257 _).asB = _;rw [hf]; rfl
 obtain ⟨a1, a2⟩ : (@Tm.den ρ (.app 192 (tp [vt 0, vt 2]))).asI = zFa (ρ.val 0).asI (ρ.val 2).asI ∧ (@Tm.den ρ (.app 192 (tp [vt 0, vt 1]))).asI = zFa (ρ.val 0).asI (ρ.val 1).asI := by
  obtain ⟨val, fn⟩ := ρ; obtain rfl : fn = zCV zEf := hf;exact ⟨rfl, rfl⟩
 have a3 : ∀ x, (@Tm.den ρ (.app 193 (tp x))).asB = true := fun x => by rw [zE4, hf]; rfl
 unfold xCg
 repeat' (first | (refine zAb (fun h => ?_) (fun h => ?_) <;> (try simp only [zAT, zAO, a1, a2, a3, zAv, zBs, reduceCtorEq] at h)) | refine zAk ?_)
 all_goals
  simp only [eI, eB, eN, zAv, zBs, zEc, e3, e4, a1, and_true, zEv];rename_i h
  first | (rw [if_pos (by omega)]; exact ⟨rfl, rfl⟩) | (rw [if_neg (by omega)]; exact ⟨rfl, rfl⟩)
theorem xAk {env : Env} (h : SAcked.tree Tryz.prog env 126 = zTV) : SumOK Tryz.prog env 126 SAcked 384 6 (zCV zEf) := by
 intro ρ hf hok;rw [h];rw [show zCV zEf (384 + 6) (zFf ρ.val SAcked.us) = .dB (decide (0 ≤ (ρ.val 24).asI ∧ (ρ.val 24).asI ≤ (ρ.val 17).asI ∧ (ρ.val 24).asI ≤ 100 ∧ 0 ≤ (ρ.val 4).asI ∧ (ρ.val 4).asI ≤ 100 ∧ 0 ≤ (ρ.val 19).asI ∧ (ρ.val 19).asI ≤ 100)) from rfl, zEa, decide_eq_true_eq] at hok
 obtain ⟨e0, e1, e2, e3, e4, e5, a1⟩ : ((zAc SAcked 384 ρ).val 25).asI = zFx (ρ.val 0).asI (ρ.val 24).asI ∧ ((zAc SAcked 384 ρ).val 26).asI = max 0 ((ρ.val 4).asI - (ρ.val 24).asI) ∧ (((zAc SAcked 384 ρ).val 27).asI = if (ρ.val 24).asI > 0 then 0 else (ρ.val 5).asI) ∧ ((zAc SAcked 384 ρ).val 28).asI = (ρ.val 16).asI + (ρ.val 24).asI ∧ ((zAc SAcked 384 ρ).val 29).asI = (ρ.val 17).asI - (ρ.val 24).asI ∧ ((zAc SAcked 384 ρ).val 30).asI = (ρ.val 19).asI - (ρ.val 24).asI ∧ (@Tm.den ρ (.app 128 (tp [vt 0, vt 24]))).asI = zFx (ρ.val 0).asI (ρ.val 24).asI := by
  obtain ⟨val, fn⟩ := ρ; obtain rfl : fn = zCV zEf := hf;exact ⟨rfl, rfl, rfl, rfl, rfl, rfl, rfl⟩
 have a3 : ∀ x, (@Tm.den ρ (.app 129 (tp x))).asB = true := fun x => by rw [zE4, hf]; rfl
 have c0 : (@Tm.den ρ zL8).asB = true := by
  simp only [zL8, zCL, zAS, zAv, zBs]; omega
 have c1 : (@Tm.den ρ zIm).asI = max 0 ((ρ.val 4).asI - (ρ.val 24).asI) := by
  simp only [zIm, zPS];cases hc : (@Tm.den ρ (.ib .gtr .i64 (.ib .sub .i64 (vt 4) (vt 24)) (.ci 0))).asB with
  | true =>
   simp only [zAT, zDw, zAv, zBs] at hc;rw [i64wrap (by omega) (by omega)] at hc
   simp only [cond_true, zDw, zAv];rw [i64wrap (by omega) (by omega)]; omega
  | false =>
   simp only [zAO, zDw, zAv, zBs] at hc;rw [i64wrap (by omega) (by omega)] at hc
   simp only [cond_false, zBs];omega
 unfold zTV
 repeat' (first | (refine zAb (fun h => ?_) (fun h => ?_) <;> (try simp only [zAT, zAO, a3, c0, zAv, zBs, reduceCtorEq] at h)) | refine zAk ?_)
 all_goals
  simp only [eI, eN, zAv, zBs, e0, e1, e2, e3, e4, e5, a1, c1, zBj, zBI, zDw, and_true, true_and];rw [i64wrap (by omega) (by omega)]
  first | exact ⟨if_pos (by omega), rfl⟩ | exact ⟨if_neg (by omega), rfl⟩
theorem xBJ {env : Env} (h : STake.tree Tryz.prog env 127 = xBT) : SumOK Tryz.prog env 127 STake 448 8 (zCV zEf) := by
 intro ρ hf hok;rw [h];obtain ⟨e0, e1, e2, e3, e4, e5, e6, e7, a1, a2⟩ : ((zAc STake 448 ρ).val 31).asS = (tak (ρ.val 2).asI (ρ.val 8).asB (ρ.val 9).asB (ρ.val 20).asB (ρ.val 22).asB (ρ.val 28).asI (ρ.val 30).asS).1.info ∧ ((zAc STake 448 ρ).val 32).asB = (tak (ρ.val 2).asI (ρ.val 8).asB (ρ.val 9).asB (ρ.val 20).asB (ρ.val 22).asB (ρ.val 28).asI (ρ.val 30).asS).1.taken ∧ ((zAc STake 448 ρ).val 33).asI = (tak (ρ.val 2).asI (ρ.val 8).asB (ρ.val 9).asB (ρ.val 20).asB (ρ.val 22).asB (ρ.val 28).asI (ρ.val 30).asS).1.acked ∧ ((zAc STake 448 ρ).val 34).asB = (tak (ρ.val 2).asI (ρ.val 8).asB (ρ.val 9).asB (ρ.val 20).asB (ρ.val 22).asB (ρ.val 28).asI (ρ.val 30).asS).1.failed ∧ ((zAc STake 448 ρ).val 35).asI = (tak (ρ.val 2).asI (ρ.val 8).asB (ρ.val 9).asB (ρ.val 20).asB (ρ.val 22).asB (ρ.val 28).asI (ρ.val 30).asS).2.1 ∧ ((zAc STake 448 ρ).val 36).asB = (tak (ρ.val 2).asI (ρ.val 8).asB (ρ.val 9).asB (ρ.val 20).asB (ρ.val 22).asB (ρ.val 28).asI (ρ.val 30).asS).2.2.1 ∧ ((zAc STake 448 ρ).val 37).asB = (tak (ρ.val 2).asI (ρ.val 8).asB (ρ.val 9).asB (ρ.val 20).asB (ρ.val 22).asB (ρ.val 28).asI (ρ.val 30).asS).2.2.2.2 ∧ ((zAc STake 448 ρ).val 38).asB = (tak (ρ.val 2).asI (ρ.val 8).asB (ρ.val 9).asB (ρ.val 20).asB (ρ.val 22).asB (ρ.val 28).asI (ρ.val 30).asS).2.2.2.1 ∧ (@Tm.den ρ (.app 128 (tp [vt 2, .ci 1]))).asI = zFx (ρ.val 2).asI 1 ∧ (@Tm.den ρ (.app 192 (tp [vt 2, vt 28]))).asI = zFa (ρ.val 2).asI (ρ.val 28).asI := by
  obtain ⟨val, fn⟩ := ρ; obtain rfl : fn = zCV zEf := hf;exact ⟨rfl, rfl, rfl, rfl, rfl, rfl, rfl, rfl, rfl, rfl⟩
 have a3 : ∀ x, (@Tm.den ρ (.app 129 (tp x))).asB = true := fun x => by rw [zE4, hf]; rfl
 have a4 : ∀ x, (@Tm.den ρ (.app 193 (tp x))).asB = true := fun x => by rw [zE4, hf]; rfl
 unfold xBT
 repeat' (first | (refine zAb (fun h => ?_) (fun h => ?_) <;> (try simp only [zAU, zAQ, zDo, zDp, a2, a3, a4, zAv, zBs, reduceCtorEq] at h)) | refine zAk ?_)
 all_goals
  simp only [eI, eB, eS, eN, zAv, zBs, zEc, zFy, e0, e1, e2, e3, e4, e5, e6, e7, a1, and_true];simp [tak, Act.none, *]
theorem xBl {env : Env} (h : SHas.tree Tryz.prog env 61 = xHD) : SumOK Tryz.prog env 61 SHas 512 1 (zCV zEf) := by
 intro ρ hf hok;rw [h];have e0 : ((zAc SHas 512 ρ).val 24).asB = hasB (ρ.val 4).asI (ρ.val 7).asB (ρ.val 10).asB (ρ.val 12).asB (ρ.val 17).asI (ρ.val 20).asB (ρ.val 23).asB := by show (ρ.fn 512 _).asB = _; rw [hf]; rfl
 unfold xHD
 repeat' (first | (refine zAb (fun h => ?_) (fun h => ?_) <;> (try simp only [zAU, zAQ, zBw, zBV, zDo, zDp, zAv, zBs, reduceCtorEq] at h)) | refine zAk ?_)
 all_goals
  simp only [eI, eB, eS, eN, zAv, zBs, zEc, xI1, xI2, e0, and_true];simp [hasB, *] <;> rfl
abbrev aR (ρ : Rho) : ASt := ⟨(ρ.val 0).asI, (ρ.val 1).asI, (ρ.val 2).asI, (ρ.val 3).asI, (ρ.val 4).asI, (ρ.val 5).asI, (ρ.val 6).asI, (ρ.val 7).asB, (ρ.val 8).asB, (ρ.val 9).asB, (ρ.val 10).asB, (ρ.val 11).asB, (ρ.val 12).asB, (ρ.val 13).asI, (ρ.val 14).asI, (ρ.val 15).asI, (ρ.val 16).asI, (ρ.val 17).asI, (ρ.val 18).asL, (ρ.val 19).asI, (ρ.val 20).asB, (ρ.val 21).asB, (ρ.val 22).asB, (ρ.val 23).asB⟩
abbrev fR (ρ : Rho) (i : Nat) : Frm := ⟨(ρ.val i).asI, (ρ.val (i + 1)).asB, (ρ.val (i + 2)).asI, (ρ.val (i + 3)).asB, (ρ.val (i + 4)).asI, (ρ.val (i + 5)).asI, (ρ.val (i + 6)).asS⟩
theorem xBB {env : Env} (h : SWant.tree Tryz.prog env 63 = xBR) : SumOK Tryz.prog env 63 SWant 832 2 (zCV zEf) := by
 intro ρ hf hok;rw [h];obtain ⟨e0, e1, a1, a3⟩ : ((zAc SWant 832 ρ).val 25).asI = ((aR ρ).setWant (ρ.val 24).asB).left ∧ ((zAc SWant 832 ρ).val 26).asB = ((aR ρ).setWant (ρ.val 24).asB).wants ∧ (@Tm.den ρ (.app 320 (tp [vt 4, vt 6, vt 7, vt 10, vt 24, vt 12, vt 15, vt 17, .cb false]))).asI = zOz (ρ.val 4).asI (ρ.val 6).asI (ρ.val 7).asB (ρ.val 10).asB (ρ.val 24).asB (ρ.val 12).asB (ρ.val 15).asI (ρ.val 17).asI false ∧ (@Tm.den ρ (.app 321 (tp [vt 4, vt 6, vt 7, vt 10, vt 24, vt 12, vt 15, vt 17, .cb false]))).asB = true := by
  obtain ⟨val, fn⟩ := ρ; obtain rfl : fn = zCV zEf := hf;exact ⟨rfl, rfl, rfl, rfl⟩
 unfold xBR
 repeat' (first | (refine zAb (fun h => ?_) (fun h => ?_) <;> (try simp only [zAT, zAO, zAU, zAQ, zBw, zBV, zAS, zEo, zDF, zDG, zDo, zDp, a1, a3, zAv, zBs, zEc, reduceCtorEq] at h)) | refine zAk ?_)
 all_goals first | (exfalso; omega) | ((simp only [eI, eB, eS, eL, eN, zAv, zBs, zEc, zFy, e0, e1, a1, a3, and_true, true_and]) <;> ((try simp [ASt.setWant, ASt.count, *]) <;> (try rfl)))
theorem xBH {env : Env} (h : STick.tree Tryz.prog env 50 = xBS) : SumOK Tryz.prog env 50 STick 896 9 (zCV zEf) := by
 intro ρ hf hok;rw [h];rw [show zCV zEf (896 + 9) (zFf ρ.val STick.us) = .dB (decide (0 ≤ (ρ.val 5).asI ∧ (ρ.val 5).asI ≤ 1000 ∧ 0 ≤ (ρ.val 6).asI ∧ (ρ.val 6).asI ≤ 1000)) from rfl, zEa, decide_eq_true_eq] at hok
 obtain ⟨e0, e1, e2, e3, e4, e5, e6, e7, e8⟩ : ((zAc STick 896 ρ).val 24).asS = (aR ρ).tick.1.info ∧ ((zAc STick 896 ρ).val 25).asB = (aR ρ).tick.1.taken ∧ ((zAc STick 896 ρ).val 26).asI = (aR ρ).tick.1.acked ∧ ((zAc STick 896 ρ).val 27).asB = (aR ρ).tick.1.failed ∧ ((zAc STick 896 ρ).val 28).asI = (aR ρ).tick.2.tries ∧ ((zAc STick 896 ρ).val 29).asI = (aR ρ).tick.2.left ∧ ((zAc STick 896 ρ).val 30).asB = (aR ρ).tick.2.asks ∧ ((zAc STick 896 ρ).val 31).asB = (aR ρ).tick.2.failed ∧ ((zAc STick 896 ρ).val 32).asB = (aR ρ).tick.2.poll := by
  obtain ⟨val, fn⟩ := ρ; obtain rfl : fn = zCV zEf := hf;exact ⟨rfl, rfl, rfl, rfl, rfl, rfl, rfl, rfl, rfl⟩
 have w1 : IntKind.i64.wrap ((ρ.val 6).asI - 1) = (ρ.val 6).asI - 1 := i64wrap (by omega) (by omega)
 have w2 : IntKind.i64.wrap ((ρ.val 5).asI + 1) = (ρ.val 5).asI + 1 := i64wrap (by omega) (by omega)
 unfold xBS
 repeat' (first | (refine zAb (fun h => ?_) (fun h => ?_) <;> (try simp only [zAT, zAO, zAU, zAQ, zBw, zBV, zAS, zEo, zDF, zDG, zDo, zDp, zDw, zCX, w1, w2, zAv, zBs, zEc, reduceCtorEq] at h)) | refine zAk ?_)
 all_goals first | (exfalso; omega) | ((simp only [eI, eB, eS, eL, eN, zAv, zBs, zEc, zFy, e0, e1, e2, e3, e4, e5, e6, e7, e8, zDw, zCX, w1, w2, and_true, true_and]) <;> ((simp [ASt.tick, ASt.fail, Act.none, *] <;> (first | done | (repeat (split <;> (try simp_all) <;> (try omega)))))))
theorem xCZ {env : Env} (h : SPush.tree Tryz.prog env 74 = xBU) : SumOK Tryz.prog env 74 SPush 576 5 (zCV zEf) := by
 intro ρ hf hok;rw [h];rw [show zCV zEf (576 + 5) (zFf ρ.val SPush.us) = .dB (decide (0 ≤ (ρ.val 17).asI ∧ (ρ.val 17).asI < 1000 ∧ (ρ.val 16).asI + (ρ.val 17).asI ≤ ((ρ.val 18).asL.length : Int) ∧ 0 ≤ (ρ.val 16).asI)) from rfl, zEa, decide_eq_true_eq] at hok
 obtain ⟨e0, e1, e2, e3, e4, a3⟩ : ((zAc SPush 576 ρ).val 25).asI = ((aR ρ).push (ρ.val 24)).1 ∧ ((zAc SPush 576 ρ).val 26).asI = ((aR ρ).push (ρ.val 24)).2.left ∧ ((zAc SPush 576 ρ).val 27).asI = ((aR ρ).push (ρ.val 24)).2.off ∧ ((zAc SPush 576 ρ).val 28).asI = ((aR ρ).push (ρ.val 24)).2.len ∧ ((zAc SPush 576 ρ).val 29).asL = ((aR ρ).push (ρ.val 24)).2.L ∧ (@Tm.den ρ (.app 321 (tp [vt 4, vt 6, vt 7, vt 10, vt 11, vt 12, vt 15, (.llen (.lapp (.lcut (vt 18) (vt 16) (vt 17)) (.row (tp [vt 24])))), .cb false]))).asB = true := by
  obtain ⟨val, fn⟩ := ρ; obtain rfl : fn = zCV zEf := hf;exact ⟨rfl, rfl, rfl, rfl, rfl, rfl⟩
 have hc : (@Tm.den ρ (tp [vt 24])) = .dP (ρ.val 24) (.dB false) := rfl;have hLL : (@Tm.den ρ (.llen (.lapp (.lcut (vt 18) (vt 16) (vt 17)) (.row (tp [vt 24]))))).asI = (((aR ρ).W.length : Nat) : Int) + 1 := by
  rw [xGv, xBu, xGt]; simp [ASt.W, xGw, zAv]
 have a1 : (@Tm.den ρ (.app 320 (tp [vt 4, vt 6, vt 7, vt 10, vt 11, vt 12, vt 15, (.llen (.lapp (.lcut (vt 18) (vt 16) (vt 17)) (.row (tp [vt 24])))), .cb false]))).asI = zOz (ρ.val 4).asI (ρ.val 6).asI (ρ.val 7).asB (ρ.val 10).asB (ρ.val 11).asB (ρ.val 12).asB (ρ.val 15).asI ((((aR ρ).W.length : Nat) : Int) + 1) false := by rw [← hLL, zE4, hf]; rfl
 have hL2 : (@Tm.den ρ (.lapp (.lcut (vt 18) (vt 16) (vt 17)) (.row (tp [vt 24])))).asL = (aR ρ).W ++ [[ρ.val 24]] := by
  rw [xBu, xGt]; rfl
 unfold xBU
 repeat' (first | (refine zAb (fun h => ?_) (fun h => ?_) <;> (try simp only [zAT, zAO, zAU, zAQ, zBw, zBV, zAS, zEo, zDF, zDG, zDo, zDp, a3, a1, hLL, hL2, zAv, zBs, zEc, reduceCtorEq] at h)) | refine zAk ?_)
 all_goals first | (exfalso; omega) | ((simp only [eI, eB, eS, eL, eN, zAv, zBs, zEc, zFy, e0, e1, e2, e3, e4, a3, a1, hLL, hL2, and_true, true_and]) <;> ((simp [ASt.push, ASt.count, *] <;> skip)))
theorem xDg {env : Env} (h : SNext.tree Tryz.prog env 52 = xBX) : SumOK Tryz.prog env 52 SNext 640 15 (zCV zEf) := by
 intro ρ hf hok;rw [h];rw [show zCV zEf (640 + 15) (zFf ρ.val SNext.us) = .dB (decide (0 ≤ (ρ.val 4).asI ∧ (ρ.val 4).asI ≤ 100 ∧ 0 ≤ (ρ.val 17).asI ∧ 0 ≤ (ρ.val 16).asI)) from rfl, zEa, decide_eq_true_eq] at hok
 obtain ⟨e0, e1, e2, e3, e4, e5, e6, e7, e8, e9, e10, e11, e12, e13, e14, ah, ah2, a1, a3, a4, a5, a6⟩ : ((zAc SNext 640 ρ).val 24).asI = (aR ρ).next.1.d ∧ ((zAc SNext 640 ρ).val 25).asB = (aR ρ).next.1.c ∧ ((zAc SNext 640 ρ).val 26).asI = (aR ρ).next.1.k ∧ ((zAc SNext 640 ρ).val 27).asB = (aR ρ).next.1.pf ∧ ((zAc SNext 640 ρ).val 28).asI = (aR ρ).next.1.ns ∧ ((zAc SNext 640 ρ).val 29).asI = (aR ρ).next.1.nr ∧ ((zAc SNext 640 ρ).val 30).asS = (aR ρ).next.1.info ∧ ((zAc SNext 640 ρ).val 31).asB = (aR ρ).next.2.1 ∧ ((zAc SNext 640 ρ).val 32).asI = (aR ρ).next.2.2.out ∧ ((zAc SNext 640 ρ).val 33).asI = (aR ρ).next.2.2.left ∧ ((zAc SNext 640 ρ).val 34).asI = (aR ρ).next.2.2.high ∧ ((zAc SNext 640 ρ).val 35).asB = (aR ρ).next.2.2.due ∧ ((zAc SNext 640 ρ).val 36).asB = (aR ρ).next.2.2.final ∧ ((zAc SNext 640 ρ).val 37).asB = (aR ρ).next.2.2.reject ∧ ((zAc SNext 640 ρ).val 38).asB = (aR ρ).next.2.2.poll ∧ (@Tm.den ρ (.app 512 (tp [vt 4, vt 7, vt 10, vt 12, vt 17, vt 20, vt 23]))).asB = hasB (ρ.val 4).asI (ρ.val 7).asB (ρ.val 10).asB (ρ.val 12).asB (ρ.val 17).asI (ρ.val 20).asB (ρ.val 23).asB ∧ (@Tm.den ρ (.app 513 (tp [vt 4, vt 7, vt 10, vt 12, vt 17, vt 20, vt 23]))).asB = true ∧ (@Tm.den ρ (.app 320 (tp [vt 4, vt 6, vt 7, vt 10, vt 11, vt 12, vt 15, vt 17, .cb false]))).asI = zOz (ρ.val 4).asI (ρ.val 6).asI (ρ.val 7).asB (ρ.val 10).asB (ρ.val 11).asB (ρ.val 12).asB (ρ.val 15).asI (ρ.val 17).asI false ∧ (@Tm.den ρ (.app 321 (tp [vt 4, vt 6, vt 7, vt 10, vt 11, vt 12, vt 15, vt 17, .cb false]))).asB = true ∧ (@Tm.den ρ (.app 321 (tp [.ib .add .i64 (vt 4) (.ci 1), vt 6, vt 7, vt 10, vt 11, vt 12, vt 15, vt 17, .cb false]))).asB = true ∧ (@Tm.den ρ (.app 128 (tp [vt 0, vt 4]))).asI = zFx (ρ.val 0).asI (ρ.val 4).asI ∧ (@Tm.den ρ (.app 129 (tp [vt 0, vt 4]))).asB = true := by
  obtain ⟨val, fn⟩ := ρ; obtain rfl : fn = zCV zEf := hf;exact ⟨rfl, rfl, rfl, rfl, rfl, rfl, rfl, rfl, rfl, rfl, rfl, rfl, rfl, rfl, rfl, rfl, rfl, rfl, rfl, rfl, rfl, rfl⟩
 have w1 : IntKind.i64.wrap ((ρ.val 4).asI + 1) = (ρ.val 4).asI + 1 := i64wrap (by omega) (by omega)
 have a7 : (@Tm.den ρ (.app 320 (tp [.ib .add .i64 (vt 4) (.ci 1), vt 6, vt 7, vt 10, vt 11, vt 12, vt 15, vt 17, .cb false]))).asI = zOz ((ρ.val 4).asI + 1) (ρ.val 6).asI (ρ.val 7).asB (ρ.val 10).asB (ρ.val 11).asB (ρ.val 12).asB (ρ.val 15).asI (ρ.val 17).asI false := by rw [← w1, zE4, hf]; rfl
 have hmax : (@Tm.den ρ zOV).asI = max (ρ.val 19).asI ((ρ.val 4).asI + 1) := by
  simp only [zOV, zPS];cases hc : (@Tm.den ρ (.ib .gtr .i64 (.ib .add .i64 (vt 4) (.ci 1)) (vt 19))).asB with
  | true => simp only [zAT, zCX, zAv, zBs, w1] at hc; simp only [cond_true, zCX, zAv, zBs, w1]; omega
  | false => simp only [zAO, zCX, zAv, zBs, w1] at hc; simp only [cond_false, zAv]; omega
 unfold xBX
 repeat' (first | (refine zAb (fun h => ?_) (fun h => ?_) <;> (try simp only [zAT, zAO, zAU, zAQ, zBw, zBV, zAS, zEo, zDF, zDG, zDo, zDp, zCL, zHa, ah, ah2, a1, a3, a4, a5, a6, w1, a7, hmax, zCL, zCX, zAv, zBs, zEc, reduceCtorEq] at h)) | refine zAk ?_)
 all_goals first | (exfalso; omega) | (exfalso; simp only [hasB] at *; simp_all; done) | (exfalso; simp only [hasB] at *; simp_all; omega) | ((simp only [eI, eB, eS, eL, eN, zAv, zBs, zEc, zFy, e0, e1, e2, e3, e4, e5, e6, e7, e8, e9, e10, e11, e12, e13, e14, ah, ah2, a1, a3, a4, a5, a6, w1, a7, hmax, zCL, zCX, and_true, true_and]) <;> (((first | (have hh : (aR ρ).has = true := (by (show hasB _ _ _ _ _ _ _ = true); assumption)) | (have hh : (aR ρ).has = false := (by (show hasB _ _ _ _ _ _ _ = false); assumption))) <;> simp only [ASt.next, hh] <;> simp [ASt.count, Frm.none, *] <;> rfl)))
section
variable {ρ : Rho}
theorem xHb (hf : ρ.fn = zCV zEf) (x y : Tm) : (@Tm.den ρ (.app 128 (tp [x, y]))).asI = zFx (@Tm.den ρ x).asI (@Tm.den ρ y).asI := by rw [zE4, hf]; rfl
theorem xI8 (hf : ρ.fn = zCV zEf) (x y z : Tm) : (@Tm.den ρ (.app 256 (tp [x, y, z]))).asI = (zEv (@Tm.den ρ x).asI (@Tm.den ρ y).asI (@Tm.den ρ z).asI).1 := by rw [zE4, hf]; rfl
theorem xI7 (hf : ρ.fn = zCV zEf) (x y z : Tm) : (@Tm.den ρ (.app 257 (tp [x, y, z]))).asB = (zEv (@Tm.den ρ x).asI (@Tm.den ρ y).asI (@Tm.den ρ z).asI).2 := by rw [zE4, hf]; rfl
theorem xHa (hf : ρ.fn = zCV zEf) (a b c d e f g h i : Tm) : (@Tm.den ρ (.app 320 (tp [a, b, c, d, e, f, g, h, i]))).asI = zOz (@Tm.den ρ a).asI (@Tm.den ρ b).asI (@Tm.den ρ c).asB (@Tm.den ρ d).asB (@Tm.den ρ e).asB (@Tm.den ρ f).asB (@Tm.den ρ g).asI (@Tm.den ρ h).asI (@Tm.den ρ i).asB := by rw [zE4, hf]; rfl
theorem xGZ (hf : ρ.fn = zCV zEf) (a b c d e f g : Tm) : (@Tm.den ρ (.app 384 (tp [a, b, c, d, e, f, g]))).asI = zFx (@Tm.den ρ a).asI (@Tm.den ρ g).asI := by rw [zE4, hf]; rfl
theorem xGY (hf : ρ.fn = zCV zEf) (a b c d e f g : Tm) : (@Tm.den ρ (.app 385 (tp [a, b, c, d, e, f, g]))).asI = max 0 ((@Tm.den ρ b).asI - (@Tm.den ρ g).asI) := by rw [zE4, hf]; rfl
theorem xGX (hf : ρ.fn = zCV zEf) (a b c d e f g : Tm) : (@Tm.den ρ (.app 386 (tp [a, b, c, d, e, f, g]))).asI = if (@Tm.den ρ g).asI > 0 then 0 else (@Tm.den ρ c).asI := by rw [zE4, hf]; rfl
theorem xGW (hf : ρ.fn = zCV zEf) (a b c d e f g : Tm) : (@Tm.den ρ (.app 387 (tp [a, b, c, d, e, f, g]))).asI = (@Tm.den ρ d).asI + (@Tm.den ρ g).asI := by rw [zE4, hf]; rfl
theorem xGV (hf : ρ.fn = zCV zEf) (a b c d e f g : Tm) : (@Tm.den ρ (.app 388 (tp [a, b, c, d, e, f, g]))).asI = (@Tm.den ρ e).asI - (@Tm.den ρ g).asI := by rw [zE4, hf]; rfl
theorem xGU (hf : ρ.fn = zCV zEf) (a b c d e f g : Tm) : (@Tm.den ρ (.app 389 (tp [a, b, c, d, e, f, g]))).asI = (@Tm.den ρ f).asI - (@Tm.den ρ g).asI := by rw [zE4, hf]; rfl
theorem xI6 (hf : ρ.fn = zCV zEf) (a b c d e f g : Tm) : (@Tm.den ρ (.app 390 (tp [a, b, c, d, e, f, g]))).asB = decide (0 ≤ (@Tm.den ρ g).asI ∧ (@Tm.den ρ g).asI ≤ (@Tm.den ρ e).asI ∧ (@Tm.den ρ g).asI ≤ 100 ∧ 0 ≤ (@Tm.den ρ b).asI ∧ (@Tm.den ρ b).asI ≤ 100 ∧ 0 ≤ (@Tm.den ρ f).asI ∧ (@Tm.den ρ f).asI ≤ 100) := by rw [zE4, hf]; rfl
end
theorem xBA {a h : Int} (h0 : 0 ≤ h) (h7 : h ≤ 7) : zFa a (zFx a h) = h := by unfold zFa zFx; omega
theorem xEl {a h n : Int} (h0 : 0 ≤ h) (h7 : h ≤ 7) : 0 ≤ (zEv a (zFx a h) n).1 ∧ (zEv a (zFx a h) n).1 ≤ h := by
 unfold zEv;rw [xBA h0 h7];have : 0 ≤ zFa a n := by unfold zFa; omega
 split
 ·exact ⟨Int.le_refl _, h0⟩
 ·exact ⟨this, by omega⟩
theorem xD1 {env : Env} (h : SHear.tree Tryz.prog env 94 = xCe) : SumOK Tryz.prog env 94 SHear 704 20 (zCV zEf) := by
 intro ρ hf hok;rw [h];rw [show zCV zEf (704 + 20) (zFf ρ.val SHear.us) = .dB (decide (0 ≤ (ρ.val 4).asI ∧ (ρ.val 4).asI ≤ 100 ∧ 0 ≤ (ρ.val 19).asI ∧ (ρ.val 19).asI ≤ (ρ.val 17).asI ∧ (ρ.val 19).asI ≤ 7)) from rfl, zEa, decide_eq_true_eq] at hok
 obtain ⟨e0, e1, e2, e3, e4, e5, e6, e7, e8, e9, e10, e11, e12, e13, e14, e15, e16, e17, e18, e19, t448, t449, t450, t451, t452, t453, t454, t455, t456, t258, t129⟩ : ((zAc SHear 704 ρ).val 31).asS = ((aR ρ).hear (fR ρ 24)).1.info ∧ ((zAc SHear 704 ρ).val 32).asB = ((aR ρ).hear (fR ρ 24)).1.taken ∧ ((zAc SHear 704 ρ).val 33).asI = ((aR ρ).hear (fR ρ 24)).1.acked ∧ ((zAc SHear 704 ρ).val 34).asB = ((aR ρ).hear (fR ρ 24)).1.failed ∧ ((zAc SHear 704 ρ).val 35).asI = ((aR ρ).hear (fR ρ 24)).2.va ∧ ((zAc SHear 704 ρ).val 36).asI = ((aR ρ).hear (fR ρ 24)).2.vr ∧ ((zAc SHear 704 ρ).val 37).asI = ((aR ρ).hear (fR ρ 24)).2.out ∧ ((zAc SHear 704 ρ).val 38).asI = ((aR ρ).hear (fR ρ 24)).2.tries ∧ ((zAc SHear 704 ρ).val 39).asI = ((aR ρ).hear (fR ρ 24)).2.left ∧ ((zAc SHear 704 ρ).val 40).asB = ((aR ρ).hear (fR ρ 24)).2.pb ∧ ((zAc SHear 704 ρ).val 41).asB = ((aR ρ).hear (fR ρ 24)).2.rejs ∧ ((zAc SHear 704 ρ).val 42).asB = ((aR ρ).hear (fR ρ 24)).2.asks ∧ ((zAc SHear 704 ρ).val 43).asB = ((aR ρ).hear (fR ρ 24)).2.failed ∧ ((zAc SHear 704 ρ).val 44).asI = ((aR ρ).hear (fR ρ 24)).2.off ∧ ((zAc SHear 704 ρ).val 45).asI = ((aR ρ).hear (fR ρ 24)).2.len ∧ ((zAc SHear 704 ρ).val 46).asI = ((aR ρ).hear (fR ρ 24)).2.high ∧ ((zAc SHear 704 ρ).val 47).asB = ((aR ρ).hear (fR ρ 24)).2.due ∧ ((zAc SHear 704 ρ).val 48).asB = ((aR ρ).hear (fR ρ 24)).2.final ∧ ((zAc SHear 704 ρ).val 49).asB = ((aR ρ).hear (fR ρ 24)).2.reject ∧ ((zAc SHear 704 ρ).val 50).asB = ((aR ρ).hear (fR ρ 24)).2.poll ∧ (@Tm.den ρ (.app 448 (tp [vt 2, vt 8, vt 9, vt 20, vt 22, vt 28, vt 30]))).asS = (tak (ρ.val 2).asI (ρ.val 8).asB (ρ.val 9).asB (ρ.val 20).asB (ρ.val 22).asB (ρ.val 28).asI (ρ.val 30).asS).1.info ∧ (@Tm.den ρ (.app 449 (tp [vt 2, vt 8, vt 9, vt 20, vt 22, vt 28, vt 30]))).asB = (tak (ρ.val 2).asI (ρ.val 8).asB (ρ.val 9).asB (ρ.val 20).asB (ρ.val 22).asB (ρ.val 28).asI (ρ.val 30).asS).1.taken ∧ (@Tm.den ρ (.app 450 (tp [vt 2, vt 8, vt 9, vt 20, vt 22, vt 28, vt 30]))).asI = (tak (ρ.val 2).asI (ρ.val 8).asB (ρ.val 9).asB (ρ.val 20).asB (ρ.val 22).asB (ρ.val 28).asI (ρ.val 30).asS).1.acked ∧ (@Tm.den ρ (.app 451 (tp [vt 2, vt 8, vt 9, vt 20, vt 22, vt 28, vt 30]))).asB = (tak (ρ.val 2).asI (ρ.val 8).asB (ρ.val 9).asB (ρ.val 20).asB (ρ.val 22).asB (ρ.val 28).asI (ρ.val 30).asS).1.failed ∧ (@Tm.den ρ (.app 452 (tp [vt 2, vt 8, vt 9, vt 20, vt 22, vt 28, vt 30]))).asI = (tak (ρ.val 2).asI (ρ.val 8).asB (ρ.val 9).asB (ρ.val 20).asB (ρ.val 22).asB (ρ.val 28).asI (ρ.val 30).asS).2.1 ∧ (@Tm.den ρ (.app 453 (tp [vt 2, vt 8, vt 9, vt 20, vt 22, vt 28, vt 30]))).asB = (tak (ρ.val 2).asI (ρ.val 8).asB (ρ.val 9).asB (ρ.val 20).asB (ρ.val 22).asB (ρ.val 28).asI (ρ.val 30).asS).2.2.1 ∧ (@Tm.den ρ (.app 454 (tp [vt 2, vt 8, vt 9, vt 20, vt 22, vt 28, vt 30]))).asB = (tak (ρ.val 2).asI (ρ.val 8).asB (ρ.val 9).asB (ρ.val 20).asB (ρ.val 22).asB (ρ.val 28).asI (ρ.val 30).asS).2.2.2.2 ∧ (@Tm.den ρ (.app 455 (tp [vt 2, vt 8, vt 9, vt 20, vt 22, vt 28, vt 30]))).asB = (tak (ρ.val 2).asI (ρ.val 8).asB (ρ.val 9).asB (ρ.val 20).asB (ρ.val 22).asB (ρ.val 28).asI (ρ.val 30).asS).2.2.2.1 ∧ (@Tm.den ρ (.app 456 (tp [vt 2, vt 8, vt 9, vt 20, vt 22, vt 28, vt 30]))).asB = true ∧ (@Tm.den ρ (.app 258 (tp [vt 0, .app 128 (tp [vt 0, vt 19]), vt 29]))).asB = true ∧ (@Tm.den ρ (.app 129 (tp [vt 0, vt 19]))).asB = true := by
  obtain ⟨val, fn⟩ := ρ; obtain rfl : fn = zCV zEf := hf;exact ⟨rfl, rfl, rfl, rfl, rfl, rfl, rfl, rfl, rfl, rfl, rfl, rfl, rfl, rfl, rfl, rfl, rfl, rfl, rfl, rfl, rfl, rfl, rfl, rfl, rfl, rfl, rfl, rfl, rfl, rfl, rfl⟩
 have a321 : ∀ x, (@Tm.den ρ (.app 321 (tp x))).asB = true := fun x => by rw [zE4, hf]; rfl
 have hr := xEl (a := (ρ.val 0).asI) (n := (ρ.val 29).asI) hok.2.2.1 hok.2.2.2.2;have t256 : (@Tm.den ρ (.app 256 (tp [vt 0, .app 128 (tp [vt 0, vt 19]), vt 29]))).asI = (zEv (ρ.val 0).asI (zFx (ρ.val 0).asI (ρ.val 19).asI) (ρ.val 29).asI).1 := by rw [xI8 hf, xHb hf]; rfl
 have t257 : (@Tm.den ρ (.app 257 (tp [vt 0, .app 128 (tp [vt 0, vt 19]), vt 29]))).asB = (zEv (ρ.val 0).asI (zFx (ρ.val 0).asI (ρ.val 19).asI) (ρ.val 29).asI).2 := by rw [xI7 hf, xHb hf]; rfl
 have t390 : (@Tm.den ρ (.app 390 zD7)).asB = true := by
  rw [xI6 hf, t256];refine decide_eq_true ?_;simp only [zAv]; omega
 have t3 : (@Tm.den ρ zE3).asB = decide (0 < (zEv (ρ.val 0).asI (zFx (ρ.val 0).asI (ρ.val 19).asI) (ρ.val 29).asI).1) := by rw [← t256]; rfl
 unfold xCe
 repeat' (first | (refine zAb (fun h => ?_) (fun h => ?_) <;> (try simp only [zAT, zAO, zAU, zAQ, zBw, zBV, zAS, zEo, zDF, zDG, zDo, zDp, t448, t449, t450, t451, t452, t453, t454, t455, t456, t258, t129, a321, t3, t256, t257, t390, xHa hf, xGZ hf, xGY hf, xGX hf, xGW hf, xGV hf, xGU hf, zAv, zBs, zEc, reduceCtorEq] at h)) | refine zAk ?_)
 all_goals first | (exfalso; omega) | ((simp only [eI, eB, eS, eL, eN, zAv, zBs, zEc, zFy, e0, e1, e2, e3, e4, e5, e6, e7, e8, e9, e10, e11, e12, e13, e14, e15, e16, e17, e18, e19, t448, t449, t450, t451, t452, t453, t454, t455, t456, t258, t129, a321, t3, t256, t257, t390, xHa hf, xGZ hf, xGY hf, xGX hf, xGW hf, xGV hf, xGU hf, and_true, true_and]) <;> ((simp [ASt.hear, ASt.count, ASt.acked, ASt.kind, ASt.answered, ASt.take, ASt.polled, ASt.fail, Act.none, *] <;> skip)))
end Go.Proofs.YtenkabjkgngcdaaGreat.Ab
