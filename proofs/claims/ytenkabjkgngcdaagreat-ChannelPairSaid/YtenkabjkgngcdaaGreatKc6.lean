import Derived.Test.YtenkabjkgngcdaaGreatKc4
import Derived.Test.YtenkabjkgngcdaaGreatKb6
set_option linter.unusedVariables false
set_option linter.unusedSimpArgs false
set_option linter.unusedSectionVars false
namespace Go.Proofs.YtenkabjkgngcdaaGreat.Ab
open Go
noncomputable section
abbrev lR (ρ : Rho) : LSt :=
 ⟨(ρ.val 0).asI, (ρ.val 1).asB, (ρ.val 2).asI, (ρ.val 3).asI⟩
abbrev aR4 (ρ : Rho) : ASt :=
 ⟨(ρ.val 4).asI, (ρ.val 5).asI, (ρ.val 6).asI, (ρ.val 7).asI, (ρ.val 8).asI, (ρ.val 9).asI, (ρ.val 10).asI, (ρ.val 11).asB, (ρ.val 12).asB, (ρ.val 13).asB, (ρ.val 14).asB, (ρ.val 15).asB, (ρ.val 16).asB, (ρ.val 17).asI, (ρ.val 18).asI, (ρ.val 19).asI, (ρ.val 20).asI, (ρ.val 21).asI, (ρ.val 22).asL, (ρ.val 23).asI, (ρ.val 24).asB, (ρ.val 25).asB, (ρ.val 26).asB, (ρ.val 27).asB⟩
abbrev fR4 (ρ : Rho) (i : Nat) : Frm :=
 ⟨(ρ.val i).asI, (ρ.val (i + 1)).asB, (ρ.val (i + 2)).asI, (ρ.val (i + 3)).asB, (ρ.val (i + 4)).asI, (ρ.val (i + 5)).asI, (ρ.val (i + 6)).asS⟩
abbrev laR (ρ : Rho) (i : Nat) : LAct :=
 ⟨(ρ.val i).asI, (ρ.val (i + 1)).asB, (ρ.val (i + 2)).asB, (ρ.val (i + 3)).asI, (ρ.val (i + 4)).asI⟩
abbrev zAd (ρ : Rho) : Core :=
 ⟨lR ρ, (ρ.val 34).asI, (ρ.val 35).asS, (ρ.val 36).asI, (ρ.val 42).asI, (ρ.val 44).asI, (ρ.val 47).asI, (ρ.val 48).asI, (ρ.val 49).asB, (ρ.val 50).asI, (ρ.val 51).asI, (ρ.val 52).asL, (ρ.val 53).asI, fR4 ρ 54, fR4 ρ 61⟩
theorem zGS {ρ : Rho} (k : IntKind) (x y : Tm) : (@Tm.den ρ (.ib .rem k x y)).asI = (@Tm.den ρ x).asI.tmod (@Tm.den ρ y).asI := rfl
abbrev zF5 : Tm := (.ib .eql .u8 y0 (.ci 1))
abbrev zD0 : Tm := (.cb true)
abbrev zAK : Tm := (.ci 0)
abbrev zEE : Sr × Tm × Tm := (.sI, y10, zAK)
abbrev xAQ : Tree (Option Eqs) := (.leaf (some [(.sI, y4, (.ci 1)), (.sB, y5, zD0), (.sB, y6, zD0), (.sI, y7, (.ci 1)), (.sI, y8, zAK), (.sI, y9, (.ci 2)), zEE]))
abbrev zF4 : Tm := (.ib .eql .u8 y0 (.ci 5))
abbrev zF3 : Tm := (.ib .eql .u8 y0 (.ci 2))
abbrev zIe : Tree (Option Eqs) := (.leaf (some [(.sI, y4, (.ci 0)), (.sB, y5, (.cb false)), (.sB, y6, (.cb false)), (.sI, y7, (.ci 0)), (.sI, y8, (.ci 0)), (.sI, y9, y0), (.sI, y10, y2)]))
abbrev zF2 : Tm := (.ib .eql .u8 y0 (.ci 3))
abbrev zJi : Tm := (.ib .eql .u8 y0 (.ci 4))
def xBj : (Tree (Option Eqs)) :=
 (.fork zF5 xAQ (.fork zF4 xAQ (.fork zF3 zIe (.fork zF2 zIe (.fork zJi zIe zIe)))))
set_option maxRecDepth 100000 in
theorem zWK : SLOpen.tree Tryz.prog none0 27 = xBj := by kernel_rfl
set_option maxHeartbeats 2000000 in
set_option maxRecDepth 100000 in
theorem zWI : SumOK Tryz.prog none0 27 SLOpen 2176 7 fnC := by
 intro ρ hf hok;rw [zWK];obtain ⟨e0, e1, e2, e3, e4, e5, e6⟩ : ((zAc SLOpen 2176 ρ).val 4).asI = (lR ρ).open_.1.kind ∧ ((zAc SLOpen 2176 ρ).val 5).asB = (lR ρ).open_.1.cmd ∧ ((zAc SLOpen 2176 ρ).val 6).asB = (lR ρ).open_.1.pf ∧ ((zAc SLOpen 2176 ρ).val 7).asI = (lR ρ).open_.1.timer ∧ ((zAc SLOpen 2176 ρ).val 8).asI = (lR ρ).open_.1.fact ∧ ((zAc SLOpen 2176 ρ).val 9).asI = (lR ρ).open_.2.st ∧ ((zAc SLOpen 2176 ρ).val 10).asI = (lR ρ).open_.2.tries := by
  obtain ⟨val, fn⟩ := ρ; obtain rfl : fn = fnC := hf;exact ⟨rfl, rfl, rfl, rfl, rfl, rfl, rfl⟩
 unfold xBj
 repeat' (first | (refine zAb (fun h => ?_) (fun h => ?_) <;> (try simp only [zAT, zAO, zAU, zAQ, zEk, zEl, zBw, zBV, zAS, zEo, zDF, zDG, zDo, zDp, zCL, zHa, zHC, zHD, zDI, zDJ, zAv, zBs, zEc, zFy, zB9, zBj, zBI, reduceCtorEq] at h)) | refine zAk ?_)
 all_goals first | (exfalso; omega) | ((simp only [eI, eB, eS, eL, eN, zAv, zBs, zEc, zFy, zB9, zBj, zGS, zCX, zDw, e0, e1, e2, e3, e4, e5, e6, and_true, true_and]) <;> ((try simp [LAct.no, LAct.says, LSt.again, LSt.open_, LSt.close, LSt.due, LSt.cmd, LSt.rsp, LSt.hear, *]) <;> (try rfl)))
abbrev xAP : Tree (Option Eqs) := (.leaf (some [(.sI, y4, (.ci 4)), (.sB, y5, zD0), (.sB, y6, zD0), (.sI, y7, (.ci 1)), (.sI, y8, zAK), (.sI, y9, (.ci 4)), zEE]))
def zWN : (Tree (Option Eqs)) :=
 (.fork zF5 zIe (.fork zF4 zIe (.fork zF3 xAP (.fork zF2 xAP (.fork zJi zIe zIe)))))
set_option maxRecDepth 100000 in
theorem zTh : SLClose.tree Tryz.prog none0 33 = zWN := by kernel_rfl
set_option maxHeartbeats 2000000 in
set_option maxRecDepth 100000 in
theorem zTd : SumOK Tryz.prog none0 33 SLClose 2240 7 fnC := by
 intro ρ hf hok;rw [zTh];obtain ⟨e0, e1, e2, e3, e4, e5, e6⟩ : ((zAc SLClose 2240 ρ).val 4).asI = (lR ρ).close.1.kind ∧ ((zAc SLClose 2240 ρ).val 5).asB = (lR ρ).close.1.cmd ∧ ((zAc SLClose 2240 ρ).val 6).asB = (lR ρ).close.1.pf ∧ ((zAc SLClose 2240 ρ).val 7).asI = (lR ρ).close.1.timer ∧ ((zAc SLClose 2240 ρ).val 8).asI = (lR ρ).close.1.fact ∧ ((zAc SLClose 2240 ρ).val 9).asI = (lR ρ).close.2.st ∧ ((zAc SLClose 2240 ρ).val 10).asI = (lR ρ).close.2.tries := by
  obtain ⟨val, fn⟩ := ρ; obtain rfl : fn = fnC := hf;exact ⟨rfl, rfl, rfl, rfl, rfl, rfl, rfl⟩
 unfold zWN
 repeat' (first | (refine zAb (fun h => ?_) (fun h => ?_) <;> (try simp only [zAT, zAO, zAU, zAQ, zEk, zEl, zBw, zBV, zAS, zEo, zDF, zDG, zDo, zDp, zCL, zHa, zHC, zHD, zDI, zDJ, zAv, zBs, zEc, zFy, zB9, zBj, zBI, reduceCtorEq] at h)) | refine zAk ?_)
 all_goals first | (exfalso; omega) | ((simp only [eI, eB, eS, eL, eN, zAv, zBs, zEc, zFy, zB9, zBj, zGS, zCX, zDw, e0, e1, e2, e3, e4, e5, e6, and_true, true_and]) <;> ((try simp [LAct.no, LAct.says, LSt.again, LSt.open_, LSt.close, LSt.due, LSt.cmd, LSt.rsp, LSt.hear, *]) <;> (try rfl)))
abbrev zG0 : Sr × Tm × Tm := (.sI, y7, (.ci 2))
abbrev xAR : Tree (Option Eqs) := (.leaf (some [(.sI, y4, zAK), (.sB, y5, (.cb false)), (.sB, y6, (.cb false)), zG0, (.sI, y8, (.ci 6)), (.sI, y9, (.ci 5)), (.sI, y10, y2)]))
abbrev zDz : Tm := (.ci 1)
def xGb : (Tree (Option Eqs)) :=
 (.fork zF5 zIe (.fork zF4 zIe (.fork zF3 (.fork (.ib .geq .i64 y2 y3) xAR (.leaf (some [(.sI, y4, zDz), (.sB, y5, zD0), (.sB, y6, zD0), (.sI, y7, zDz), (.sI, y8, zAK), (.sI, y9, y0), (.sI, y10, (.ib .add .i64 y2 zDz))]))) (.fork zF2 zIe (.fork zJi (.fork (.ib .geq .i64 y2 y3) xAR (.leaf (some [(.sI, y4, (.ci 4)), (.sB, y5, zD0), (.sB, y6, zD0), (.sI, y7, zDz), (.sI, y8, zAK), (.sI, y9, y0), (.sI, y10, (.ib .add .i64 y2 zDz))]))) zIe)))))
set_option maxRecDepth 100000 in
theorem zZ3 : SLDue.tree Tryz.prog none0 49 = xGb := by kernel_rfl
set_option maxHeartbeats 2000000 in
set_option maxRecDepth 100000 in
theorem zZ0 : SumOK Tryz.prog none0 49 SLDue 2304 7 fnC := by
 intro ρ hf hok;rw [zZ3];rw [show fnC (2304 + 7) (zFf ρ.val SLDue.us) = .dB (decide (0 ≤ (ρ.val 2).asI ∧ (ρ.val 2).asI ≤ 1000)) from rfl, zEa, decide_eq_true_eq] at hok
 obtain ⟨e0, e1, e2, e3, e4, e5, e6⟩ : ((zAc SLDue 2304 ρ).val 4).asI = (lR ρ).due.1.kind ∧ ((zAc SLDue 2304 ρ).val 5).asB = (lR ρ).due.1.cmd ∧ ((zAc SLDue 2304 ρ).val 6).asB = (lR ρ).due.1.pf ∧ ((zAc SLDue 2304 ρ).val 7).asI = (lR ρ).due.1.timer ∧ ((zAc SLDue 2304 ρ).val 8).asI = (lR ρ).due.1.fact ∧ ((zAc SLDue 2304 ρ).val 9).asI = (lR ρ).due.2.st ∧ ((zAc SLDue 2304 ρ).val 10).asI = (lR ρ).due.2.tries := by
  obtain ⟨val, fn⟩ := ρ; obtain rfl : fn = fnC := hf;exact ⟨rfl, rfl, rfl, rfl, rfl, rfl, rfl⟩
 have w1 : IntKind.i64.wrap ((ρ.val 2).asI + 1) = (ρ.val 2).asI + 1 := i64wrap (by omega) (by omega)
 unfold xGb
 repeat' (first | (refine zAb (fun h => ?_) (fun h => ?_) <;> (try simp only [zAT, zAO, zAU, zAQ, zEk, zEl, zBw, zBV, zAS, zEo, zDF, zDG, zDo, zDp, zCL, zHa, zHC, zHD, zDI, zDJ, zAv, zBs, zEc, zFy, zB9, zBj, zBI, reduceCtorEq] at h)) | refine zAk ?_)
 all_goals first | (exfalso; omega) | ((simp only [eI, eB, eS, eL, eN, zAv, zBs, zEc, zFy, zB9, zBj, zGS, zCX, zDw, e0, e1, e2, e3, e4, e5, e6, and_true, true_and]) <;> ((try simp [zCX, LAct.no, LAct.says, LSt.again, LSt.open_, LSt.close, LSt.due, LSt.cmd, LSt.rsp, LSt.hear, *]) <;> (try rfl)))
abbrev zBO : Tree (Option Eqs) := (.leaf (some [(.sI, y7, (.ci 0)), (.sB, y8, (.cb false)), (.sB, y9, (.cb false)), (.sI, y10, (.ci 0)), (.sI, y11, (.ci 0)), (.sI, y12, y0), (.sI, y13, y2)]))
abbrev zDK : Sr × Tm × Tm := (.sB, y8, (.cb false))
abbrev zHM : Sr × Tm × Tm := (.sB, y9, (.cb false))
abbrev zDH : Sr × Tm × Tm := (.sI, y13, y2)
abbrev xAM : Tree (Option Eqs) := (.leaf (some [(.sI, y7, zAK), zDK, zHM, zEE, (.sI, y11, (.ci 5)), (.sI, y12, (.ci 1)), zDH]))
abbrev xAO : Tree (Option Eqs) := (.leaf (some [(.sI, y7, zAK), zDK, zHM, (.sI, y10, (.ci 2)), (.sI, y11, (.ci 1)), (.sI, y12, (.ci 3)), zDH]))
abbrev zVM : Tree (Option Eqs) := (.fork (.ib .eql .u8 y0 (.ci 4)) (.leaf (some [(.sI, y7, (.ci 0)), (.sB, y8, (.cb false)), (.sB, y9, (.cb false)), (.sI, y10, (.ci 2)), (.sI, y11, (.ci 5)), (.sI, y12, (.ci 1)), (.sI, y13, y2)])) zBO)
abbrev xCL : Tree (Option Eqs) := (.leaf (some [(.sI, y7, (.ci 3)), (.sB, y8, (.cb false)), (.sB, y9, (.cb true)), (.sI, y10, (.ci 0)), (.sI, y11, (.ci 0)), (.sI, y12, y0), (.sI, y13, y2)]))
abbrev xAS : Tree (Option Eqs) := (.fork (.ib .eql .u8 y4 (.ci 1)) (.fork y1 (.leaf (some [zG0, zDK, (.sB, y9, zD0), zEE, (.sI, y11, (.ci 2)), (.sI, y12, (.ci 3)), zDH])) xCL) xCL)
abbrev zRg : Tm := (.ib .eql .u8 y4 zDz)
abbrev xAK : Tree (Option Eqs) := (.leaf (some [zG0, zDK, (.sB, y9, zD0), zEE, (.sI, y11, zAK), (.sI, y12, y0), zDH]))
abbrev zRh : Tm := (.ib .eql .u8 y4 (.ci 4))
abbrev zNG : Sr × Tm × Tm := (.sI, y12, zDz)
abbrev zYY : Tree (Option Eqs) := (.leaf (some [(.sI, y7, (.ci 3)), (.sB, y8, (.cb false)), (.sB, y9, (.cb false)), (.sI, y10, (.ci 0)), (.sI, y11, (.ci 0)), (.sI, y12, y0), (.sI, y13, y2)]))
abbrev xAN : Tree (Option Eqs) := (.fork y1 (.leaf (some [zG0, zDK, zHM, zEE, (.sI, y11, (.ci 2)), (.sI, y12, (.ci 3)), zDH])) zYY)
abbrev xAJ : Tree (Option Eqs) := (.leaf (some [zG0, zDK, zHM, zEE, (.sI, y11, zAK), (.sI, y12, y0), zDH]))
def xBk : (Tree (Option Eqs)) :=
 (.fork (.ib .eql .u8 y4 (.ci 2)) (.fork (.ib .lss .u8 y4 zDz) zBO (.fork (.ib .gtr .u8 y4 (.ci 10)) zBO (.fork y6 zBO (.fork (.ib .eql .u8 y4 (.ci 3)) (.fork zF2 xAM (.fork y5 (.fork zF5 zBO (.fork zF4 zBO (.fork zF3 xAO zVM))) zBO)) (.fork y5 (.fork zF5 zBO (.fork zF4 zBO (.fork zF3 xAO (.fork zF2 zBO zVM)))) zBO))))) (.fork (.ib .lss
 .u8 y4 zDz) zBO (.fork (.ib .gtr .u8 y4 (.ci 10)) zBO (.fork y6 (.fork (.ib .neq .u8 y4 (.ci 3)) (.fork y5 (.fork zF5 xAS (.fork zF4 xAS (.fork zF3 (.fork zRg xAK (.fork zRh (.leaf (some [(.sI, y7, (.ci 3)), zDK, (.sB, y9, zD0), (.sI, y10, (.ci 2)), (.sI, y11, (.ci 4)), zNG, zDH])) zBO)) (.fork zF2 (.fork zRg (.leaf (some [zG0, zDK, (.sB, y9,
 zD0), zEE, (.sI, y11, (.ci 3)), (.sI, y12, y0), zDH])) (.fork zRh (.leaf (some [zG0, zDK, (.sB, y9, zD0), zEE, (.sI, y11, (.ci 5)), zNG, zDH])) zBO)) (.fork zJi (.fork zRg xCL (.fork zRh xAK zBO)) zBO))))) (.fork zRg (.fork zF5 xAN (.fork zF4 xAN (.fork zF3 xAJ (.fork zF2 (.leaf (some [zG0, zDK, zHM, zEE, (.sI, y11,
 (.ci 3)), (.sI, y12, y0), zDH])) (.fork zJi zYY zBO))))) (.fork zRh (.fork zF5 zYY (.fork zF4 zYY (.fork zF3 (.leaf (some [(.sI, y7, (.ci 3)), zDK, zHM, (.sI, y10, (.ci 2)), (.sI, y11, (.ci 4)), zNG, zDH])) (.fork zF2 (.leaf (some [zG0, zDK, zHM, zEE, (.sI, y11, (.ci 5)), zNG, zDH])) (.fork zJi xAJ zBO))))) (.fork zF5 zBO (.fork
 zF4 zBO (.fork zF3 zBO (.fork zF2 zBO (.fork zJi zBO zBO)))))))) zBO) (.fork (.ib .neq .u8 y4 (.ci 3)) zBO (.fork zF2 xAM (.fork y5 (.fork zF5 zBO (.fork zF4 zBO (.fork zF3 (.leaf (some [(.sI, y7, zAK), zDK, zHM, (.sI, y10, (.ci 2)), (.sI, y11, (.ci 4)), zNG, zDH])) zVM))) zBO)))))))
set_option maxRecDepth 100000 in
theorem zWM : SLHear.tree Tryz.prog none0 93 = xBk := by kernel_rfl
set_option maxHeartbeats 2000000 in
set_option maxRecDepth 100000 in
theorem zWL : SumOK Tryz.prog none0 93 SLHear 2368 7 fnC := by
 intro ρ hf hok;rw [zWM];obtain ⟨e0, e1, e2, e3, e4, e5, e6⟩ : ((zAc SLHear 2368 ρ).val 7).asI = (LSt.hear (lR ρ) (ρ.val 4).asI (ρ.val 5).asB (ρ.val 6).asB).1.kind ∧ ((zAc SLHear 2368 ρ).val 8).asB = (LSt.hear (lR ρ) (ρ.val 4).asI (ρ.val 5).asB (ρ.val 6).asB).1.cmd ∧ ((zAc SLHear 2368 ρ).val 9).asB = (LSt.hear (lR ρ) (ρ.val 4).asI (ρ.val 5).asB (ρ.val 6).asB).1.pf ∧ ((zAc SLHear 2368 ρ).val 10).asI = (LSt.hear (lR ρ) (ρ.val 4).asI (ρ.val 5).asB (ρ.val 6).asB).1.timer ∧ ((zAc SLHear 2368 ρ).val 11).asI = (LSt.hear (lR ρ) (ρ.val 4).asI (ρ.val 5).asB (ρ.val 6).asB).1.fact ∧ ((zAc SLHear 2368 ρ).val 12).asI = (LSt.hear (lR ρ) (ρ.val 4).asI (ρ.val 5).asB (ρ.val 6).asB).2.st ∧ ((zAc SLHear 2368 ρ).val 13).asI = (LSt.hear (lR ρ) (ρ.val 4).asI (ρ.val 5).asB (ρ.val 6).asB).2.tries := by
  obtain ⟨val, fn⟩ := ρ; obtain rfl : fn = fnC := hf;exact ⟨rfl, rfl, rfl, rfl, rfl, rfl, rfl⟩
 unfold xBk
 repeat' (first | (refine zAb (fun h => ?_) (fun h => ?_) <;> (try simp only [zAT, zAO, zAU, zAQ, zEk, zEl, zBw, zBV, zAS, zEo, zDF, zDG, zDo, zDp, zCL, zHa, zHC, zHD, zDI, zDJ, zAv, zBs, zEc, zFy, zB9, zBj, zBI, reduceCtorEq] at h)) | refine zAk ?_)
 all_goals first | (exfalso; omega) | ((simp only [eI, eB, eS, eL, eN, zAv, zBs, zEc, zFy, zB9, zBj, zGS, zCX, zDw, e0, e1, e2, e3, e4, e5, e6, and_true, true_and]) <;> ((try simp [LAct.no, LAct.says, LSt.again, LSt.open_, LSt.close, LSt.due, LSt.cmd, LSt.rsp, LSt.hear, *]) <;> (try rfl)))
abbrev zH6 : Tm :=
 (tp [y4, y5, y6, y7, y8, y9, y10, y11, y12, y13, y14, y15, y16, y17, y18, y19, y20, y21, y22, y23, y24, y25, y26, y27, (.ib .eql .i64 y29 zAK)])
abbrev zHw : Tm :=
 (tp [y4, y5, y6, y7, y8, y9, y10, y11, y12, y13, y14, y15, y16, y17, y18, y19, y20, y21, y22, y23, y24, y25, y26, y27, (.cb false)])
def xG4 : (Tree (Option Eqs)) :=
 (.fork (.ib .eql .u8 y48 (.ci 3)) (.fork (.ib .gtr .i64 (.len y35) zAK) (.fork (.app 834 zH6) (.leaf (some [(.sI, y68, (.app 832 zH6)), (.sB, y69, (.app 833 zH6))])) .fail) (.fork (.app 834 zHw) (.leaf (some [(.sI, y68, (.app 832 zHw)), (.sB, y69, (.app 833 zHw))])) .fail)) (.leaf (some [(.sI, y68, y10), (.sB, y69, y15)])))
set_option maxRecDepth 100000 in
theorem zZT : SCWant.tree Tryz.prog zZF 28 = xG4 := by kernel_rfl
set_option maxHeartbeats 2000000 in
set_option maxRecDepth 100000 in
theorem zSg : SumOK Tryz.prog zZF 28 SCWant 2432 2 fnC := by
 intro ρ hf hok;rw [zZT];obtain ⟨e0, e1, a0, a1, a2, a3, a4, a5⟩ : ((zAc SCWant 2432 ρ).val 68).asI = (zA2 (aR4 ρ) (ρ.val 48).asI (ρ.val 35).asS (ρ.val 29).asI).left ∧ ((zAc SCWant 2432 ρ).val 69).asB = (zA2 (aR4 ρ) (ρ.val 48).asI (ρ.val 35).asS (ρ.val 29).asI).wants ∧ (@Tm.den ρ (.app 832 zH6)).asI = ((aR4 ρ).setWant ((ρ.val 29).asI == 0)).left ∧ (@Tm.den ρ (.app 832 zHw)).asI = ((aR4 ρ).setWant false).left ∧ (@Tm.den ρ (.app 833 zH6)).asB = ((aR4 ρ).setWant ((ρ.val 29).asI == 0)).wants ∧ (@Tm.den ρ (.app 833 zHw)).asB = ((aR4 ρ).setWant false).wants ∧ (@Tm.den ρ (.app 834 zH6)).asB = true ∧ (@Tm.den ρ (.app 834 zHw)).asB = true := by
  obtain ⟨val, fn⟩ := ρ; obtain rfl : fn = fnC := hf;exact ⟨rfl, rfl, rfl, rfl, rfl, rfl, rfl, rfl⟩
 unfold xG4
 repeat' (first | (refine zAb (fun h => ?_) (fun h => ?_) <;> (try simp only [zAT, zAO, zAU, zAQ, zEk, zEl, zBw, zBV, zAS, zEo, zDF, zDG, zDo, zDp, zCL, zHa, zHC, zHD, zDI, zDJ, zAv, zBs, zEc, zFy, zB9, zBj, zBI, a0, a1, a2, a3, a4, a5, reduceCtorEq] at h)) | refine zAk ?_)
 all_goals first | (exfalso; omega) | ((simp only [eI, eB, eS, eL, eN, zAv, zBs, zEc, zFy, zB9, zBj, zGS, zCX, zDw, e0, e1, a0, a1, a2, a3, a4, a5, and_true, true_and]) <;> (first | (have hq : decide ((((ρ.val 35).asS.length : Nat) : Int) > 0) = true := decide_eq_true (by omega); simp only [zA2, if_pos ‹(ρ.val 48).asI = 3›, hq, Bool.true_and, and_self]; done) | (have hq : decide ((((ρ.val 35).asS.length : Nat) : Int) > 0) = false := decide_eq_false (by omega); simp only [zA2, if_pos ‹(ρ.val 48).asI = 3›, hq, Bool.false_and, and_self]; done) | (simp only [zA2, if_neg ‹¬(ρ.val 48).asI = 3›, and_self]; done)))
abbrev xAI : Tm := (.ite (.ib .lss .i64 (.ci 255) y44) (.ci 255) y44)
abbrev zO9 : Tm :=
 (.ib .gtr .i64 xAI zAK)
abbrev zXT : Tm :=
 (.ite zO9 xAI zAK)
abbrev zRi : Sr × Tm × Tm := (.sI, y73, (.ib .rem .i64 (.plus y34 (.len y35)) y36))
abbrev xAL : Tree (Option Eqs) := (.leaf (some [(.sI, y69, y0), (.sB, y70, (.cb false)), (.sI, y71, y2), (.sI, y72, y3), zRi, zRi]))
def xJ3 : (Tree (Option Eqs)) :=
 (.fork (.ib .neq .u8 y0 zDz) (.fork (.ib .neq .u8 y0 (.ci 5)) (.leaf (some [(.sI, y69, zDz), (.sB, y70, (.cb false)), (.sI, y71, zAK), (.sI, y72, zXT), zRi, zRi])) xAL) xAL)
set_option maxRecDepth 100000 in
theorem xEe : SCEnd.tree Tryz.prog zZF 32 = xJ3 := by kernel_rfl
set_option maxHeartbeats 2000000 in
set_option maxRecDepth 100000 in
theorem xEd : SumOK Tryz.prog zZF 32 SCEnd 2496 5 fnC := by
 intro ρ hf hok;rw [xEe];obtain ⟨e0, e1, e2, e3, e4⟩ : ((zAc SCEnd 2496 ρ).val 69).asI = ((lR ρ).fin (ρ.val 44).asI).st ∧ ((zAc SCEnd 2496 ρ).val 70).asB = ((lR ρ).fin (ρ.val 44).asI).listens ∧ ((zAc SCEnd 2496 ρ).val 71).asI = ((lR ρ).fin (ρ.val 44).asI).tries ∧ ((zAc SCEnd 2496 ρ).val 72).asI = ((lR ρ).fin (ρ.val 44).asI).most ∧ ((zAc SCEnd 2496 ρ).val 73).asI = (((ρ.val 34).asI + ((ρ.val 35).asS.length : Int)).tmod (ρ.val 36).asI) := by
  obtain ⟨val, fn⟩ := ρ; obtain rfl : fn = fnC := hf;exact ⟨rfl, rfl, rfl, rfl, rfl⟩
 have h1 : (@Tm.den ρ (.ite (.ib .lss .i64 (.ci 255) (vt 44)) (.ci 255) (vt 44))).asI = min (ρ.val 44).asI 255 := by
  rw [zPS];cases hc : (@Tm.den ρ (.ib .lss .i64 (.ci 255) (vt 44))).asB with
  | true => simp only [zBw, zBs, zAv] at hc; simp only [cond_true, zBs]; omega
  | false => simp only [zBV, zBs, zAv] at hc; simp only [cond_false, zAv]; omega
 have hm : (@Tm.den ρ zXT).asI = zFG (ρ.val 44).asI := by
  rw [show zXT = .ite zO9 (.ite (.ib .lss .i64 (.ci 255) (vt 44)) (.ci 255) (vt 44)) (.ci 0) from rfl, zPS]
  cases hc : (@Tm.den ρ zO9).asB with
  | true => simp only [zO9, zAT, zBs, h1] at hc; simp only [cond_true, h1]; unfold zFG; omega
  | false => simp only [zO9, zAO, zBs, h1] at hc; simp only [cond_false, zBs]; unfold zFG; omega
 unfold xJ3
 repeat' (first | (refine zAb (fun h => ?_) (fun h => ?_) <;> (try simp only [zAT, zAO, zAU, zAQ, zEk, zEl, zBw, zBV, zAS, zEo, zDF, zDG, zDo, zDp, zCL, zHa, zHC, zHD, zDI, zDJ, zAv, zBs, zEc, zFy, zB9, zBj, zBI, reduceCtorEq] at h)) | refine zAk ?_)
 all_goals first | (exfalso; omega) | ((simp only [eI, eB, eS, eL, eN, zAv, zBs, zEc, zFy, zB9, zBj, zGS, zCX, zDw, e0, e1, e2, e3, e4, and_true, true_and]) <;> ((try simp [LSt.fin, zGS, hm, *]) <;> (try rfl)))
abbrev xAG : Tm := (tp [y0, y1, y2, y3, y34, y35, y36, y44])
abbrev zA0 : Tm :=
 xAG
abbrev zVK : Tm := (.ib .eql .u8 y71 zDz)
abbrev zG5 : Tm := (.ib .eql .u8 y72 (.ci 2))
abbrev zCl : Sr × Tm × Tm := (.sI, y79, (.ci 3))
abbrev zGx : Sr × Tm × Tm := (.sB, y80, zD0)
abbrev zBe : Sr × Tm × Tm := (.sI, y81, y50)
abbrev zBd : Sr × Tm × Tm := (.sI, y82, y51)
abbrev zGs : Sr × Tm × Tm := (.sI, y84, y42)
abbrev zCk : Sr × Tm × Tm := (.sI, y85, y54)
abbrev zCj : Sr × Tm × Tm := (.sB, y86, y55)
abbrev zCi : Sr × Tm × Tm := (.sI, y87, y56)
abbrev zCh : Sr × Tm × Tm := (.sB, y88, y57)
abbrev zCg : Sr × Tm × Tm := (.sI, y89, y58)
abbrev zCf : Sr × Tm × Tm := (.sI, y90, y59)
abbrev zCe : Sr × Tm × Tm := (.sS, y91, y60)
abbrev zGr : Sr × Tm × Tm := (.sI, y92, y47)
abbrev zGq : Sr × Tm × Tm := (.sB, y93, y69)
abbrev zGp : Sr × Tm × Tm := (.sI, y94, y68)
abbrev zGo : Sr × Tm × Tm := (.sB, y95, y70)
abbrev zGw : Sr × Tm × Tm := (.sI, y96, zAK)
abbrev zGv : Sr × Tm × Tm := (.sI, y97, zAK)
abbrev zGz : Sr × Tm × Tm := (.sS, y98, (.cs []))
abbrev zBa : Sr × Tm × Tm := (.sI, y73, y0)
abbrev zAZ : Sr × Tm × Tm := (.sB, y74, y1)
abbrev zAY : Sr × Tm × Tm := (.sI, y75, y2)
abbrev zAX : Sr × Tm × Tm := (.sI, y76, y3)
abbrev zAs : Sr × Tm × Tm := (.sI, y77, y34)
abbrev zCp : Sr × Tm × Tm := (.sI, (.len y78), (.len y35))
abbrev zBc : Sr × Tm × Tm := (.sS, y78, y35)
abbrev zBb : Sr × Tm × Tm := (.sL, y83, y52)
abbrev zG4 : Tm := (.ib .eql .u8 y72 (.ci 1))
abbrev zCd : Sr × Tm × Tm := (.sB, y80, y49)
abbrev zG3 : Tm := (.ib .eql .u8 y72 (.ci 4))
abbrev zIf : Tree (Option Eqs) := (.fork (.app 2501 zA0) (.leaf (some [(.sI, y79, (.ci 5)), (.sB, y80, y49), (.sI, y81, (.ci 0)), (.sI, y82, (.ci 0)), (.sI, y84, (.ci 0)), (.sI, y85, y54), (.sB, y86, y55), (.sI, y87, y56), (.sB, y88, y57), (.sI, y89, y58), (.sI, y90, y59), (.sS, y91, y60), (.sI, y92, (.ci 0)), (.sB, y93, (.cb false)), (.sI, y94, (.ci 0)), (.sB, y95, (.cb false)), (.sI, y96, (.ci 0)), (.sI, y97, (.ci 0)), (.sS, y98, (.cs [])), (.sI, y73, (.app 2496 zA0)), (.sB, y74, (.app 2497 zA0)), (.sI, y75, (.app 2498 zA0)), (.sI, y76, (.app 2499 zA0)), (.sI, y77, (.app 2500 zA0)), (.sI, (.len y78), (.ci 0)), (.sI, y77, (.app 2500 zA0)), (.sS, y78, (.cs [])), (.sL, y83, (.cb false))])) .fail)
abbrev zG2 : Tm := (.ib .eql .u8 y72 (.ci 5))
abbrev zG1 : Tm := (.ib .eql .u8 y72 (.ci 6))
abbrev zSP : Tree (Option Eqs) := (.fork (.app 2501 zA0) (.leaf (some [(.sI, y79, (.ci 6)), (.sB, y80, y49), (.sI, y81, (.ci 0)), (.sI, y82, (.ci 0)), (.sI, y84, (.ci 0)), (.sI, y85, y54), (.sB, y86, y55), (.sI, y87, y56), (.sB, y88, y57), (.sI, y89, y58), (.sI, y90, y59), (.sS, y91, y60), (.sI, y92, (.ci 0)), (.sB, y93, (.cb false)), (.sI, y94, (.ci 0)), (.sB, y95, (.cb false)), (.sI, y96, (.ci 0)), (.sI, y97, (.ci 0)), (.sS, y98, (.cs [])), (.sI, y73, (.app 2496 zA0)), (.sB, y74, (.app 2497 zA0)), (.sI, y75, (.app 2498 zA0)), (.sI, y76, (.app 2499 zA0)), (.sI, y77, (.app 2500 zA0)), (.sI, (.len y78), (.ci 0)), (.sI, y77, (.app 2500 zA0)), (.sS, y78, (.cs [])), (.sL, y83, (.cb false))])) .fail)
abbrev zGn : Sr × Tm × Tm := (.sI, y79, y48)
abbrev zVL : Tm := (.ib .eql .u8 y71 (.ci 2))
abbrev zGu : Sr × Tm × Tm := (.sI, y84, zAK)
abbrev zGm : Sr × Tm × Tm := (.sI, y84, y53)
abbrev zGl : Sr × Tm × Tm := (.sI, y85, y47)
abbrev zGk : Sr × Tm × Tm := (.sB, y86, y69)
abbrev zGj : Sr × Tm × Tm := (.sI, y87, y68)
abbrev zGi : Sr × Tm × Tm := (.sB, y88, y70)
abbrev zGt : Sr × Tm × Tm := (.sI, y89, zAK)
abbrev zFz : Sr × Tm × Tm := (.sI, y90, zAK)
abbrev zGy : Sr × Tm × Tm := (.sS, y91, (.cs []))
abbrev zCc : Sr × Tm × Tm := (.sI, y92, y61)
abbrev zCb : Sr × Tm × Tm := (.sB, y93, y62)
abbrev zCa : Sr × Tm × Tm := (.sI, y94, y63)
abbrev zBZ : Sr × Tm × Tm := (.sB, y95, y64)
abbrev zBY : Sr × Tm × Tm := (.sI, y96, y65)
abbrev zBX : Sr × Tm × Tm := (.sI, y97, y66)
abbrev zBS : Sr × Tm × Tm := (.sS, y98, y67)
abbrev zSQ : Tree (Option Eqs) := (.fork (.app 2501 zA0) (.leaf (some [(.sI, y79, (.ci 5)), (.sB, y80, y49), (.sI, y81, (.ci 0)), (.sI, y82, (.ci 0)), (.sI, y84, (.ci 0)), (.sI, y85, y47), (.sB, y86, y69), (.sI, y87, y68), (.sB, y88, y70), (.sI, y89, (.ci 0)), (.sI, y90, (.ci 0)), (.sS, y91, (.cs [])), (.sI, y92, (.ci 0)), (.sB, y93, (.cb false)), (.sI, y94, (.ci 0)), (.sB, y95, (.cb false)), (.sI, y96, (.ci 0)), (.sI, y97, (.ci 0)), (.sS, y98, (.cs [])), (.sI, y73, (.app 2496 zA0)), (.sB, y74, (.app 2497 zA0)), (.sI, y75, (.app 2498 zA0)), (.sI, y76, (.app 2499 zA0)), (.sI, y77, (.app 2500 zA0)), (.sI, (.len y78), (.ci 0)), (.sI, y77, (.app 2500 zA0)), (.sS, y78, (.cs [])), (.sL, y83, (.cb false))])) .fail)
abbrev xCM : Tree (Option Eqs) := (.fork (.app 2501 zA0) (.leaf (some [(.sI, y79, (.ci 6)), (.sB, y80, y49), (.sI, y81, (.ci 0)), (.sI, y82, (.ci 0)), (.sI, y84, (.ci 0)), (.sI, y85, y47), (.sB, y86, y69), (.sI, y87, y68), (.sB, y88, y70), (.sI, y89, (.ci 0)), (.sI, y90, (.ci 0)), (.sS, y91, (.cs [])), (.sI, y92, (.ci 0)), (.sB, y93, (.cb false)), (.sI, y94, (.ci 0)), (.sB, y95, (.cb false)), (.sI, y96, (.ci 0)), (.sI, y97, (.ci 0)), (.sS, y98, (.cs [])), (.sI, y73, (.app 2496 zA0)), (.sB, y74, (.app 2497 zA0)), (.sI, y75, (.app 2498 zA0)), (.sI, y76, (.app 2499 zA0)), (.sI, y77, (.app 2500 zA0)), (.sI, (.len y78), (.ci 0)), (.sI, y77, (.app 2500 zA0)), (.sS, y78, (.cs [])), (.sL, y83, (.cb false))])) .fail)
def xGO : (Tree (Option Eqs)) :=
 (.fork (.ib .neq .u8 y68 zAK) (.fork y69 (.fork zVK (.fork zG5 (.leaf (some [zCl, zGx, zBe, zBd, zGs, zCk, zCj, zCi, zCh, zCg, zCf, zCe, zGr, zGq, zGp, zGo, zGw, zGv, zGz, zBa, zAZ, zAY, zAX, zAs, zCp, zAs, zBc, zBb])) (.fork zG4 (.leaf (some [zCl, zCd, zBe, zBd, zGs, zCk, zCj, zCi,
 zCh, zCg, zCf, zCe, zGr, zGq, zGp, zGo, zGw, zGv, zGz, zBa, zAZ, zAY, zAX, zAs, zCp, zAs, zBc, zBb])) (.fork zG3 zIf (.fork zG2 zIf (.fork zG1 zSP (.leaf (some [zGn, zCd, zBe, zBd, zGs, zCk, zCj, zCi, zCh, zCg, zCf, zCe, zGr, zGq, zGp, zGo, zGw, zGv, zGz, zBa, zAZ,
 zAY, zAX, zAs, zCp, zAs, zBc, zBb]))))))) (.fork zVL (.fork zG5 (.leaf (some [zCl, zGx, zBe, zBd, zGu, zCk, zCj, zCi, zCh, zCg, zCf, zCe, zGr, zGq, zGp, zGo, zGw, zGv, zGz, zBa, zAZ, zAY, zAX, zAs, zCp, zAs, zBc, zBb])) (.fork zG4 (.leaf (some [zCl, zCd, zBe, zBd, zGu, zCk,
 zCj, zCi, zCh, zCg, zCf, zCe, zGr, zGq, zGp, zGo, zGw, zGv, zGz, zBa, zAZ, zAY, zAX, zAs, zCp, zAs, zBc, zBb])) (.fork zG3 zIf (.fork zG2 zIf (.fork zG1 zSP (.leaf (some [zGn, zCd, zBe, zBd, zGu, zCk, zCj, zCi, zCh, zCg, zCf, zCe, zGr, zGq, zGp, zGo, zGw, zGv, zGz,
 zBa, zAZ, zAY, zAX, zAs, zCp, zAs, zBc, zBb]))))))) (.fork zG5 (.leaf (some [zCl, zGx, zBe, zBd, zGm, zCk, zCj, zCi, zCh, zCg, zCf, zCe, zGr, zGq, zGp, zGo, zGw, zGv, zGz, zBa, zAZ, zAY, zAX, zAs, zCp, zAs, zBc, zBb])) (.fork zG4 (.leaf (some [zCl, zCd, zBe, zBd, zGm, zCk,
 zCj, zCi, zCh, zCg, zCf, zCe, zGr, zGq, zGp, zGo, zGw, zGv, zGz, zBa, zAZ, zAY, zAX, zAs, zCp, zAs, zBc, zBb])) (.fork zG3 zIf (.fork zG2 zIf (.fork zG1 zSP (.leaf (some [zGn, zCd, zBe, zBd, zGm, zCk, zCj, zCi, zCh, zCg, zCf, zCe, zGr, zGq, zGp, zGo, zGw, zGv, zGz,
 zBa, zAZ, zAY, zAX, zAs, zCp, zAs, zBc, zBb]))))))))) (.fork zVK (.fork zG5 (.leaf (some [zCl, zGx, zBe, zBd, zGs, zGl, zGk, zGj, zGi, zGt, zFz, zGy, zCc, zCb, zCa, zBZ, zBY, zBX, zBS, zBa, zAZ, zAY, zAX, zAs, zCp, zAs, zBc, zBb])) (.fork zG4 (.leaf (some [zCl, zCd, zBe, zBd,
 zGs, zGl, zGk, zGj, zGi, zGt, zFz, zGy, zCc, zCb, zCa, zBZ, zBY, zBX, zBS, zBa, zAZ, zAY, zAX, zAs, zCp, zAs, zBc, zBb])) (.fork zG3 zSQ (.fork zG2 zSQ (.fork zG1 xCM (.leaf (some [zGn, zCd, zBe, zBd, zGs, zGl, zGk, zGj, zGi, zGt, zFz, zGy, zCc, zCb, zCa, zBZ, zBY,
 zBX, zBS, zBa, zAZ, zAY, zAX, zAs, zCp, zAs, zBc, zBb]))))))) (.fork zVL (.fork zG5 (.leaf (some [zCl, zGx, zBe, zBd, zGu, zGl, zGk, zGj, zGi, zGt, zFz, zGy, zCc, zCb, zCa, zBZ, zBY, zBX, zBS, zBa, zAZ, zAY, zAX, zAs, zCp, zAs, zBc, zBb])) (.fork zG4 (.leaf (some [zCl, zCd,
 zBe, zBd, zGu, zGl, zGk, zGj, zGi, zGt, zFz, zGy, zCc, zCb, zCa, zBZ, zBY, zBX, zBS, zBa, zAZ, zAY, zAX, zAs, zCp, zAs, zBc, zBb])) (.fork zG3 zSQ (.fork zG2 zSQ (.fork zG1 xCM (.leaf (some [zGn, zCd, zBe, zBd, zGu, zGl, zGk, zGj, zGi, zGt, zFz, zGy, zCc, zCb, zCa,
 zBZ, zBY, zBX, zBS, zBa, zAZ, zAY, zAX, zAs, zCp, zAs, zBc, zBb]))))))) (.fork zG5 (.leaf (some [zCl, zGx, zBe, zBd, zGm, zGl, zGk, zGj, zGi, zGt, zFz, zGy, zCc, zCb, zCa, zBZ, zBY, zBX, zBS, zBa, zAZ, zAY, zAX, zAs, zCp, zAs, zBc, zBb])) (.fork zG4 (.leaf (some [zCl, zCd,
 zBe, zBd, zGm, zGl, zGk, zGj, zGi, zGt, zFz, zGy, zCc, zCb, zCa, zBZ, zBY, zBX, zBS, zBa, zAZ, zAY, zAX, zAs, zCp, zAs, zBc, zBb])) (.fork zG3 zSQ (.fork zG2 zSQ (.fork zG1 xCM (.leaf (some [zGn, zCd, zBe, zBd, zGm, zGl, zGk, zGj, zGi, zGt, zFz, zGy, zCc, zCb, zCa,
 zBZ, zBY, zBX, zBS, zBa, zAZ, zAY, zAX, zAs, zCp, zAs, zBc, zBb])))))))))) (.fork zVK (.fork zG5 (.leaf (some [zCl, zGx, zBe, zBd, zGs, zCk, zCj, zCi, zCh, zCg, zCf, zCe, zCc, zCb, zCa, zBZ, zBY, zBX, zBS, zBa, zAZ, zAY, zAX, zAs, zCp, zAs, zBc, zBb])) (.fork zG4 (.leaf
 (some [zCl, zCd, zBe, zBd, zGs, zCk, zCj, zCi, zCh, zCg, zCf, zCe, zCc, zCb, zCa, zBZ, zBY, zBX, zBS, zBa, zAZ, zAY, zAX, zAs, zCp, zAs, zBc, zBb])) (.fork zG3 zIf (.fork zG2 zIf (.fork zG1 zSP (.leaf (some [zGn, zCd, zBe, zBd, zGs, zCk, zCj, zCi, zCh, zCg, zCf, zCe,
 zCc, zCb, zCa, zBZ, zBY, zBX, zBS, zBa, zAZ, zAY, zAX, zAs, zCp, zAs, zBc, zBb]))))))) (.fork zVL (.fork zG5 (.leaf (some [zCl, zGx, zBe, zBd, zGu, zCk, zCj, zCi, zCh, zCg, zCf, zCe, zCc, zCb, zCa, zBZ, zBY, zBX, zBS, zBa, zAZ, zAY, zAX, zAs, zCp, zAs, zBc, zBb]))
 (.fork zG4 (.leaf (some [zCl, zCd, zBe, zBd, zGu, zCk, zCj, zCi, zCh, zCg, zCf, zCe, zCc, zCb, zCa, zBZ, zBY, zBX, zBS, zBa, zAZ, zAY, zAX, zAs, zCp, zAs, zBc, zBb])) (.fork zG3 zIf (.fork zG2 zIf (.fork zG1 zSP (.leaf (some [zGn, zCd, zBe, zBd, zGu, zCk, zCj, zCi, zCh, zCg,
 zCf, zCe, zCc, zCb, zCa, zBZ, zBY, zBX, zBS, zBa, zAZ, zAY, zAX, zAs, zCp, zAs, zBc, zBb]))))))) (.fork zG5 (.leaf (some [zCl, zGx, zBe, zBd, zGm, zCk, zCj, zCi, zCh, zCg, zCf, zCe, zCc, zCb, zCa, zBZ, zBY, zBX, zBS, zBa, zAZ, zAY, zAX, zAs, zCp, zAs, zBc, zBb]))
 (.fork zG4 (.leaf (some [zCl, zCd, zBe, zBd, zGm, zCk, zCj, zCi, zCh, zCg, zCf, zCe, zCc, zCb, zCa, zBZ, zBY, zBX, zBS, zBa, zAZ, zAY, zAX, zAs, zCp, zAs, zBc, zBb])) (.fork zG3 zIf (.fork zG2 zIf (.fork zG1 zSP (.leaf (some [zGn, zCd, zBe, zBd, zGm, zCk, zCj, zCi, zCh, zCg,
 zCf, zCe, zCc, zCb, zCa, zBZ, zBY, zBX, zBS, zBa, zAZ, zAY, zAX, zAs, zCp, zAs, zBc, zBb]))))))))))
set_option maxRecDepth 100000 in
theorem xAf : SCDoes.tree Tryz.prog zPO 26 = xGO := by kernel_rfl
set_option maxHeartbeats 2000000 in
set_option maxRecDepth 100000 in
theorem xAe : SumOK Tryz.prog zPO 26 SCDoes 2560 26 fnC := by
 intro ρ hf hok;rw [xAf];obtain ⟨e0, e1, e2, e3, e4, e5, e6, e7, e8, e9, e10, e11, e12, e13, e14, e15, e16, e17, e18, e19, e20, e21, e22, e23, e24, e25, a0, a1, a2, a3, a4, a5⟩ : ((zAc SCDoes 2560 ρ).val 73).asI = ((zAd ρ).act (laR ρ 68)).l.st ∧ ((zAc SCDoes 2560 ρ).val 74).asB = ((zAd ρ).act (laR ρ 68)).l.listens ∧ ((zAc SCDoes 2560 ρ).val 75).asI = ((zAd ρ).act (laR ρ 68)).l.tries ∧ ((zAc SCDoes 2560 ρ).val 76).asI = ((zAd ρ).act (laR ρ 68)).l.most ∧ ((zAc SCDoes 2560 ρ).val 77).asI = ((zAd ρ).act (laR ρ 68)).qf ∧ ((zAc SCDoes 2560 ρ).val 78).asS = ((zAd ρ).act (laR ρ 68)).qt ∧ ((zAc SCDoes 2560 ρ).val 79).asI = ((zAd ρ).act (laR ρ 68)).st ∧ ((zAc SCDoes 2560 ρ).val 80).asB = ((zAd ρ).act (laR ρ 68)).asked ∧ ((zAc SCDoes 2560 ρ).val 81).asI = ((zAd ρ).act (laR ρ 68)).po ∧ ((zAc SCDoes 2560 ρ).val 82).asI = ((zAd ρ).act (laR ρ 68)).pl ∧ ((zAc SCDoes 2560 ρ).val 83).asL = ((zAd ρ).act (laR ρ 68)).pL ∧ ((zAc SCDoes 2560 ρ).val 84).asI = ((zAd ρ).act (laR ρ 68)).left ∧ ((zAc SCDoes 2560 ρ).val 85).asI = ((zAd ρ).act (laR ρ 68)).says.d ∧ ((zAc SCDoes 2560 ρ).val 86).asB = ((zAd ρ).act (laR ρ 68)).says.c ∧ ((zAc SCDoes 2560 ρ).val 87).asI = ((zAd ρ).act (laR ρ 68)).says.k ∧ ((zAc SCDoes 2560 ρ).val 88).asB = ((zAd ρ).act (laR ρ 68)).says.pf ∧ ((zAc SCDoes 2560 ρ).val 89).asI = ((zAd ρ).act (laR ρ 68)).says.ns ∧ ((zAc SCDoes 2560 ρ).val 90).asI = ((zAd ρ).act (laR ρ 68)).says.nr ∧ ((zAc SCDoes 2560 ρ).val 91).asS = ((zAd ρ).act (laR ρ 68)).says.info ∧ ((zAc SCDoes 2560 ρ).val 92).asI = ((zAd ρ).act (laR ρ 68)).asks.d ∧ ((zAc SCDoes 2560 ρ).val 93).asB = ((zAd ρ).act (laR ρ 68)).asks.c ∧ ((zAc SCDoes 2560 ρ).val 94).asI = ((zAd ρ).act (laR ρ 68)).asks.k ∧ ((zAc SCDoes 2560 ρ).val 95).asB = ((zAd ρ).act (laR ρ 68)).asks.pf ∧ ((zAc SCDoes 2560 ρ).val 96).asI = ((zAd ρ).act (laR ρ 68)).asks.ns ∧ ((zAc SCDoes 2560 ρ).val 97).asI = ((zAd ρ).act (laR ρ 68)).asks.nr ∧ ((zAc SCDoes 2560 ρ).val 98).asS = ((zAd ρ).act (laR ρ 68)).asks.info ∧ (@Tm.den ρ (.app 2496 zA0)).asI = ((lR ρ).fin (ρ.val 44).asI).st ∧ (@Tm.den ρ (.app 2497 zA0)).asB = ((lR ρ).fin (ρ.val 44).asI).listens ∧ (@Tm.den ρ (.app 2498 zA0)).asI = ((lR ρ).fin (ρ.val 44).asI).tries ∧ (@Tm.den ρ (.app 2499 zA0)).asI = ((lR ρ).fin (ρ.val 44).asI).most ∧ (@Tm.den ρ (.app 2500 zA0)).asI = (((ρ.val 34).asI + ((ρ.val 35).asS.length : Int)).tmod (ρ.val 36).asI) ∧ (@Tm.den ρ (.app 2501 zA0)).asB = true := by
  obtain ⟨val, fn⟩ := ρ; obtain rfl : fn = fnC := hf;exact ⟨rfl, rfl, rfl, rfl, rfl, rfl, rfl, rfl, rfl, rfl, rfl, rfl, rfl, rfl, rfl, rfl, rfl, rfl, rfl, rfl, rfl, rfl, rfl, rfl, rfl, rfl, rfl, rfl, rfl, rfl, rfl, rfl⟩
 unfold xGO
 repeat' (first | (refine zAb (fun h => ?_) (fun h => ?_) <;> (try simp only [zAT, zAO, zAU, zAQ, zEk, zEl, zBw, zBV, zAS, zEo, zDF, zDG, zDo, zDp, zCL, zHa, zHC, zHD, zDI, zDJ, zAv, zBs, zEc, zFy, zB9, zBj, zBI, a0, a1, a2, a3, a4, a5, reduceCtorEq] at h)) | refine zAk ?_)
 all_goals first | (exfalso; omega) | ((simp only [eI, eB, eS, eL, eN, zAv, zBs, zEc, zFy, zB9, zBj, zGS, zCX, zDw, e0, e1, e2, e3, e4, e5, e6, e7, e8, e9, e10, e11, e12, e13, e14, e15, e16, e17, e18, e19, e20, e21, e22, e23, e24, e25, a0, a1, a2, a3, a4, a5, and_true, true_and]) <;> ((try simp [Core.act, Core.act1, Core.act2, Core.act3, Core.fin, Core.forget, Core.open_, Core.close, LSt.fin, zFG, Frm.none, *]) <;> (try rfl)))
abbrev zDi : Tm := (tp [y0, y1, y2, y3])
abbrev zAo : Tm :=
 (tp [(.app 2181 zDi), y1, (.app 2182 zDi), y3, y34, y35, y36, y42, y44, y47, (.ci 2), y49, y50, y51, y52, y53, y54, y55, y56, y57, y58, y59, y60, y61, y62, y63, y64, y65, y66, y67, (.app 2176 zDi), (.app 2177 zDi), (.app 2178 zDi), (.app 2179 zDi), (.app 2180 zDi)])
abbrev xAT : Tree (Option Eqs) := (.leaf (some [(.sI, y68, (.ci 4)), (.sI, y75, y48), (.sB, y76, y49), (.sI, y77, y50), (.sI, y78, y51), (.sI, y80, y53), (.sI, y81, y54), (.sB, y82, y55), (.sI, y83, y56), (.sB, y84, y57), (.sI, y85, y58), (.sI, y86, y59), (.sS, y87, y60), (.sI, y88, y61), (.sB, y89, y62), (.sI, y90, y63), (.sB, y91, y64), (.sI, y92, y65), (.sI, y93, y66), (.sS, y94, y67), (.sI, y69, y0), (.sB, y70, y1), (.sI, y71, y2), (.sI, y72, y3), (.sI, y73, y34), (.sI, (.len y74), (.len y35)), (.sI, y73, y34), (.sS, y74, y35), (.sL, y79, y52)]))
def xGD : (Tree (Option Eqs)) :=
 (.fork (.ib .neq .u8 y48 zDz) xAT (.fork (.app 2183 zDi) (.fork (.app 2586 zAo) (.leaf (some [(.sI, y68, zAK), (.sI, y75, (.app 2566 zAo)), (.sB, y76, (.app 2567 zAo)), (.sI, y77, (.app 2568 zAo)), (.sI, y78, (.app 2569 zAo)), (.sI, y80, (.app 2571 zAo)), (.sI, y81, (.app 2572 zAo)), (.sB, y82, (.app 2573 zAo)), (.sI, y83, (.app 2574 zAo)), (.sB, y84,
 (.app 2575 zAo)), (.sI, y85, (.app 2576 zAo)), (.sI, y86, (.app 2577 zAo)), (.sS, y87, (.app 2578 zAo)), (.sI, y88, (.app 2579 zAo)), (.sB, y89, (.app 2580 zAo)), (.sI, y90, (.app 2581 zAo)), (.sB, y91, (.app 2582 zAo)), (.sI, y92, (.app 2583 zAo)), (.sI, y93, (.app 2584 zAo)), (.sS, y94, (.app 2585 zAo)), (.sI, y69, (.app 2560 zAo)), (.sB, y70, (.app
 2561 zAo)), (.sI, y71, (.app 2562 zAo)), (.sI, y72, (.app 2563 zAo)), (.sI, y73, (.app 2564 zAo)), (.sI, (.len y74), (.len (.app 2565 zAo))), (.sI, y73, (.app 2564 zAo)), (.sS, y74, (.app 2565 zAo)), (.sL, y79, (.app 2570 zAo))])) .fail) .fail))
set_option maxRecDepth 100000 in
theorem zZZ : SCOpen.tree Tryz.prog zPG 10 = xGD := by kernel_rfl
set_option maxHeartbeats 2000000 in
set_option maxRecDepth 100000 in
theorem zZY : SumOK Tryz.prog zPG 10 SCOpen 2624 27 fnC := by
 intro ρ hf hok;rw [zZZ];obtain ⟨e0, e1, e2, e3, e4, e5, e6, e7, e8, e9, e10, e11, e12, e13, e14, e15, e16, e17, e18, e19, e20, e21, e22, e23, e24, e25, e26, a0, a1, a2, a3, a4, a5, a6, a7, a8, a9, a10, a11, a12, a13, a14, a15, a16, a17, a18, a19, a20, a21, a22, a23, a24, a25, a26, a27, a28, a29, a30, a31, a32, a33, a34⟩ : ((zAc SCOpen 2624 ρ).val 68).asI = (zAd ρ).open_.1 ∧ ((zAc SCOpen 2624 ρ).val 69).asI = (zAd ρ).open_.2.l.st ∧ ((zAc SCOpen 2624 ρ).val 70).asB = (zAd ρ).open_.2.l.listens ∧ ((zAc SCOpen 2624 ρ).val 71).asI = (zAd ρ).open_.2.l.tries ∧ ((zAc SCOpen 2624 ρ).val 72).asI = (zAd ρ).open_.2.l.most ∧ ((zAc SCOpen 2624 ρ).val 73).asI = (zAd ρ).open_.2.qf ∧ ((zAc SCOpen 2624 ρ).val 74).asS = (zAd ρ).open_.2.qt ∧ ((zAc SCOpen 2624 ρ).val 75).asI = (zAd ρ).open_.2.st ∧ ((zAc SCOpen 2624 ρ).val 76).asB = (zAd ρ).open_.2.asked ∧ ((zAc SCOpen 2624 ρ).val 77).asI = (zAd ρ).open_.2.po ∧ ((zAc SCOpen 2624 ρ).val 78).asI = (zAd ρ).open_.2.pl ∧ ((zAc SCOpen 2624 ρ).val 79).asL = (zAd ρ).open_.2.pL ∧ ((zAc SCOpen 2624 ρ).val 80).asI = (zAd ρ).open_.2.left ∧ ((zAc SCOpen 2624 ρ).val 81).asI = (zAd ρ).open_.2.says.d ∧ ((zAc SCOpen 2624 ρ).val 82).asB = (zAd ρ).open_.2.says.c ∧ ((zAc SCOpen 2624 ρ).val 83).asI = (zAd ρ).open_.2.says.k ∧ ((zAc SCOpen 2624 ρ).val 84).asB = (zAd ρ).open_.2.says.pf ∧ ((zAc SCOpen 2624 ρ).val 85).asI = (zAd ρ).open_.2.says.ns ∧ ((zAc SCOpen 2624 ρ).val 86).asI = (zAd ρ).open_.2.says.nr ∧ ((zAc SCOpen 2624 ρ).val 87).asS = (zAd ρ).open_.2.says.info ∧ ((zAc SCOpen 2624 ρ).val 88).asI = (zAd ρ).open_.2.asks.d ∧ ((zAc SCOpen 2624 ρ).val 89).asB = (zAd ρ).open_.2.asks.c ∧ ((zAc SCOpen 2624 ρ).val 90).asI = (zAd ρ).open_.2.asks.k ∧ ((zAc SCOpen 2624 ρ).val 91).asB = (zAd ρ).open_.2.asks.pf ∧ ((zAc SCOpen 2624 ρ).val 92).asI = (zAd ρ).open_.2.asks.ns ∧ ((zAc SCOpen 2624 ρ).val 93).asI = (zAd ρ).open_.2.asks.nr ∧ ((zAc SCOpen 2624 ρ).val 94).asS = (zAd ρ).open_.2.asks.info ∧ (@Tm.den ρ (.app 2176 (tp [(vt 0), (vt 1), (vt 2), (vt 3)]))).asI = (lR ρ).open_.1.kind ∧ (@Tm.den ρ (.app 2177 (tp [(vt 0), (vt 1), (vt 2), (vt 3)]))).asB = (lR ρ).open_.1.cmd ∧ (@Tm.den ρ (.app 2178 (tp [(vt 0), (vt 1), (vt 2), (vt 3)]))).asB = (lR ρ).open_.1.pf ∧ (@Tm.den ρ (.app 2179 (tp [(vt 0), (vt 1), (vt 2), (vt 3)]))).asI = (lR ρ).open_.1.timer ∧ (@Tm.den ρ (.app 2180 (tp [(vt 0), (vt 1), (vt 2), (vt 3)]))).asI = (lR ρ).open_.1.fact ∧ (@Tm.den ρ (.app 2181 (tp [(vt 0), (vt 1), (vt 2), (vt 3)]))).asI = (lR ρ).open_.2.st ∧ (@Tm.den ρ (.app 2182 (tp [(vt 0), (vt 1), (vt 2), (vt 3)]))).asI = (lR ρ).open_.2.tries ∧ (@Tm.den ρ (.app 2183 (tp [(vt 0), (vt 1), (vt 2), (vt 3)]))).asB = true ∧ (@Tm.den ρ (.app 2560 zAo)).asI = (({ zAd ρ with st := 2, l := (lR ρ).mv (lR ρ).open_.2 } : Core).act (lR ρ).open_.1).l.st ∧ (@Tm.den ρ (.app 2561 zAo)).asB = (({ zAd ρ with st := 2, l := (lR ρ).mv (lR ρ).open_.2 } : Core).act (lR ρ).open_.1).l.listens ∧ (@Tm.den ρ (.app 2562 zAo)).asI = (({ zAd ρ with st := 2, l := (lR ρ).mv (lR ρ).open_.2 } : Core).act (lR ρ).open_.1).l.tries ∧ (@Tm.den ρ (.app 2563 zAo)).asI = (({ zAd ρ with st := 2, l := (lR ρ).mv (lR ρ).open_.2 } : Core).act (lR ρ).open_.1).l.most ∧ (@Tm.den ρ (.app 2564 zAo)).asI = (({ zAd ρ with st := 2, l := (lR ρ).mv (lR ρ).open_.2 } : Core).act (lR ρ).open_.1).qf ∧ (@Tm.den ρ (.app 2565 zAo)).asS = (({ zAd ρ with st := 2, l := (lR ρ).mv (lR ρ).open_.2 } : Core).act (lR ρ).open_.1).qt ∧ (@Tm.den ρ (.app 2566 zAo)).asI = (({ zAd ρ with st := 2, l := (lR ρ).mv (lR ρ).open_.2 } : Core).act (lR ρ).open_.1).st ∧ (@Tm.den ρ (.app 2567 zAo)).asB = (({ zAd ρ with st := 2, l := (lR ρ).mv (lR ρ).open_.2 } : Core).act (lR ρ).open_.1).asked ∧ (@Tm.den ρ (.app 2568 zAo)).asI = (({ zAd ρ with st := 2, l := (lR ρ).mv (lR ρ).open_.2 } : Core).act (lR ρ).open_.1).po ∧ (@Tm.den ρ (.app 2569 zAo)).asI = (({ zAd ρ with st := 2, l := (lR ρ).mv (lR ρ).open_.2 } : Core).act (lR ρ).open_.1).pl ∧ (@Tm.den ρ (.app 2570 zAo)).asL = (({ zAd ρ with st := 2, l := (lR ρ).mv (lR ρ).open_.2 } : Core).act (lR ρ).open_.1).pL ∧ (@Tm.den ρ (.app 2571 zAo)).asI = (({ zAd ρ with st := 2, l := (lR ρ).mv (lR ρ).open_.2 } : Core).act (lR ρ).open_.1).left ∧ (@Tm.den ρ (.app 2572 zAo)).asI = (({ zAd ρ with st := 2, l := (lR ρ).mv (lR ρ).open_.2 } : Core).act (lR ρ).open_.1).says.d ∧ (@Tm.den ρ (.app 2573 zAo)).asB = (({ zAd ρ with st := 2, l := (lR ρ).mv (lR ρ).open_.2 } : Core).act (lR ρ).open_.1).says.c ∧ (@Tm.den ρ (.app 2574 zAo)).asI = (({ zAd ρ with st := 2, l := (lR ρ).mv (lR ρ).open_.2 } : Core).act (lR ρ).open_.1).says.k ∧ (@Tm.den ρ (.app 2575 zAo)).asB = (({ zAd ρ with st := 2, l := (lR ρ).mv (lR ρ).open_.2 } : Core).act (lR ρ).open_.1).says.pf ∧ (@Tm.den ρ (.app 2576 zAo)).asI = (({ zAd ρ with st := 2, l := (lR ρ).mv (lR ρ).open_.2 } : Core).act (lR ρ).open_.1).says.ns ∧ (@Tm.den ρ (.app 2577 zAo)).asI = (({ zAd ρ with st := 2, l := (lR ρ).mv (lR ρ).open_.2 } : Core).act (lR ρ).open_.1).says.nr ∧ (@Tm.den ρ (.app 2578 zAo)).asS = (({ zAd ρ with st := 2, l := (lR ρ).mv (lR ρ).open_.2 } : Core).act (lR ρ).open_.1).says.info ∧ (@Tm.den ρ (.app 2579 zAo)).asI = (({ zAd ρ with st := 2, l := (lR ρ).mv (lR ρ).open_.2 } : Core).act (lR ρ).open_.1).asks.d ∧ (@Tm.den ρ (.app 2580 zAo)).asB = (({ zAd ρ with st := 2, l := (lR ρ).mv (lR ρ).open_.2 } : Core).act (lR ρ).open_.1).asks.c ∧ (@Tm.den ρ (.app 2581 zAo)).asI = (({ zAd ρ with st := 2, l := (lR ρ).mv (lR ρ).open_.2 } : Core).act (lR ρ).open_.1).asks.k ∧ (@Tm.den ρ (.app 2582 zAo)).asB = (({ zAd ρ with st := 2, l := (lR ρ).mv (lR ρ).open_.2 } : Core).act (lR ρ).open_.1).asks.pf ∧ (@Tm.den ρ (.app 2583 zAo)).asI = (({ zAd ρ with st := 2, l := (lR ρ).mv (lR ρ).open_.2 } : Core).act (lR ρ).open_.1).asks.ns ∧ (@Tm.den ρ (.app 2584 zAo)).asI = (({ zAd ρ with st := 2, l := (lR ρ).mv (lR ρ).open_.2 } : Core).act (lR ρ).open_.1).asks.nr ∧ (@Tm.den ρ (.app 2585 zAo)).asS = (({ zAd ρ with st := 2, l := (lR ρ).mv (lR ρ).open_.2 } : Core).act (lR ρ).open_.1).asks.info ∧ (@Tm.den ρ (.app 2586 zAo)).asB = true := by
  obtain ⟨val, fn⟩ := ρ; obtain rfl : fn = fnC := hf;exact ⟨rfl, rfl, rfl, rfl, rfl, rfl, rfl, rfl, rfl, rfl, rfl, rfl, rfl, rfl, rfl, rfl, rfl, rfl, rfl, rfl, rfl, rfl, rfl, rfl, rfl, rfl, rfl, rfl, rfl, rfl, rfl, rfl, rfl, rfl, rfl, rfl, rfl, rfl, rfl, rfl, rfl, rfl, rfl, rfl, rfl, rfl, rfl, rfl, rfl, rfl, rfl, rfl, rfl, rfl, rfl, rfl, rfl, rfl, rfl, rfl, rfl, rfl⟩
 unfold xGD
 repeat' (first | (refine zAb (fun h => ?_) (fun h => ?_) <;> (try simp only [zAT, zAO, zAU, zAQ, zEk, zEl, zBw, zBV, zAS, zEo, zDF, zDG, zDo, zDp, zCL, zHa, zHC, zHD, zDI, zDJ, zAv, zBs, zEc, zFy, zB9, zBj, zBI, a0, a1, a2, a3, a4, a5, a6, a7, a8, a9, a10, a11, a12, a13, a14, a15, a16, a17, a18, a19, a20, a21, a22, a23, a24, a25, a26, a27, a28, a29, a30, a31, a32, a33, a34, reduceCtorEq] at h)) | refine zAk ?_)
 all_goals first | (exfalso; omega) | ((simp only [eI, eB, eS, eL, eN, zAv, zBs, zEc, zFy, zB9, zBj, zGS, zCX, zDw, e0, e1, e2, e3, e4, e5, e6, e7, e8, e9, e10, e11, e12, e13, e14, e15, e16, e17, e18, e19, e20, e21, e22, e23, e24, e25, e26, a0, a1, a2, a3, a4, a5, a6, a7, a8, a9, a10, a11, a12, a13, a14, a15, a16, a17, a18, a19, a20, a21, a22, a23, a24, a25, a26, a27, a28, a29, a30, a31, a32, a33, a34, and_true, true_and]) <;> ((try simp [Core.open_, *]) <;> (try rfl)))
abbrev zB4 : Tm :=
 xAG
abbrev zAn : Tm :=
 (tp [(.app 2245 zDi), y1, (.app 2246 zDi), y3, y34, y35, y36, y42, y44, y47, (.ci 4), y49, y50, y51, y52, y53, y54, y55, y56, y57, y58, y59, y60, y61, y62, y63, y64, y65, y66, y67, (.app 2240 zDi), (.app 2241 zDi), (.app 2242 zDi), (.app 2243 zDi), (.app 2244 zDi)])
abbrev zSk : Tm :=
 (.ib .rem .i64 (.plus (.app 2564 zAn) (.len (.app 2565 zAn))) y36)
abbrev xF8 : Tree (Option Eqs) := (.fork (.app 2247 (tp [y0, y1, y2, y3])) (.fork (.app 2586 zAn) (.leaf (some [(.sI, y68, (.ci 0)), (.sI, y75, (.app 2566 zAn)), (.sB, y76, (.app 2567 zAn)), (.sI, y77, (.ci 0)), (.sI, y78, (.ci 0)), (.sI, y80, (.app 2571 zAn)), (.sI, y81, (.app 2572 zAn)), (.sB, y82, (.app 2573 zAn)), (.sI, y83, (.app 2574 zAn)), (.sB, y84, (.app 2575 zAn)), (.sI, y85, (.app 2576 zAn)), (.sI, y86, (.app 2577 zAn)), (.sS, y87, (.app 2578 zAn)), (.sI, y88, (.app 2579 zAn)), (.sB, y89, (.app 2580 zAn)), (.sI, y90, (.app 2581 zAn)), (.sB, y91, (.app 2582 zAn)), (.sI, y92, (.app 2583 zAn)), (.sI, y93, (.app 2584 zAn)), (.sS, y94, (.app 2585 zAn)), (.sI, y69, (.app 2560 zAn)), (.sB, y70, (.app 2561 zAn)), (.sI, y71, (.app 2562 zAn)), (.sI, y72, (.app 2563 zAn)), (.sI, y73, zSk), (.sI, (.len y74), (.ci 0)), (.sI, y73, zSk), (.sS, y74, (.cs [])), (.sL, y79, (.cb false))])) .fail) .fail)
def xB3 : (Tree (Option Eqs)) :=
 (.fork (.ib .eql .u8 y48 zDz) (.fork (.app 2501 zB4) (.leaf (some [(.sI, y68, zAK), (.sI, y75, (.ci 5)), (.sB, y76, y49), (.sI, y77, zAK), (.sI, y78, zAK), (.sI, y80, zAK), (.sI, y81, y54), (.sB, y82, y55), (.sI, y83, y56), (.sB, y84, y57), (.sI, y85, y58), (.sI, y86, y59), (.sS, y87, y60), (.sI, y88, zAK), (.sB, y89, (.cb false)), zFz, (.sB, y91, (.cb false)), (.sI, y92,
 zAK), (.sI, y93, zAK), (.sS, y94, (.cs [])), (.sI, y69, (.app 2496 zB4)), (.sB, y70, (.app 2497 zB4)), (.sI, y71, (.app 2498 zB4)), (.sI, y72, (.app 2499 zB4)), (.sI, y73, (.app 2500 zB4)), (.sI, (.len y74), zAK), (.sI, y73, (.app 2500 zB4)), (.sS, y74, (.cs [])), (.sL, y79, (.cb false))])) .fail) (.fork (.ib .eql .u8 y48 (.ci 2)) xF8 (.fork (.ib .eql .u8 y48
 (.ci 3)) xF8 xAT)))
set_option maxRecDepth 100000 in
theorem zXY : SCClose.tree Tryz.prog zPG 16 = xB3 := by kernel_rfl
set_option maxHeartbeats 2000000 in
set_option maxRecDepth 100000 in
theorem zXX : SumOK Tryz.prog zPG 16 SCClose 2688 27 fnC := by
 intro ρ hf hok;rw [zXY];obtain ⟨e0, e1, e2, e3, e4, e5, e6, e7, e8, e9, e10, e11, e12, e13, e14, e15, e16, e17, e18, e19, e20, e21, e22, e23, e24, e25, e26, a0, a1, a2, a3, a4, a5, a6, a7, a8, a9, a10, a11, a12, a13, a14, a15, a16, a17, a18, a19, a20, a21, a22, a23, a24, a25, a26, a27, a28, a29, a30, a31, a32, a33, a34, a35, a36, a37⟩ : ((zAc SCClose 2688 ρ).val 68).asI = (zAd ρ).close.1 ∧ ((zAc SCClose 2688 ρ).val 69).asI = (zAd ρ).close.2.l.st ∧ ((zAc SCClose 2688 ρ).val 70).asB = (zAd ρ).close.2.l.listens ∧ ((zAc SCClose 2688 ρ).val 71).asI = (zAd ρ).close.2.l.tries ∧ ((zAc SCClose 2688 ρ).val 72).asI = (zAd ρ).close.2.l.most ∧ ((zAc SCClose 2688 ρ).val 73).asI = (zAd ρ).close.2.qf ∧ ((zAc SCClose 2688 ρ).val 74).asS = (zAd ρ).close.2.qt ∧ ((zAc SCClose 2688 ρ).val 75).asI = (zAd ρ).close.2.st ∧ ((zAc SCClose 2688 ρ).val 76).asB = (zAd ρ).close.2.asked ∧ ((zAc SCClose 2688 ρ).val 77).asI = (zAd ρ).close.2.po ∧ ((zAc SCClose 2688 ρ).val 78).asI = (zAd ρ).close.2.pl ∧ ((zAc SCClose 2688 ρ).val 79).asL = (zAd ρ).close.2.pL ∧ ((zAc SCClose 2688 ρ).val 80).asI = (zAd ρ).close.2.left ∧ ((zAc SCClose 2688 ρ).val 81).asI = (zAd ρ).close.2.says.d ∧ ((zAc SCClose 2688 ρ).val 82).asB = (zAd ρ).close.2.says.c ∧ ((zAc SCClose 2688 ρ).val 83).asI = (zAd ρ).close.2.says.k ∧ ((zAc SCClose 2688 ρ).val 84).asB = (zAd ρ).close.2.says.pf ∧ ((zAc SCClose 2688 ρ).val 85).asI = (zAd ρ).close.2.says.ns ∧ ((zAc SCClose 2688 ρ).val 86).asI = (zAd ρ).close.2.says.nr ∧ ((zAc SCClose 2688 ρ).val 87).asS = (zAd ρ).close.2.says.info ∧ ((zAc SCClose 2688 ρ).val 88).asI = (zAd ρ).close.2.asks.d ∧ ((zAc SCClose 2688 ρ).val 89).asB = (zAd ρ).close.2.asks.c ∧ ((zAc SCClose 2688 ρ).val 90).asI = (zAd ρ).close.2.asks.k ∧ ((zAc SCClose 2688 ρ).val 91).asB = (zAd ρ).close.2.asks.pf ∧ ((zAc SCClose 2688 ρ).val 92).asI = (zAd ρ).close.2.asks.ns ∧ ((zAc SCClose 2688 ρ).val 93).asI = (zAd ρ).close.2.asks.nr ∧ ((zAc SCClose 2688 ρ).val 94).asS = (zAd ρ).close.2.asks.info ∧ (@Tm.den ρ (.app 2240 (tp [(vt 0), (vt 1), (vt 2), (vt 3)]))).asI = (lR ρ).close.1.kind ∧ (@Tm.den ρ (.app 2241 (tp [(vt 0), (vt 1), (vt 2), (vt 3)]))).asB = (lR ρ).close.1.cmd ∧ (@Tm.den ρ (.app 2242 (tp [(vt 0), (vt 1), (vt 2), (vt 3)]))).asB = (lR ρ).close.1.pf ∧ (@Tm.den ρ (.app 2243 (tp [(vt 0), (vt 1), (vt 2), (vt 3)]))).asI = (lR ρ).close.1.timer ∧ (@Tm.den ρ (.app 2244 (tp [(vt 0), (vt 1), (vt 2), (vt 3)]))).asI = (lR ρ).close.1.fact ∧ (@Tm.den ρ (.app 2245 (tp [(vt 0), (vt 1), (vt 2), (vt 3)]))).asI = (lR ρ).close.2.st ∧ (@Tm.den ρ (.app 2246 (tp [(vt 0), (vt 1), (vt 2), (vt 3)]))).asI = (lR ρ).close.2.tries ∧ (@Tm.den ρ (.app 2247 (tp [(vt 0), (vt 1), (vt 2), (vt 3)]))).asB = true ∧ (@Tm.den ρ (.app 2496 zB4)).asI = ((lR ρ).fin (ρ.val 44).asI).st ∧ (@Tm.den ρ (.app 2497 zB4)).asB = ((lR ρ).fin (ρ.val 44).asI).listens ∧ (@Tm.den ρ (.app 2498 zB4)).asI = ((lR ρ).fin (ρ.val 44).asI).tries ∧ (@Tm.den ρ (.app 2499 zB4)).asI = ((lR ρ).fin (ρ.val 44).asI).most ∧ (@Tm.den ρ (.app 2500 zB4)).asI = (((ρ.val 34).asI + ((ρ.val 35).asS.length : Int)).tmod (ρ.val 36).asI) ∧ (@Tm.den ρ (.app 2501 zB4)).asB = true ∧ (@Tm.den ρ (.app 2560 zAn)).asI = (({ zAd ρ with st := 4, l := (lR ρ).mv (lR ρ).close.2 } : Core).act (lR ρ).close.1).l.st ∧ (@Tm.den ρ (.app 2561 zAn)).asB = (({ zAd ρ with st := 4, l := (lR ρ).mv (lR ρ).close.2 } : Core).act (lR ρ).close.1).l.listens ∧ (@Tm.den ρ (.app 2562 zAn)).asI = (({ zAd ρ with st := 4, l := (lR ρ).mv (lR ρ).close.2 } : Core).act (lR ρ).close.1).l.tries ∧ (@Tm.den ρ (.app 2563 zAn)).asI = (({ zAd ρ with st := 4, l := (lR ρ).mv (lR ρ).close.2 } : Core).act (lR ρ).close.1).l.most ∧ (@Tm.den ρ (.app 2564 zAn)).asI = (({ zAd ρ with st := 4, l := (lR ρ).mv (lR ρ).close.2 } : Core).act (lR ρ).close.1).qf ∧ (@Tm.den ρ (.app 2565 zAn)).asS = (({ zAd ρ with st := 4, l := (lR ρ).mv (lR ρ).close.2 } : Core).act (lR ρ).close.1).qt ∧ (@Tm.den ρ (.app 2566 zAn)).asI = (({ zAd ρ with st := 4, l := (lR ρ).mv (lR ρ).close.2 } : Core).act (lR ρ).close.1).st ∧ (@Tm.den ρ (.app 2567 zAn)).asB = (({ zAd ρ with st := 4, l := (lR ρ).mv (lR ρ).close.2 } : Core).act (lR ρ).close.1).asked ∧ (@Tm.den ρ (.app 2571 zAn)).asI = (({ zAd ρ with st := 4, l := (lR ρ).mv (lR ρ).close.2 } : Core).act (lR ρ).close.1).left ∧ (@Tm.den ρ (.app 2572 zAn)).asI = (({ zAd ρ with st := 4, l := (lR ρ).mv (lR ρ).close.2 } : Core).act (lR ρ).close.1).says.d ∧ (@Tm.den ρ (.app 2573 zAn)).asB = (({ zAd ρ with st := 4, l := (lR ρ).mv (lR ρ).close.2 } : Core).act (lR ρ).close.1).says.c ∧ (@Tm.den ρ (.app 2574 zAn)).asI = (({ zAd ρ with st := 4, l := (lR ρ).mv (lR ρ).close.2 } : Core).act (lR ρ).close.1).says.k ∧ (@Tm.den ρ (.app 2575 zAn)).asB = (({ zAd ρ with st := 4, l := (lR ρ).mv (lR ρ).close.2 } : Core).act (lR ρ).close.1).says.pf ∧ (@Tm.den ρ (.app 2576 zAn)).asI = (({ zAd ρ with st := 4, l := (lR ρ).mv (lR ρ).close.2 } : Core).act (lR ρ).close.1).says.ns ∧ (@Tm.den ρ (.app 2577 zAn)).asI = (({ zAd ρ with st := 4, l := (lR ρ).mv (lR ρ).close.2 } : Core).act (lR ρ).close.1).says.nr ∧ (@Tm.den ρ (.app 2578 zAn)).asS = (({ zAd ρ with st := 4, l := (lR ρ).mv (lR ρ).close.2 } : Core).act (lR ρ).close.1).says.info ∧ (@Tm.den ρ (.app 2579 zAn)).asI = (({ zAd ρ with st := 4, l := (lR ρ).mv (lR ρ).close.2 } : Core).act (lR ρ).close.1).asks.d ∧ (@Tm.den ρ (.app 2580 zAn)).asB = (({ zAd ρ with st := 4, l := (lR ρ).mv (lR ρ).close.2 } : Core).act (lR ρ).close.1).asks.c ∧ (@Tm.den ρ (.app 2581 zAn)).asI = (({ zAd ρ with st := 4, l := (lR ρ).mv (lR ρ).close.2 } : Core).act (lR ρ).close.1).asks.k ∧ (@Tm.den ρ (.app 2582 zAn)).asB = (({ zAd ρ with st := 4, l := (lR ρ).mv (lR ρ).close.2 } : Core).act (lR ρ).close.1).asks.pf ∧ (@Tm.den ρ (.app 2583 zAn)).asI = (({ zAd ρ with st := 4, l := (lR ρ).mv (lR ρ).close.2 } : Core).act (lR ρ).close.1).asks.ns ∧ (@Tm.den ρ (.app 2584 zAn)).asI = (({ zAd ρ with st := 4, l := (lR ρ).mv (lR ρ).close.2 } : Core).act (lR ρ).close.1).asks.nr ∧ (@Tm.den ρ (.app 2585 zAn)).asS = (({ zAd ρ with st := 4, l := (lR ρ).mv (lR ρ).close.2 } : Core).act (lR ρ).close.1).asks.info ∧ (@Tm.den ρ (.app 2586 zAn)).asB = true := by
  obtain ⟨val, fn⟩ := ρ; obtain rfl : fn = fnC := hf;exact ⟨rfl, rfl, rfl, rfl, rfl, rfl, rfl, rfl, rfl, rfl, rfl, rfl, rfl, rfl, rfl, rfl, rfl, rfl, rfl, rfl, rfl, rfl, rfl, rfl, rfl, rfl, rfl, rfl, rfl, rfl, rfl, rfl, rfl, rfl, rfl, rfl, rfl, rfl, rfl, rfl, rfl, rfl, rfl, rfl, rfl, rfl, rfl, rfl, rfl, rfl, rfl, rfl, rfl, rfl, rfl, rfl, rfl, rfl, rfl, rfl, rfl, rfl, rfl, rfl, rfl⟩
 unfold xB3
 repeat' (first | (refine zAb (fun h => ?_) (fun h => ?_) <;> (try simp only [zAT, zAO, zAU, zAQ, zEk, zEl, zBw, zBV, zAS, zEo, zDF, zDG, zDo, zDp, zCL, zHa, zHC, zHD, zDI, zDJ, zAv, zBs, zEc, zFy, zB9, zBj, zBI, a0, a1, a2, a3, a4, a5, a6, a7, a8, a9, a10, a11, a12, a13, a14, a15, a16, a17, a18, a19, a20, a21, a22, a23, a24, a25, a26, a27, a28, a29, a30, a31, a32, a33, a34, a35, a36, a37, reduceCtorEq] at h)) | refine zAk ?_)
 all_goals first | (exfalso; omega) | ((simp only [eI, eB, eS, eL, eN, zAv, zBs, zEc, zFy, zB9, zBj, zGS, zCX, zDw, e0, e1, e2, e3, e4, e5, e6, e7, e8, e9, e10, e11, e12, e13, e14, e15, e16, e17, e18, e19, e20, e21, e22, e23, e24, e25, e26, a0, a1, a2, a3, a4, a5, a6, a7, a8, a9, a10, a11, a12, a13, a14, a15, a16, a17, a18, a19, a20, a21, a22, a23, a24, a25, a26, a27, a28, a29, a30, a31, a32, a33, a34, a35, a36, a37, and_true, true_and]) <;> ((try simp [Core.close, Core.forget, Core.fin, Frm.none, Core.act_qr, *]) <;> (try rfl)))
end
end Go.Proofs.YtenkabjkgngcdaaGreat.Ab
