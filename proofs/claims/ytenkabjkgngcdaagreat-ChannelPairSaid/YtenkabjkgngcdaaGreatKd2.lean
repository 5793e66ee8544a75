import Derived.Test.YtenkabjkgngcdaaGreatKc5
import Derived.Test.YtenkabjkgngcdaaGreatKd1
import Derived.Test.YtenkabjkgngcdaaGreatKb6
set_option linter.unusedVariables false
set_option linter.unusedSimpArgs false
set_option linter.unusedSectionVars false
namespace Go.Proofs.YtenkabjkgngcdaaGreat.Ab
open Go
noncomputable section
abbrev NxX (ρ' ρ : Rho) (x : AX) (t : Tree (AX × Option Eqs)) : Prop :=
 ∃ es, @Tree.sel _ ρ t = some (x, some es) ∧ EqsOk ρ' ρ es section variable {ρ' ρ : Rho} {X : AX}
theorem nxT {c : Tm} {x y : Tree (AX × Option Eqs)} (h : (@Tm.den ρ c).asB = true) (n : NxX ρ' ρ X x) : NxX ρ' ρ X (.fork c x y) := by
 obtain ⟨es, h1, h2⟩ := n;exact ⟨es, by rw [zMN h]; exact h1, h2⟩
theorem nxF {c : Tm} {x y : Tree (AX × Option Eqs)} (h : (@Tm.den ρ c).asB = false) (n : NxX ρ' ρ X y) : NxX ρ' ρ X (.fork c x y) := by
 obtain ⟨es, h1, h2⟩ := n;exact ⟨es, by rw [zCN h]; exact h1, h2⟩
theorem nxL {es : Eqs} (h : EqsOk ρ' ρ es) : NxX ρ' ρ X (.leaf (X, some es)) := ⟨es, rfl, h⟩
end
abbrev xFz : Tm := (.ib .mul .i64 (.ci 8) (.ib .sub .i64 y41 (.ci 1)))
abbrev xF2 : Tm := (.ite (.ib .lss .i64 y29 (.len y35)) y29 (.len y35))
abbrev zOA : Tm :=
 (.ib .lss .i64 xFz xF2)
abbrev zBF : Tm :=
 (.ite zOA xFz xF2)
abbrev zXW : Tm :=
 (.and (.ib .leq .i64 (.ci 2) y41) (.ib .leq .i64 y41 (.ci 128)))
abbrev zSJ : Tm := (.cut y35 (.ci 0) zBF)
abbrev zXV : Tm :=
 (.and zXW (.ib .leq .i64 (.len zSJ) (.ci 99999)))
abbrev zXU : Tm :=
 (.ib .rem .i64 (.plus y34 (.len zSJ)) y36)
abbrev xGP : Tm :=
 (.len (.cut y35 (.len zSJ) (.len y35)))
abbrev xCJ : Tree (Option Eqs) := (.leaf (some [(.sB, y68, (.cb false)), (.sI, y72, y50), (.sI, y73, y51), (.sI, y69, y29), (.sI, y70, y34), (.sI, (.len y71), (.len y35)), (.sI, y70, y34), (.sS, y71, y35), (.sL, y74, y52)]))
def xJ4 : (Tree (Option Eqs)) :=
 (.fork (.ib .eql .i64 zBF (.ci 0)) xCJ (.fork (.ib .lss .i64 zBF (.ci 0)) xCJ (.fork (.ib .gtr .i64 zBF y29) xCJ (.fork zXV (.leaf (some [(.sB, y68, (.cb true)), (.sI, y72, (.ci 0)), (.sI, y73, (.llen (.app 3520 (tp [zSJ, y41])))), (.sI, y69, (.ib .sub .i64 y29 zBF)), (.sI, y70, zXU), (.sI, (.len y71), xGP), (.sI, y70, zXU), (.sS, y71, (.cut y35 (.len zSJ) (.len y35))), (.sL, y74, (.app 3520 (tp [zSJ, y41])))])) .fail))))
set_option maxRecDepth 100000 in
theorem xEg : SCCut.tree Tryz.prog xGn 75 = xJ4 := by kernel_rfl
set_option maxRecDepth 100000 in
theorem xEf : SumOK Tryz.prog xGn 75 SCCut 3456 7 fnC := by
 intro ρ hf hok;rw [xEg];rw [show fnC (3456 + 7) (zFf ρ.val SCCut.us) = .dB (decide (zJ6 (ρ.val 35).asS (ρ.val 29).asI (ρ.val 41).asI)) from by kernel_rfl, zEa, decide_eq_true_eq] at hok
 obtain ⟨o1, o2, o3⟩ := hok;obtain ⟨e0, e1, e2, e3, e4, e5, e6⟩ : ((zAc SCCut 3456 ρ).val 68).asB = (zAL (ρ.val 29).asI (ρ.val 34).asI (ρ.val 35).asS (ρ.val 36).asI (ρ.val 41).asI (ρ.val 50).asI (ρ.val 51).asI (ρ.val 52).asL).ok ∧ ((zAc SCCut 3456 ρ).val 69).asI = (zAL (ρ.val 29).asI (ρ.val 34).asI (ρ.val 35).asS (ρ.val 36).asI (ρ.val 41).asI (ρ.val 50).asI (ρ.val 51).asI (ρ.val 52).asL).pn ∧ ((zAc SCCut 3456 ρ).val 70).asI = (zAL (ρ.val 29).asI (ρ.val 34).asI (ρ.val 35).asS (ρ.val 36).asI (ρ.val 41).asI (ρ.val 50).asI (ρ.val 51).asI (ρ.val 52).asL).qf ∧ ((zAc SCCut 3456 ρ).val 71).asS = (zAL (ρ.val 29).asI (ρ.val 34).asI (ρ.val 35).asS (ρ.val 36).asI (ρ.val 41).asI (ρ.val 50).asI (ρ.val 51).asI (ρ.val 52).asL).qt ∧ ((zAc SCCut 3456 ρ).val 72).asI = (zAL (ρ.val 29).asI (ρ.val 34).asI (ρ.val 35).asS (ρ.val 36).asI (ρ.val 41).asI (ρ.val 50).asI (ρ.val 51).asI (ρ.val 52).asL).po ∧ ((zAc SCCut 3456 ρ).val 73).asI = (zAL (ρ.val 29).asI (ρ.val 34).asI (ρ.val 35).asS (ρ.val 36).asI (ρ.val 41).asI (ρ.val 50).asI (ρ.val 51).asI (ρ.val 52).asL).pl ∧ ((zAc SCCut 3456 ρ).val 74).asL = (zAL (ρ.val 29).asI (ρ.val 34).asI (ρ.val 35).asS (ρ.val 36).asI (ρ.val 41).asI (ρ.val 50).asI (ρ.val 51).asI (ρ.val 52).asL).pL := by
  obtain ⟨val, fn⟩ := ρ; obtain rfl : fn = fnC := hf;exact ⟨by kernel_rfl, by kernel_rfl, by kernel_rfl, by kernel_rfl, by kernel_rfl, by kernel_rfl, by kernel_rfl⟩
 have h1 : (@Tm.den ρ zBF).asI = zFW (ρ.val 35).asS (ρ.val 29).asI (ρ.val 41).asI := by
  have h0 : (@Tm.den ρ (.ite (.ib .lss .i64 (vt 29) (.len (vt 35))) (vt 29) (.len (vt 35)))).asI = min ((ρ.val 35).asS.length : Int) (ρ.val 29).asI := by
   rw [zPS];cases hc : (@Tm.den ρ (.ib .lss .i64 (vt 29) (.len (vt 35)))).asB with
   | true => simp only [zBw, zB9, zAv] at hc; simp only [cond_true, zAv]; omega
   | false => simp only [zBV, zB9, zAv] at hc; simp only [cond_false, zB9, zAv]; omega
  rw [show zBF = .ite zOA (.ib .mul .i64 (.ci 8) (.ib .sub .i64 (vt 41) (.ci 1))) (.ite (.ib .lss .i64 (vt 29) (.len (vt 35))) (vt 29) (.len (vt 35))) from rfl, zPS]
  have hm : (@Tm.den ρ (.ib .mul .i64 (.ci 8) (.ib .sub .i64 (vt 41) (.ci 1)))).asI = IntKind.i64.wrap (8 * IntKind.i64.wrap ((ρ.val 41).asI - 1)) := rfl;unfold zFW;cases hc : (@Tm.den ρ zOA).asB with
  | true => simp only [zOA, zBw, hm, h0] at hc; simp only [cond_true, hm]; omega
  | false => simp only [zOA, zBV, hm, h0] at hc; simp only [cond_false, h0]; omega
 have h2 : (@Tm.den ρ (.cut (vt 35) (.ci 0) zBF)).asS = zBl (ρ.val 35).asS 0 (zFW (ρ.val 35).asS (ρ.val 29).asI (ρ.val 41).asI) := by
  show zBl _ 0 (@Tm.den ρ zBF).asI = _;rw [h1]; rfl
 have h3 : (@Tm.den ρ (.app 3520 (tp [(.cut (vt 35) (.ci 0) zBF), (vt 41)]))).asL = zA1 (zBl (ρ.val 35).asS 0 (zFW (ρ.val 35).asS (ρ.val 29).asI (ρ.val 41).asI)) (ρ.val 41).asI := by
  have : (@Tm.den ρ (.app 3520 (tp [(.cut (vt 35) (.ci 0) zBF), (vt 41)]))).asL = zA1 (@Tm.den ρ (.cut (vt 35) (.ci 0) zBF)).asS (ρ.val 41).asI := by obtain ⟨val, fn⟩ := ρ; obtain rfl : fn = fnC := hf; kernel_rfl
  rw [this, h2]
 have h4 : (@Tm.den ρ zXU).asI = ((ρ.val 34).asI + ((zBl (ρ.val 35).asS 0 (zFW (ρ.val 35).asS (ρ.val 29).asI (ρ.val 41).asI)).length : Int)).tmod (ρ.val 36).asI := by
  show ((ρ.val 34).asI + ((@Tm.den ρ (.cut (vt 35) (.ci 0) zBF)).asS.length : Int)).tmod (ρ.val 36).asI = _;rw [h2]
 have h5 : (@Tm.den ρ (.cut (vt 35) (.len (.cut (vt 35) (.ci 0) zBF)) (.len (vt 35)))).asS = zBl (ρ.val 35).asS ((zBl (ρ.val 35).asS 0 (zFW (ρ.val 35).asS (ρ.val 29).asI (ρ.val 41).asI)).length : Int) ((ρ.val 35).asS.length : Int) := by
  show zBl (ρ.val 35).asS ((@Tm.den ρ (.cut (vt 35) (.ci 0) zBF)).asS.length : Int) _ = _;rw [h2]; rfl
 have h6 : (@Tm.den ρ (.llen (.app 3520 (tp [(.cut (vt 35) (.ci 0) zBF), (vt 41)])))).asI = ((zA1 (zBl (ρ.val 35).asS 0 (zFW (ρ.val 35).asS (ρ.val 29).asI (ρ.val 41).asI)) (ρ.val 41).asI).length : Int) := by
  show ((@Tm.den ρ (.app 3520 (tp [(.cut (vt 35) (.ci 0) zBF), (vt 41)]))).asL.length : Int) = _;rw [h3]
 have h7 : (@Tm.den ρ (.ib .sub .i64 (vt 29) zBF)).asI = IntKind.i64.wrap ((ρ.val 29).asI - zFW (ρ.val 35).asS (ρ.val 29).asI (ρ.val 41).asI) := by
  show IntKind.i64.wrap ((ρ.val 29).asI - (@Tm.den ρ zBF).asI) = _;rw [h1]
 have hb : (@Tm.den ρ zXV).asB = true := by
  rw [show zXV = .and zXW (.ib .leq .i64 (.len (.cut (vt 35) (.ci 0) zBF)) (.ci 99999)) from rfl, zCL, show zXW = .and (.ib .leq .i64 (.ci 2) (vt 41)) (.ib .leq .i64 (vt 41) (.ci 128)) from rfl, zCL, zAS, zAS, zAS]
  simp only [zB9, zBs, zAv, h2];have := zX0 (ρ.val 35).asS 0 (zFW (ρ.val 35).asS (ρ.val 29).asI (ρ.val 41).asI);refine ⟨⟨⟨?_, ?_⟩, ⟨?_, ?_⟩⟩, ?_, ?_⟩ <;> omega
 generalize hN : zFW (ρ.val 35).asS (ρ.val 29).asI (ρ.val 41).asI = n at *;unfold xJ4;refine zAb (fun c1 => ?_) (fun c1 => zAb (fun c2 => ?_) (fun c2 => zAb (fun c3 => ?_) (fun c3 => zAb (fun _ => ?_) (fun c4 => absurd (hb.symm.trans c4) (by decide)))))
 ·have hr : (zAL (ρ.val 29).asI (ρ.val 34).asI (ρ.val 35).asS (ρ.val 36).asI (ρ.val 41).asI (ρ.val 50).asI (ρ.val 51).asI (ρ.val 52).asL) = ⟨false, (ρ.val 29).asI, (ρ.val 34).asI, (ρ.val 35).asS, (ρ.val 50).asI, (ρ.val 51).asI, (ρ.val 52).asL⟩ := by
   unfold zAL;rw [hN, if_pos (by rw [zAU] at c1; simp only [h1, zBs, zAv] at c1; omega)]
  rw [hr] at e0 e1 e2 e3 e4 e5 e6;exact zAk ⟨e0, e4, e5, e1, e2, congrArg zDL e3, e2, e3, e6, trivial⟩
 ·have hr : (zAL (ρ.val 29).asI (ρ.val 34).asI (ρ.val 35).asS (ρ.val 36).asI (ρ.val 41).asI (ρ.val 50).asI (ρ.val 51).asI (ρ.val 52).asL) = ⟨false, (ρ.val 29).asI, (ρ.val 34).asI, (ρ.val 35).asS, (ρ.val 50).asI, (ρ.val 51).asI, (ρ.val 52).asL⟩ := by
   unfold zAL;rw [hN, if_pos (by rw [zBw] at c2; simp only [h1, zBs, zAv] at c2; omega)]
  rw [hr] at e0 e1 e2 e3 e4 e5 e6;exact zAk ⟨e0, e4, e5, e1, e2, congrArg zDL e3, e2, e3, e6, trivial⟩
 ·have hr : (zAL (ρ.val 29).asI (ρ.val 34).asI (ρ.val 35).asS (ρ.val 36).asI (ρ.val 41).asI (ρ.val 50).asI (ρ.val 51).asI (ρ.val 52).asL) = ⟨false, (ρ.val 29).asI, (ρ.val 34).asI, (ρ.val 35).asS, (ρ.val 50).asI, (ρ.val 51).asI, (ρ.val 52).asL⟩ := by
   unfold zAL;rw [hN, if_pos (by rw [zAT] at c3; simp only [h1, zBs, zAv] at c3; omega)]
  rw [hr] at e0 e1 e2 e3 e4 e5 e6;exact zAk ⟨e0, e4, e5, e1, e2, congrArg zDL e3, e2, e3, e6, trivial⟩
 ·have hr : (zAL (ρ.val 29).asI (ρ.val 34).asI (ρ.val 35).asS (ρ.val 36).asI (ρ.val 41).asI (ρ.val 50).asI (ρ.val 51).asI (ρ.val 52).asL) = ⟨true, IntKind.i64.wrap ((ρ.val 29).asI - n), ((ρ.val 34).asI + ((zBl (ρ.val 35).asS 0 n).length : Int)).tmod (ρ.val 36).asI, zBl (ρ.val 35).asS ((zBl (ρ.val 35).asS 0 n).length : Int) (ρ.val 35).asS.length, 0, ((zA1 (zBl (ρ.val 35).asS 0 n) (ρ.val 41).asI).length : Int), zA1 (zBl (ρ.val 35).asS 0 n) (ρ.val 41).asI⟩ := by
   unfold zAL;rw [hN, if_neg];rw [zAQ] at c1; rw [zBV] at c2; rw [zAO] at c3;simp only [h1, zBs, zAv] at c1 c2 c3;omega
  rw [hr] at e0 e1 e2 e3 e4 e5 e6;exact zAk ⟨e0, e4, e5.trans h6.symm, e1.trans h7.symm, e2.trans h4.symm, congrArg zDL (e3.trans h5.symm), e2.trans h4.symm, e3.trans h5.symm, e6.trans h3.symm, trivial⟩
abbrev xFy : Tm := (tp [y8, y11, y14, y16, y21, y24, y27])
abbrev zKd : Tm :=
 (.app 513 xFy)
abbrev zKc : Tm :=
 (.app 512 xFy)
abbrev xCI : Tree (Option Eqs) := (.leaf (some [(.sB, y69, (.cb true))]))
abbrev xF3 : Tree (Option Eqs) := (.fork zKd (.fork zKc (.leaf (some [(.sB, y69, (.cb true))])) (.fork (.not y11) (.leaf (some [(.sB, y69, (.not y14))])) (.leaf (some [(.sB, y69, (.cb false))])))) .fail)
abbrev xF4 : Tree (Option Eqs) := (.fork y68 (.fork (.ib .gtr .i64 y51 (.ci 0)) (.fork zKd (.fork zKc (.leaf (some [(.sB, y69, (.cb true))])) (.fork (.not y11) (.leaf (some [(.sB, y69, (.not y14))])) (.leaf (some [(.sB, y69, (.cb false))])))) .fail) (.fork (.ib .gtr .i64 (.len y35) (.ci 0)) (.fork zKd (.fork zKc (.leaf (some [(.sB, y69, (.cb true))])) (.fork (.ib .gtr .i64 y29 (.ci 0)) (.fork (.not y11) (.leaf (some [(.sB, y69, (.not y14))])) (.leaf (some [(.sB, y69, (.cb false))]))) (.leaf (some [(.sB, y69, (.cb false))])))) .fail) (.fork zKd (.fork zKc (.leaf (some [(.sB, y69, (.cb true))])) (.leaf (some [(.sB, y69, (.cb false))]))) .fail))) (.fork zKd (.fork zKc (.leaf (some [(.sB, y69, (.cb true))])) (.leaf (some [(.sB, y69, (.cb false))]))) .fail))
def xJ2 : (Tree (Option Eqs)) :=
 (.fork (.ib .neq .u8 y56 (.ci 0)) xCI (.fork (.ib .neq .u8 y63 (.ci 0)) xCI (.fork (.ib .neq .u8 y48 (.ci 3)) (.leaf (some [(.sB, y69, (.cb false))])) (.fork (.ib .lss .i64 y21 y45) (.fork (.ib .gtr .i64 y33 (.ci 0)) (.fork (.ib .geq .i64 (.ib .mul .i64 (.ci 2) y33) y46) xF3 (.fork (.ib .eql .i64 y31 (.ci 0)) xF3 xF4)) xF4) (.fork zKd (.fork zKc xCI (.leaf (some [(.sB, y69, (.cb false))]))) .fail)))))
set_option maxRecDepth 100000 in
theorem xDY : SCHas.tree Tryz.prog zZF 25 = xJ2 := by kernel_rfl
set_option maxHeartbeats 1000000 in
set_option maxRecDepth 100000 in
theorem xDX : SumOK Tryz.prog zZF 25 SCHas 3392 1 fnC := by
 intro ρ hf hok;rw [xDY];obtain ⟨e0, b0, b1⟩ : ((zAc SCHas 3392 ρ).val 69).asB = (cR ρ).has (ρ.val 68).asB ∧ (@Tm.den ρ zKd).asB = true ∧ (@Tm.den ρ zKc).asB = (aR4 ρ).has := by
  obtain ⟨val, fn⟩ := ρ; obtain rfl : fn = fnC := hf;exact ⟨by kernel_rfl, by kernel_rfl, by kernel_rfl⟩
 have em : (@Tm.den ρ (.ib .mul .i64 (.ci 2) (vt 33))).asI = IntKind.i64.wrap (2 * (ρ.val 33).asI) := rfl;unfold xJ2
 repeat' (first | (refine zAb (fun h => ?_) (fun h => ?_) <;> (try simp only [zAT, zAO, zAU, zAQ, zEk, zEl, zBw, zBV, zDF, zDG, zDo, zDp, zAv, zBs, zB9, em, b0, b1, reduceCtorEq] at h)) | refine zAk ?_)
 all_goals first | (refine ⟨e0.trans ?_, trivial⟩; simp [CSt.has, zMa, zDu, Tm.den, zEa, *] <;> (intros; omega); done)
end
end Go.Proofs.YtenkabjkgngcdaaGreat.Ab
