import Derived.Test.YtenkabjkgngcdaaGreatKd2
import Derived.Test.YtenkabjkgngcdaaGreatKd3
import Derived.Test.YtenkabjkgngcdaaGreatKb6
set_option linter.unusedVariables false
set_option linter.unusedSimpArgs false
set_option linter.unusedSectionVars false
namespace Go.Proofs.YtenkabjkgngcdaaGreat.Ab
open Go
noncomputable section
abbrev xFl : Tm :=
 (.sb .add (.oct (.wrap .u8 (.ib .shr .i64 y74 (.ci 8)))) (.sb .add (.oct (.wrap .u8 y74)) (.cs [])))
abbrev zE7 : Tm :=
 (tp [y4, y5, y6, y7, y8, y9, y69, y11, y12, y13, y14, y15, y16, y17, y18, y19, y70, y71, y72, y23, y24, y25, y26, y27, (.sb .add (.cs [17]) xFl)])
abbrev zCI : Tm :=
 (tp [y4, y5, y6, y7, y8, y9, y69, y11, y12, y13, y14, y15, y16, y17, y18, y19, y70, y71, y72, y23, y24, y25, y26, y27, (.lget y79 y77 0)])
abbrev zAu : Tm :=
 (tp [y73, y75, y76, y36, y41, y77, y78, y79])
abbrev xCG : Tm := (tp [y4, y5, y6, y7, y8, y9, y10, y11, y12, y13, y14, y15, y16, y17, y18, y19, y20, y21, y22, y23, y24, y25, y26, y27, y29, y31, y33, y34, y35, y36, y41, y45, y46, y50, y51, y52, y68])
abbrev zAj : Tm :=
 xCG
abbrev xFw : Tree (AX × Option Eqs) := (.fork (.app 581 zE7) (.leaf (.normal, (some [(.sI, y77, y77), (.sI, y78, y78), (.sI, y69, (.app 577 zE7)), (.sI, y70, (.app 578 zE7)), (.sI, y71, (.app 579 zE7)), (.sL, y72, (.app 580 zE7)), (.sI, y73, y73), (.sI, y74, (.ci 0)), (.sI, y75, y75), (.sI, (.len y76), (.len y76)), (.sI, y75, y75), (.sS, y76, y76), (.sL, y79, y79)]))) .fail)
abbrev xFx : Tree (AX × Option Eqs) := (.fork y68 (.fork (.ib .gtr .i64 y78 (.ci 0)) (.fork (.ib .lss .i64 (.ci 0) y78) (.fork (.app 581 zCI) (.fork (.ib .leq .i64 (.ci 1) y78) (.leaf (.normal, (some [(.sI, y77, (.plus y77 (.ci 1))), (.sI, y78, (.minus y78 (.ci 1))), (.sI, y69, (.app 577 zCI)), (.sI, y70, (.app 578 zCI)), (.sI, y71, (.app 579 zCI)), (.sL, y72, (.app 580 zCI)), (.sI, y73, y73), (.sI, y74, y74), (.sI, y75, y75), (.sI, (.len y76), (.len y76)), (.sI, y75, y75), (.sS, y76, y76), (.sL, y79, y79)]))) .fail) .fail) .fail) (.fork (.app 3463 zAu) (.fork (.not (.app 3456 zAu)) (.leaf (.ret, (some [(.sI, (.app 3272 zAj), (.app 3460 zAu)), (.sI, (.app 3273 zAj), (.app 3461 zAu)), (.sI, (.app 3264 zAj), y69), (.sI, (.app 3265 zAj), y70), (.sI, (.app 3266 zAj), y71), (.sL, (.app 3267 zAj), y72), (.sI, (.app 3268 zAj), (.app 3457 zAu)), (.sI, (.app 3269 zAj), y74), (.sI, (.app 3270 zAj), (.app 3458 zAu)), (.sI, (.len (.app 3271 zAj)), (.len (.app 3459 zAu))), (.sI, (.app 3270 zAj), (.app 3458 zAu)), (.sS, (.app 3271 zAj), (.app 3459 zAu)), (.sL, (.app 3274 zAj), (.app 3462 zAu))]))) (.leaf (.normal, (some [(.sI, y77, (.app 3460 zAu)), (.sI, y78, (.app 3461 zAu)), (.sI, y69, y69), (.sI, y70, y70), (.sI, y71, y71), (.sL, y72, y72), (.sI, y73, (.app 3457 zAu)), (.sI, y74, y74), (.sI, y75, (.app 3458 zAu)), (.sI, (.len y76), (.len (.app 3459 zAu))), (.sI, y75, (.app 3458 zAu)), (.sS, y76, (.app 3459 zAu)), (.sL, y79, (.app 3462 zAu))])))) .fail)) (.leaf (.ret, (some [(.sI, (.app 3272 zAj), y77), (.sI, (.app 3273 zAj), y78), (.sI, (.app 3264 zAj), y69), (.sI, (.app 3265 zAj), y70), (.sI, (.app 3266 zAj), y71), (.sL, (.app 3267 zAj), y72), (.sI, (.app 3268 zAj), y73), (.sI, (.app 3269 zAj), y74), (.sI, (.app 3270 zAj), y75), (.sI, (.len (.app 3271 zAj)), (.len y76)), (.sI, (.app 3270 zAj), y75), (.sS, (.app 3271 zAj), y76), (.sL, (.app 3274 zAj), y79)]))))
def xC3 : (Tree (AX × Option Eqs)) :=
 (.fork (.ib .lss .i64 y71 y45) (.fork (.ib .gtr .i64 y74 (.ci 0)) (.fork (.ib .geq .i64 (.ib .mul .i64 (.ci 2) y74) y46) xFw (.fork (.ib .eql .i64 y31 (.ci 0)) xFw xFx)) xFx) (.leaf ((.exit 0), (some [(.sI, (.app 3272 zAj), y77), (.sI, (.app 3273 zAj), y78), (.sI, (.app 3264 zAj), y69), (.sI, (.app 3265 zAj), y70), (.sI, (.app 3266 zAj), y71), (.sL, (.app 3267 zAj), y72),
 (.sI, (.app 3268 zAj), y73), (.sI, (.app 3269 zAj), y74), (.sI, (.app 3270 zAj), y75), (.sI, (.len (.app 3271 zAj)), (.len y76)), (.sI, (.app 3270 zAj), y75), (.sS, (.app 3271 zAj), y76), (.sL, (.app 3274 zAj), y79)]))))
set_option maxRecDepth 100000 in
theorem zUk : zA9 Tryz.prog (zCD Tryz.prog xGm 1000) (fun _ => none) 1000000 (zCB Tryz.prog fFl 0) TFl (zGF 11 69 TFl FFl) = xC3 := by kernel_rfl
abbrev zB1 : Tm :=
 xCG
def xGG : (Tree (Option Eqs)) :=
 (.leaf (some [(.sI, y77, (.app 3272 zB1)), (.sI, y78, (.app 3273 zB1)), (.sI, y69, (.app 3264 zB1)), (.sI, y70, (.app 3265 zB1)), (.sI, y71, (.app 3266 zB1)), (.sL, y72, (.app 3267 zB1)), (.sI, y73, (.app 3268 zB1)), (.sI, y74, (.app 3269 zB1)), (.sI, y75, (.app 3270 zB1)), (.sI, (.len y76), (.len (.app 3271 zB1))), (.sI, y75, (.app 3270 zB1)), (.sS, y76, (.app 3271 zB1)), (.sL, y79, (.app 3274 zB1))]))
set_option maxRecDepth 100000 in
theorem zXP : SCFill.tree Tryz.prog (zZJ (gFl .ret)) fFl = xGG := by kernel_rfl
abbrev zB3 : Tm :=
 xCG
def xGH : (Tree (Option Eqs)) :=
 (.leaf (some [(.sI, y77, (.app 3272 zB3)), (.sI, y78, (.app 3273 zB3)), (.sI, y69, (.app 3264 zB3)), (.sI, y70, (.app 3265 zB3)), (.sI, y71, (.app 3266 zB3)), (.sL, y72, (.app 3267 zB3)), (.sI, y73, (.app 3268 zB3)), (.sI, y74, (.app 3269 zB3)), (.sI, y75, (.app 3270 zB3)), (.sI, (.len y76), (.len (.app 3271 zB3))), (.sI, y75, (.app 3270 zB3)), (.sS, y76, (.app 3271 zB3)), (.sL, y79, (.app 3274 zB3))]))
set_option maxRecDepth 100000 in
theorem zXQ : SCFill.tree Tryz.prog (zZJ (gFl (.exit 0))) fFl = xGH := by kernel_rfl
def itF (i : FIn) : Nat → FSt → FSt | 0, f => f | n + 1, f => itF i n (f.step i).2.1
theorem zR4 (i : FIn) : ∀ (n : Nat) (f : FSt), itF i (n + 1) f = ((itF i n f).step i).2.1
 | 0, f => rfl
 | n + 1, f => zR4 i n (f.step i).2.1
theorem zQ4 (i : FIn) : ∀ (n : Nat) (f : FSt), (f.run i n).2 = true → ∃ N, (∀ k, k < N → ((itF i k f).step i).1 = true ∧ ((itF i k f).step i).2.2 = true) ∧ ((itF i N f).step i).1 = false ∧ ((itF i N f).step i).2.2 = true ∧ (f.run i n).1 = ((itF i N f).step i).2.1
 | 0, f, h => by cases h
 | n + 1, f, h => by
  unfold FSt.run at h ⊢;by_cases hs : (f.step i).1 = true
  ·rw [if_pos hs] at h ⊢;obtain ⟨h1, h2⟩ := Bool.and_eq_true_iff.1 h;obtain ⟨N, a, b, c, d⟩ := zQ4 i n (f.step i).2.1 h2;refine ⟨N + 1, fun k hk => ?_, b, c, d⟩;cases k with
   | zero => exact ⟨hs, h1⟩
   | succ k => exact a k (by omega)
  ·rw [if_neg hs] at h ⊢;exact ⟨0, fun k hk => by omega, (by cases hb : (f.step i).1 with | true => exact absurd hb hs | false => exact hb), h, rfl⟩
abbrev iR (ρ : Rho) : FIn :=
 ⟨aR4 ρ, (ρ.val 31).asI, (ρ.val 36).asI, (ρ.val 41).asI, (ρ.val 45).asI, (ρ.val 46).asI, (ρ.val 68).asB⟩
abbrev zGg (ρ : Rho) (l : List Dat) : Rho :=
 ⟨fun i => bif Nat.blt i 69 then ρ.val i else bif Nat.blt i 80 then l.getD (i - 69) (.dI 0) else ρ.val i, ρ.fn⟩
def frd (l : List Dat) : FSt :=
 ⟨gI l 0, gI l 1, gI l 2, gL l 3, gI l 4, gI l 5, gI l 6, gS l 7, gI l 8, gI l 9, gL l 10⟩
theorem zRr {owe tn room : Int} (h : 0 < owe) (h2 : room ≤ IntKind.i64.wrap (2 * owe) ∨ tn = 0) : zDu owe tn room = true := by
 unfold zDu;rw [decide_eq_true (show owe > 0 from h), Bool.true_and, Bool.or_eq_true, decide_eq_true_eq, decide_eq_true_eq]; exact h2
theorem zWd {owe tn room : Int} (h : owe ≤ 0) : zDu owe tn room = false := by
 unfold zDu;rw [decide_eq_false (show ¬ owe > 0 by omega), Bool.false_and]
theorem xBc {owe tn room : Int} (h1 : IntKind.i64.wrap (2 * owe) < room) (h2 : ¬ tn = 0) : zDu owe tn room = false := by
 unfold zDu;rw [decide_eq_false (show ¬ IntKind.i64.wrap (2 * owe) ≥ room by omega), decide_eq_false h2, Bool.or_false, Bool.and_false]
section
variable {ρ : Rho} {l : List Dat} (hf : ρ.fn = fnC)
include hf
theorem zRF (h : zDj (frd l) = true) : (@Tm.den (zGg ρ l) (.app 581 zE7)).asB = true := by
 obtain ⟨val, fn⟩ := ρ;obtain rfl : fn = fnC := hf;have e : (@Tm.den (zGg ⟨val, fnC⟩ l) (.app 581 zE7)).asB = zDj (frd l) := by kernel_rfl
 rw [e]; exact h
theorem zZC (h : zDj (frd l) = true) : (@Tm.den (zGg ρ l) (.app 581 zCI)).asB = true := by
 obtain ⟨val, fn⟩ := ρ;obtain rfl : fn = fnC := hf;have e : (@Tm.den (zGg ⟨val, fnC⟩ l) (.app 581 zCI)).asB = zDj (frd l) := by kernel_rfl
 rw [e]; exact h
theorem xBn (h : zJ6 (frd l).qt (frd l).pn (iR ρ).n1) : (@Tm.den (zGg ρ l) (.app 3463 zAu)).asB = true := by
 obtain ⟨val, fn⟩ := ρ;obtain rfl : fn = fnC := hf;have e : (@Tm.den (zGg ⟨val, fnC⟩ l) (.app 3463 zAu)).asB = decide (zJ6 (frd l).qt (frd l).pn (iR ⟨val, fnC⟩).n1) := by kernel_rfl
 rw [e]; exact decide_eq_true h
theorem xBo : (@Tm.den (zGg ρ l) (.not (.app 3456 zAu))).asB = !(zCn (iR ρ) (frd l)).ok := by
 obtain ⟨val, fn⟩ := ρ;obtain rfl : fn = fnC := hf
 kernel_rfl
theorem zRG (h : (frd l).len < (iR ρ).k) (ho : zDu (frd l).owe (iR ρ).tn (iR ρ).room = true) (hok : zDj (frd l) = true) : EqsOk (zGg ρ (zJJ (((({ frd l with owe := 0 } : FSt).push (iR ρ) (.dS (zAN (frd l).owe))))))) (zGg ρ l) [(.sI, (vt 77), (vt 77)), (.sI, (vt 78), (vt 78)), (.sI, (vt 69), (.app 577 zE7)), (.sI, (vt 70), (.app 578 zE7)), (.sI, (vt 71), (.app 579 zE7)), (.sL, (vt 72), (.app 580 zE7)), (.sI, (vt 73), (vt 73)), (.sI, (vt 74), (.ci 0)), (.sI, (vt 75), (vt 75)), (.sI, (.len (vt 76)), (.len (vt 76))), (.sI, (vt 75), (vt 75)), (.sS, (vt 76), (vt 76)), (.sL, (vt 79), (vt 79))] := by
 obtain ⟨val, fn⟩ := ρ;obtain rfl : fn = fnC := hf;exact ⟨(by show _ = _; kernel_rfl), (by show _ = _; kernel_rfl), (by show _ = _; kernel_rfl), (by show _ = _; kernel_rfl), (by show _ = _; kernel_rfl), (by show _ = _; kernel_rfl), (by show _ = _; kernel_rfl), (by show _ = _; kernel_rfl), (by show _ = _; kernel_rfl), (by show _ = _; kernel_rfl), (by show _ = _; kernel_rfl), (by show _ = _; kernel_rfl), (by show _ = _; kernel_rfl), trivial⟩
theorem xDG : EqsOk (zGg ρ (zJJ ({ ((frd l).push (iR ρ) (partAt (frd l))) with po := (frd l).po + 1, pl := (frd l).pl - 1 } : FSt))) (zGg ρ l) [(.sI, (vt 77), (.plus (vt 77) (.ci 1))), (.sI, (vt 78), (.minus (vt 78) (.ci 1))), (.sI, (vt 69), (.app 577 zCI)), (.sI, (vt 70), (.app 578 zCI)), (.sI, (vt 71), (.app 579 zCI)), (.sL, (vt 72), (.app 580 zCI)), (.sI, (vt 73), (vt 73)), (.sI, (vt 74), (vt 74)), (.sI, (vt 75), (vt 75)), (.sI, (.len (vt 76)), (.len (vt 76))), (.sI, (vt 75), (vt 75)), (.sS, (vt 76), (vt 76)), (.sL, (vt 79), (vt 79))] := by
 obtain ⟨val, fn⟩ := ρ;obtain rfl : fn = fnC := hf;exact ⟨(by show _ = _; kernel_rfl), (by show _ = _; kernel_rfl), (by show _ = _; kernel_rfl), (by show _ = _; kernel_rfl), (by show _ = _; kernel_rfl), (by show _ = _; kernel_rfl), (by show _ = _; kernel_rfl), (by show _ = _; kernel_rfl), (by show _ = _; kernel_rfl), (by show _ = _; kernel_rfl), (by show _ = _; kernel_rfl), (by show _ = _; kernel_rfl), (by show _ = _; kernel_rfl), trivial⟩
theorem xDH : EqsOk (zGg ρ (zJJ ({ frd l with pn := (zCn (iR ρ) (frd l)).pn, qf := (zCn (iR ρ) (frd l)).qf, qt := (zCn (iR ρ) (frd l)).qt, po := (zCn (iR ρ) (frd l)).po, pl := (zCn (iR ρ) (frd l)).pl, pL := (zCn (iR ρ) (frd l)).pL } : FSt))) (zGg ρ l) [(.sI, (vt 77), (.app 3460 zAu)), (.sI, (vt 78), (.app 3461 zAu)), (.sI, (vt 69), (vt 69)), (.sI, (vt 70), (vt 70)), (.sI, (vt 71), (vt 71)), (.sL, (vt 72), (vt 72)), (.sI, (vt 73), (.app 3457 zAu)), (.sI, (vt 74), (vt 74)), (.sI, (vt 75), (.app 3458 zAu)), (.sI, (.len (vt 76)), (.len (.app 3459 zAu))), (.sI, (vt 75), (.app 3458 zAu)), (.sS, (vt 76), (.app 3459 zAu)), (.sL, (vt 79), (.app 3462 zAu))] := by
 obtain ⟨val, fn⟩ := ρ;obtain rfl : fn = fnC := hf;exact ⟨(by show _ = _; kernel_rfl), (by show _ = _; kernel_rfl), (by show _ = _; kernel_rfl), (by show _ = _; kernel_rfl), (by show _ = _; kernel_rfl), (by show _ = _; kernel_rfl), (by show _ = _; kernel_rfl), (by show _ = _; kernel_rfl), (by show _ = _; kernel_rfl), (by show _ = _; kernel_rfl), (by show _ = _; kernel_rfl), (by show _ = _; kernel_rfl), (by show _ = _; kernel_rfl), trivial⟩
theorem xIy (h : ((frd l).step (iR ρ)).1 = true) (hok : ((frd l).step (iR ρ)).2.2 = true) : NxX (zGg ρ (zJJ ((frd l).step (iR ρ)).2.1)) (zGg ρ l) .normal xC3 := by
 unfold xC3;have tail : zDu (frd l).owe (iR ρ).tn (iR ρ).room = false → (frd l).len < (iR ρ).k → ∀ (x1 x2 y1 y2 : Tree (AX × Option Eqs)), NxX (zGg ρ (zJJ ((frd l).step (iR ρ)).2.1)) (zGg ρ l) .normal (.fork (vt 68) (.fork (.ib .gtr .i64 (vt 78) (.ci 0)) (.fork (.ib .lss .i64 (.ci 0) (vt 78)) (.fork (.app 581 zCI) (.fork (.ib .leq .i64 (.ci 1) (vt 78)) (.leaf (.normal, (some [(.sI, (vt 77), (.plus (vt 77) (.ci 1))), (.sI, (vt 78), (.minus (vt 78) (.ci 1))), (.sI, (vt 69), (.app 577 zCI)), (.sI, (vt 70), (.app 578 zCI)), (.sI, (vt 71), (.app 579 zCI)), (.sL, (vt 72), (.app 580 zCI)), (.sI, (vt 73), (vt 73)), (.sI, (vt 74), (vt 74)), (.sI, (vt 75), (vt 75)), (.sI, (.len (vt 76)), (.len (vt 76))), (.sI, (vt 75), (vt 75)), (.sS, (vt 76), (vt 76)), (.sL, (vt 79), (vt 79))]))) .fail) .fail) .fail)
   (.fork (.app 3463 zAu) (.fork (.not (.app 3456 zAu)) x1 (.leaf (.normal, (some [(.sI, (vt 77), (.app 3460 zAu)), (.sI, (vt 78), (.app 3461 zAu)), (.sI, (vt 69), (vt 69)), (.sI, (vt 70), (vt 70)), (.sI, (vt 71), (vt 71)), (.sL, (vt 72), (vt 72)), (.sI, (vt 73), (.app 3457 zAu)), (.sI, (vt 74), (vt 74)), (.sI, (vt 75), (.app 3458 zAu)), (.sI, (.len (vt 76)), (.len (.app 3459 zAu))), (.sI, (vt 75), (.app 3458 zAu)), (.sS, (vt 76), (.app 3459 zAu)), (.sL, (vt 79), (.app 3462 zAu))])))) .fail)) x2) := fun ho hl x1 x2 _ _ => by
  cases hm : (iR ρ).may with
  | false => rw [step_ret hl ho hm] at h; cases h
  | true =>
   refine nxT (show (ρ.val 68).asB = true from hm) ?_
   by_cases hp : (frd l).pl > 0
   ·rw [zI5 hl ho hm hp] at hok ⊢;refine nxT (by rw [zAT]; exact ⟨hp, Int.not_le.2 hp⟩) (nxT (by rw [zBw]; exact ⟨hp, Int.not_le.2 hp⟩) (nxT (zZC hf hok) (nxT (by rw [zAS]; exact ⟨hp, Int.not_lt.2 hp⟩) (nxL (xDG hf)))))
   ·rw [zLB hl ho hm hp] at h hok ⊢;have hp' : (frd l).pl ≤ 0 := Int.not_lt.1 hp;refine nxF (by rw [zAO]; exact ⟨hp', hp⟩) (nxT (xBn hf (of_decide_eq_true hok)) (nxF ?_ (nxL (xDH hf))))
    rw [xBo hf, show (zCn (iR ρ) (frd l)).ok = true from h]; rfl
 by_cases hl : (frd l).len < (iR ρ).k
 ·refine nxT (by rw [zBw]; exact ⟨hl, Int.not_le.2 hl⟩) ?_
  by_cases c1 : 0 < (frd l).owe
  ·refine nxT (by rw [zAT]; exact ⟨c1, Int.not_le.2 c1⟩) ?_
   by_cases c2 : (iR ρ).room ≤ IntKind.i64.wrap (2 * (frd l).owe)
   ·have ho := zRr (tn := (iR ρ).tn) c1 (.inl c2);rw [zCW hl ho] at hok ⊢;exact nxT (by rw [zDF]; exact ⟨c2, Int.not_lt.2 c2⟩) (nxT (zRF hf hok) (nxL (zRG hf hl ho hok)))
   ·have c2' := Int.not_le.1 c2;refine nxF (by rw [zDG]; exact ⟨c2', c2⟩) ?_
    by_cases c3 : (iR ρ).tn = 0
    ·have ho := zRr (room := (iR ρ).room) c1 (.inr c3);rw [zCW hl ho] at hok ⊢;exact nxT (by rw [zAU]; exact c3) (nxT (zRF hf hok) (nxL (zRG hf hl ho hok)))
    ·exact nxF (by rw [zAQ]; exact c3) (tail (xBc c2' c3) hl _ _ .fail .fail)
  ·have c1' := Int.not_lt.1 c1;exact nxF (by rw [zAO]; exact ⟨c1', c1⟩) (tail (zWd c1') hl _ _ .fail .fail)
 ·rw [zGb hl] at h; cases h
theorem xGi (h : ((frd l).step (iR ρ)).1 = false) (hok : ((frd l).step (iR ρ)).2.2 = true) (hres : ∀ j, j ≤ 10 → ρ.fn (3264 + j) (@Tm.den ρ zAj) = (zJJ ((frd l).step (iR ρ)).2.1).getD j (.dB true)) : NxX ρ (zGg ρ l) .ret xC3 ∨ NxX ρ (zGg ρ l) (.exit 0) xC3 := by
 have q : ∀ j d, j ≤ 10 → (zJJ ((frd l).step (iR ρ)).2.1).getD j (.dB true) = d → @Tm.den ρ (.app (3264 + j) zAj) = d := fun j d hj e => (hres j hj).trans e;have same : (frd l).step (iR ρ) = (false, frd l, true) → EqsOk ρ (zGg ρ l) [(.sI, (.app 3272 zAj), (vt 77)), (.sI, (.app 3273 zAj), (vt 78)), (.sI, (.app 3264 zAj), (vt 69)), (.sI, (.app 3265 zAj), (vt 70)), (.sI, (.app 3266 zAj), (vt 71)), (.sL, (.app 3267 zAj), (vt 72)), (.sI, (.app 3268 zAj), (vt 73)), (.sI, (.app 3269 zAj), (vt 74)), (.sI, (.app 3270 zAj), (vt 75)), (.sI, (.len (.app 3271 zAj)), (.len (vt 76))), (.sI, (.app 3270 zAj), (vt 75)), (.sS, (.app 3271 zAj), (vt 76)), (.sL, (.app 3274 zAj), (vt 79))] := fun e => by
  rw [e] at q;have r0 : @Tm.den ρ (.app (3264 + 0) zAj) = .dI (frd l).left := q 0 _ (by omega) (by kernel_rfl)
  have r1 : @Tm.den ρ (.app (3264 + 1) zAj) = .dI (frd l).off := q 1 _ (by omega) (by kernel_rfl)
  have r2 : @Tm.den ρ (.app (3264 + 2) zAj) = .dI (frd l).len := q 2 _ (by omega) (by kernel_rfl)
  have r3 : @Tm.den ρ (.app (3264 + 3) zAj) = .dL (frd l).L := q 3 _ (by omega) (by kernel_rfl)
  have r4 : @Tm.den ρ (.app (3264 + 4) zAj) = .dI (frd l).pn := q 4 _ (by omega) (by kernel_rfl)
  have r5 : @Tm.den ρ (.app (3264 + 5) zAj) = .dI (frd l).owe := q 5 _ (by omega) (by kernel_rfl)
  have r6 : @Tm.den ρ (.app (3264 + 6) zAj) = .dI (frd l).qf := q 6 _ (by omega) (by kernel_rfl)
  have r7 : @Tm.den ρ (.app (3264 + 7) zAj) = .dS (frd l).qt := q 7 _ (by omega) (by kernel_rfl)
  have r8 : @Tm.den ρ (.app (3264 + 8) zAj) = .dI (frd l).po := q 8 _ (by omega) (by kernel_rfl)
  have r9 : @Tm.den ρ (.app (3264 + 9) zAj) = .dI (frd l).pl := q 9 _ (by omega) (by kernel_rfl)
  have r10 : @Tm.den ρ (.app (3264 + 10) zAj) = .dL (frd l).pL := q 10 _ (by omega) (by kernel_rfl)
  exact ⟨(congrArg Dat.asI r8).trans (show (frd l).po = _ by kernel_rfl), (congrArg Dat.asI r9).trans (show (frd l).pl = _ by kernel_rfl), (congrArg Dat.asI r0).trans (show (frd l).left = _ by kernel_rfl), (congrArg Dat.asI r1).trans (show (frd l).off = _ by kernel_rfl), (congrArg Dat.asI r2).trans (show (frd l).len = _ by kernel_rfl), (congrArg Dat.asL r3).trans (show (frd l).L = _ by kernel_rfl), (congrArg Dat.asI r4).trans (show (frd l).pn = _ by kernel_rfl), (congrArg Dat.asI r5).trans (show (frd l).owe = _ by kernel_rfl), (congrArg Dat.asI r6).trans (show (frd l).qf = _ by kernel_rfl), (congrArg (fun d : Dat => (d.asS.length : Int)) r7).trans (show ((frd l).qt.length : Int) = _ by kernel_rfl), (congrArg Dat.asI r6).trans (show (frd l).qf = _ by kernel_rfl), (congrArg Dat.asS r7).trans (show (frd l).qt = _ by kernel_rfl), (congrArg Dat.asL r10).trans (show (frd l).pL = _ by kernel_rfl), trivial⟩
 unfold xC3;by_cases hl : (frd l).len < (iR ρ).k
 ·left;refine nxT (by rw [zBw]; exact ⟨hl, Int.not_le.2 hl⟩) ?_
  have tail : zDu (frd l).owe (iR ρ).tn (iR ρ).room = false → ∀ (x1 x2 x3 : Tree (AX × Option Eqs)), NxX ρ (zGg ρ l) .ret (.fork (vt 68) (.fork (.ib .gtr .i64 (vt 78) (.ci 0)) x1 (.fork (.app 3463 zAu) (.fork (.not (.app 3456 zAu)) (.leaf (.ret, some [(.sI, (.app 3272 zAj), (.app 3460 zAu)), (.sI, (.app 3273 zAj), (.app 3461 zAu)), (.sI, (.app 3264 zAj), (vt 69)), (.sI, (.app 3265 zAj), (vt 70)), (.sI, (.app 3266 zAj), (vt 71)), (.sL, (.app 3267 zAj), (vt 72)), (.sI, (.app 3268 zAj), (.app 3457 zAu)), (.sI, (.app 3269 zAj), (vt 74)), (.sI, (.app 3270 zAj), (.app 3458 zAu)), (.sI, (.len (.app 3271 zAj)), (.len (.app 3459 zAu))), (.sI, (.app 3270 zAj), (.app 3458 zAu)), (.sS, (.app 3271 zAj), (.app 3459 zAu)), (.sL, (.app 3274 zAj), (.app 3462 zAu))])) x2) x3)) (.leaf (.ret, some [(.sI, (.app 3272 zAj), (vt 77)), (.sI, (.app 3273 zAj), (vt 78)), (.sI, (.app 3264 zAj), (vt 69)), (.sI, (.app 3265 zAj), (vt 70)), (.sI, (.app 3266 zAj), (vt 71)), (.sL, (.app 3267 zAj), (vt 72)), (.sI, (.app 3268 zAj), (vt 73)), (.sI, (.app 3269 zAj), (vt 74)), (.sI, (.app 3270 zAj), (vt 75)), (.sI, (.len (.app 3271 zAj)), (.len (vt 76))), (.sI, (.app 3270 zAj), (vt 75)), (.sS, (.app 3271 zAj), (vt 76)), (.sL, (.app 3274 zAj), (vt 79))]))) := fun ho x1 x2 x3 => by
   cases hm : (iR ρ).may with
   | false => exact nxF (show (ρ.val 68).asB = false from hm) (nxL (same (step_ret hl ho hm)))
   | true =>
    refine nxT (show (ρ.val 68).asB = true from hm) ?_
    by_cases hp : (frd l).pl > 0
    ·rw [zI5 hl ho hm hp] at h; cases h
    ·have e := zLB hl ho hm hp;rw [e] at h hok q;have hp' : (frd l).pl ≤ 0 := Int.not_lt.1 hp;refine nxF (by rw [zAO]; exact ⟨hp', hp⟩) (nxT (xBn hf (of_decide_eq_true hok)) (nxT ?_ (nxL ?_)))
     ·rw [xBo hf, show (zCn (iR ρ) (frd l)).ok = false from h]; rfl
     ·have r0 : @Tm.den ρ (.app (3264 + 0) zAj) = .dI (frd l).left := q 0 _ (by omega) (by kernel_rfl)
      have r1 : @Tm.den ρ (.app (3264 + 1) zAj) = .dI (frd l).off := q 1 _ (by omega) (by kernel_rfl)
      have r2 : @Tm.den ρ (.app (3264 + 2) zAj) = .dI (frd l).len := q 2 _ (by omega) (by kernel_rfl)
      have r3 : @Tm.den ρ (.app (3264 + 3) zAj) = .dL (frd l).L := q 3 _ (by omega) (by kernel_rfl)
      have r4 : @Tm.den ρ (.app (3264 + 4) zAj) = .dI (zCn (iR ρ) (frd l)).pn := q 4 _ (by omega) (by kernel_rfl)
      have r5 : @Tm.den ρ (.app (3264 + 5) zAj) = .dI (frd l).owe := q 5 _ (by omega) (by kernel_rfl)
      have r6 : @Tm.den ρ (.app (3264 + 6) zAj) = .dI (zCn (iR ρ) (frd l)).qf := q 6 _ (by omega) (by kernel_rfl)
      have r7 : @Tm.den ρ (.app (3264 + 7) zAj) = .dS (zCn (iR ρ) (frd l)).qt := q 7 _ (by omega) (by kernel_rfl)
      have r8 : @Tm.den ρ (.app (3264 + 8) zAj) = .dI (zCn (iR ρ) (frd l)).po := q 8 _ (by omega) (by kernel_rfl)
      have r9 : @Tm.den ρ (.app (3264 + 9) zAj) = .dI (zCn (iR ρ) (frd l)).pl := q 9 _ (by omega) (by kernel_rfl)
      have r10 : @Tm.den ρ (.app (3264 + 10) zAj) = .dL (zCn (iR ρ) (frd l)).pL := q 10 _ (by omega) (by kernel_rfl)
      clear q same h hok e hres;obtain ⟨val, fn⟩ := ρ;obtain rfl : fn = fnC := hf;exact ⟨(congrArg Dat.asI r8).trans (show (zCn (iR ⟨val, fnC⟩) (frd l)).po = _ by kernel_rfl), (congrArg Dat.asI r9).trans (show (zCn (iR ⟨val, fnC⟩) (frd l)).pl = _ by kernel_rfl), (congrArg Dat.asI r0).trans (show (frd l).left = _ by kernel_rfl), (congrArg Dat.asI r1).trans (show (frd l).off = _ by kernel_rfl), (congrArg Dat.asI r2).trans (show (frd l).len = _ by kernel_rfl), (congrArg Dat.asL r3).trans (show (frd l).L = _ by kernel_rfl), (congrArg Dat.asI r4).trans (show (zCn (iR ⟨val, fnC⟩) (frd l)).pn = _ by kernel_rfl), (congrArg Dat.asI r5).trans (show (frd l).owe = _ by kernel_rfl), (congrArg Dat.asI r6).trans (show (zCn (iR ⟨val, fnC⟩) (frd l)).qf = _ by kernel_rfl), (congrArg (fun d : Dat => (d.asS.length : Int)) r7).trans (show ((zCn (iR ⟨val, fnC⟩) (frd l)).qt.length : Int) = _ by kernel_rfl), (congrArg Dat.asI r6).trans (show (zCn (iR ⟨val, fnC⟩) (frd l)).qf = _ by kernel_rfl), (congrArg Dat.asS r7).trans (show (zCn (iR ⟨val, fnC⟩) (frd l)).qt = _ by kernel_rfl), (congrArg Dat.asL r10).trans (show (zCn (iR ⟨val, fnC⟩) (frd l)).pL = _ by kernel_rfl), trivial⟩
  by_cases c1 : 0 < (frd l).owe
  ·refine nxT (by rw [zAT]; exact ⟨c1, Int.not_le.2 c1⟩) ?_
   by_cases c2 : (iR ρ).room ≤ IntKind.i64.wrap (2 * (frd l).owe)
   ·rw [zCW hl (zRr (tn := (iR ρ).tn) c1 (.inl c2))] at h; cases h
   ·have c2' := Int.not_le.1 c2;refine nxF (by rw [zDG]; exact ⟨c2', c2⟩) ?_
    by_cases c3 : (iR ρ).tn = 0
    ·rw [zCW hl (zRr (room := (iR ρ).room) c1 (.inr c3))] at h; cases h
    ·exact nxF (by rw [zAQ]; exact c3) (tail (xBc c2' c3) _ _ _)
  ·have c1' := Int.not_lt.1 c1;exact nxF (by rw [zAO]; exact ⟨c1', c1⟩) (tail (zWd c1') _ _ _)
 ·right;exact nxF (by rw [zBV]; exact ⟨Int.not_lt.1 hl, hl⟩) (nxL (same (zGb hl)))
end
def zYV (ρ : Rho) : List Dat :=
 [ρ.val 10, ρ.val 20, ρ.val 21, ρ.val 22, ρ.val 29, ρ.val 33, ρ.val 34, ρ.val 35, ρ.val 50, ρ.val 51, ρ.val 52]
def dF (ρ : Rho) : Nat → List Dat | 0 => zYV ρ | k + 1 => zJJ (itF (iR ρ) (k + 1) (frd (zYV ρ)))
theorem zOe (ρ : Rho) (k : Nat) : frd (dF ρ k) = itF (iR ρ) k (frd (zYV ρ)) := by
 cases k <;> rfl
theorem xFb (ρ : Rho) (n : Nat) : (zGg ρ (zYV ρ)).val n = match sFl n with
   | some t => @Tm.den ρ t
   | none => ρ.val n := by
 show (bif Nat.blt n 69 then _ else bif Nat.blt n 80 then _ else _) = _
 unfold sFl;cases h : Nat.blt n 69 with
 | true => rfl
 | false =>
  have h1 : ¬ n < 69 := fun g => by rw [zM8 g] at h; cases h
  obtain ⟨m, rfl⟩ : ∃ m, n = 69 + m := ⟨n - 69, by omega⟩
  simp only [cond_false];rw [show 69 + m - 69 = m by omega]
  match m with
  | 0 | 1 | 2 | 3 | 4 | 5 | 6 | 7 | 8 | 9 | 10 => rfl
  | k + 11 =>
   rw [show Nat.blt (69 + (k + 11)) 80 = false by
    cases g : Nat.blt (69 + (k + 11)) 80 with
    | false => rfl
    | true => have := zSm g; omega]
   rfl
theorem zYN (ρ : Rho) (l : List Dat) : Low 69 (zGg ρ l) ρ := ⟨fun i hi => by
 show (bif Nat.blt i 69 then _ else _) = _
 rw [zM8 hi]; rfl, rfl⟩
theorem zL5 {ρ : Rho} (hf : ρ.fn = fnC) : TabOK ρ xBK := ⟨zA6 hf (SumOK.all (fun ρ0 h0 => zET (show TabOK ρ0 xET from ⟨fun _ _ _ _ _ _ h ho => zTW (fun m n => by rw [h0]; exact zXd m n) h ho, zI3 h0⟩)) xEf), zI3 hf⟩
theorem xBm {ρ : Rho} (hf : ρ.fn = fnC) {x : AX} (hx : x ≠ .normal) {N : Nat} (hon : ∀ k, k < N → ((itF (iR ρ) k (frd (zYV ρ))).step (iR ρ)).1 = true ∧ ((itF (iR ρ) k (frd (zYV ρ))).step (iR ρ)).2.2 = true)
  (hoff : NxX ρ (zGg ρ (dF ρ N)) x xC3) : GOk ρ fFl 0 (gFl x) := by
 refine zMn zCq ρ (fun k => zGg ρ (dF ρ k)) N (fuel := 1000000) (cf := zCD Tryz.prog xGm 1000) (lf := fun _ => none) hx rfl
  (fun k _ => by letI : Rho := zGg ρ (dF ρ k); exact zC5 zCq (zET (zL5 (ρ := zGg ρ (dF ρ k)) (show (zGg ρ (dF ρ k)).fn = fnC from hf))) 1000) (fun k _ => by letI : Rho := zGg ρ (dF ρ k); exact zNW) (fun k _ => zYN ρ _) (fun k hk => ?_) ?_ (xFb ρ)
 ·rw [zUk];obtain ⟨h1, h2⟩ := hon k hk;rw [← zOe] at h1 h2;have := xIy hf h1 h2;rw [zOe, ← zR4] at this;exact this
 ·rw [zUk]; exact hoff
theorem zZD : zYp Tryz.prog fFl SCFill 3264 11 fnC := by
 intro ρ hf hok;have er : ∀ j, j ≤ 11 → fnC (3264 + j) (zFf ρ.val SCFill.us) = (zJJ (FSt.run (iR ρ) rounds (frd (zYV ρ))).1 ++ [Dat.dB (FSt.run (iR ρ) rounds (frd (zYV ρ))).2] : List Dat).getD j (Dat.dB true) := fun j hj => by
  match j, hj with
  | 0, _ | 1, _ | 2, _ | 3, _ | 4, _ | 5, _ | 6, _ | 7, _ | 8, _ | 9, _ | 10, _ | 11, _ => (show _ = _; kernel_rfl)
 rw [er 11 (by omega)] at hok
 have hok : (FSt.run (iR ρ) rounds (frd (zYV ρ))).2 = true := hok;obtain ⟨N, h1, h2, h3, h4⟩ := zQ4 _ _ _ hok;have hd : @Tm.den ρ zAj = zFf ρ.val SCFill.us := by kernel_rfl
 have hres : ∀ j, j ≤ 10 → ρ.fn (3264 + j) (@Tm.den ρ zAj) = (zJJ ((frd (dF ρ N)).step (iR ρ)).2.1).getD j (.dB true) := fun j hj => by
  rw [hf, hd, er j (by omega), zOe, ← h4]
  match j, hj with
  | 0, _ | 1, _ | 2, _ | 3, _ | 4, _ | 5, _ | 6, _ | 7, _ | 8, _ | 9, _ | 10, _ => rfl
 have e2 := xGi (l := dF ρ N) hf (by rw [zOe]; exact h2) (by rw [zOe]; exact h3) hres
 rcases e2 with e2 | e2
 ·refine ⟨zZJ (gFl .ret), zGR (fun f g h => zDB (zL5 hf) f g h) xFZ (xBm hf (by simp) h1 e2), ?_⟩
  rw [zXP];exact ⟨_, rfl, ⟨(by show _ = _; kernel_rfl), (by show _ = _; kernel_rfl), (by show _ = _; kernel_rfl), (by show _ = _; kernel_rfl), (by show _ = _; kernel_rfl), (by show _ = _; kernel_rfl), (by show _ = _; kernel_rfl), (by show _ = _; kernel_rfl), (by show _ = _; kernel_rfl), (by show _ = _; kernel_rfl), (by show _ = _; kernel_rfl), (by show _ = _; kernel_rfl), (by show _ = _; kernel_rfl), trivial⟩⟩
 ·refine ⟨zZJ (gFl (.exit 0)), zGR (fun f g h => zDB (zL5 hf) f g h) xFZ (xBm hf (by simp) h1 e2), ?_⟩
  rw [zXQ];exact ⟨_, rfl, ⟨(by show _ = _; kernel_rfl), (by show _ = _; kernel_rfl), (by show _ = _; kernel_rfl), (by show _ = _; kernel_rfl), (by show _ = _; kernel_rfl), (by show _ = _; kernel_rfl), (by show _ = _; kernel_rfl), (by show _ = _; kernel_rfl), (by show _ = _; kernel_rfl), (by show _ = _; kernel_rfl), (by show _ = _; kernel_rfl), (by show _ = _; kernel_rfl), (by show _ = _; kernel_rfl), trivial⟩⟩
end
end Go.Proofs.YtenkabjkgngcdaaGreat.Ab
