import Derived.Test.YtenkabjkgngcdaaGreatKc4
set_option linter.unusedVariables false
set_option linter.unusedSimpArgs false
set_option linter.unusedSectionVars false
namespace Go.Proofs.YtenkabjkgngcdaaGreat.Ab
open Go
theorem zGb {i : FIn} {f : FSt} (h : ¬ f.len < i.k) : f.step i = (false, f, true) := by unfold FSt.step; rw [if_pos h]
theorem zCW {i : FIn} {f : FSt} (h : f.len < i.k) (ho : zDu f.owe i.tn i.room = true) : f.step i = (true, ({ f with owe := 0 } : FSt).push i (.dS (zAN f.owe)), zDj f) := by
 unfold FSt.step; rw [if_neg (fun g => g h), if_pos ho]
theorem zI5 {i : FIn} {f : FSt} (h : f.len < i.k) (ho : zDu f.owe i.tn i.room = false) (hm : i.may = true) (hp : f.pl > 0) : f.step i = (true, { (f.push i (partAt f)) with po := f.po + 1, pl := f.pl - 1 }, zDj f) := by
 unfold FSt.step; rw [if_neg (fun g => g h), if_neg (by rw [ho]; simp), if_pos ⟨hm, hp⟩]
theorem step_ret {i : FIn} {f : FSt} (h : f.len < i.k) (ho : zDu f.owe i.tn i.room = false) (hm : i.may = false) : f.step i = (false, f, true) := by
 unfold FSt.step; rw [if_neg (fun g => g h), if_neg (by rw [ho]; simp), if_neg (by rw [hm]; simp), if_pos hm]
def zCn (i : FIn) (f : FSt) : CutR := zAL f.pn f.qf f.qt i.qr i.n1 f.po f.pl f.pL
theorem zLB {i : FIn} {f : FSt} (h : f.len < i.k) (ho : zDu f.owe i.tn i.room = false) (hm : i.may = true) (hp : ¬ f.pl > 0) : f.step i = ((zCn i f).ok, { f with pn := (zCn i f).pn, qf := (zCn i f).qf, qt := (zCn i f).qt, po := (zCn i f).po, pl := (zCn i f).pl, pL := (zCn i f).pL }, decide (zJ6 f.qt f.pn i.n1)) := by
 unfold FSt.step; rw [if_neg (fun g => g h), if_neg (by rw [ho]; simp), if_neg (fun g => hp g.2), if_neg (by rw [hm]; simp)]; rfl
end Go.Proofs.YtenkabjkgngcdaaGreat.Ab
