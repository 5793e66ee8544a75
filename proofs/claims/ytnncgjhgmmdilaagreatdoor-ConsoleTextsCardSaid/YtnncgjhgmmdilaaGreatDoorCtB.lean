/-
  ConsoleTexts: the rounds of its functions' loops, in plain terms.
  Conditions: as each theorem tells.
-/
import Derived.Test.YtnncgjhgmmdilaaGreatDoorCtT
import Derived.Test.YtnncgjhgmmdilaaGreatDoorCnd
namespace Go.Proofs.YtnncgjhgmmdilaaGreatDoor.Ab
set_option linter.unusedSimpArgs false
set_option linter.unusedVariables false
open Go Go.Proofs.YtnncgjhgmmdilaaGreatDoor
set_option linter.unusedSectionVars false
set_option linter.unusedVariables false
noncomputable section
def fnCt (f : Nat) (d : Dat) : Dat := match f with
  | 0 => .dI (undig (UInt8.ofNat d.asI.toNat))
  | _ => .dI 0
abbrev rhoT (s : List UInt8) (i : Int) (d : Dat) (r : List UInt8) : Rho := ⟨fun n => [Dat.dS s, .dI i, d, .dS r].getD n (.dI 0), fnCt⟩
def rowsB (l : List UInt8) : List (List Dat) := l.map fun b => [.dI (b.toNat : Int)]
theorem rowsB_app (a b : List UInt8) : rowsB (a ++ b) = rowsB a ++ rowsB b := List.map_append
theorem rowsB_len (a : List UInt8) : (rowsB a).length = a.length := List.length_map _
theorem flat_rows (a : List UInt8) : ((rowsB a).map fun r : List Dat => UInt8.ofNat (r.getD 0 (.dI 0)).asI.toNat) = a := by
  unfold rowsB
  rw [List.map_map]
  conv => rhs; rw [← List.map_id a]
  refine List.map_congr_left fun b _ => ?_
  show UInt8.ofNat ((b.toNat : Int)).toNat = b
  simp
/-! ### octets -/
theorem o_shr (n : Fin 256) : (iop .shr .u8 (n.val : Int) 4).asI = ((n.val / 16 : Nat) : Int) := by revert n; decide +kernel
theorem o_and (n : Fin 256) : (iop .and .u8 (n.val : Int) 15).asI = ((n.val % 16 : Nat) : Int) := by revert n; decide +kernel
theorem o_quo (n : Fin 256) : (iop .quo .u8 (n.val : Int) 16).asI = ((n.val / 16 : Nat) : Int) := by revert n; decide +kernel
theorem o_rem (n : Fin 256) : (iop .rem .u8 (n.val : Int) 16).asI = ((n.val % 16 : Nat) : Int) := by revert n; decide +kernel
theorem o_add (n : Fin 16) : (iop .add .u8 (n.val : Int) 1).asI = ((n.val + 1 : Nat) : Int) := by revert n; decide +kernel
theorem o_cut (n : Fin 16) : cutS digL (n.val : Int) ((n.val + 1 : Nat) : Int) = [dig n.val] := by revert n; decide +kernel
theorem o_join (h l : Fin 16) : IntKind.u8.wrap (iop .or .i64 (iop .shl .i64 (h.val : Int) 4).asI (l.val : Int)).asI = ((16 * h.val + l.val : Nat) : Int) := by revert h l; decide +kernel
theorem o_mul (h l : Fin 16) : IntKind.u8.wrap (iop .add .i64 (iop .mul .i64 16 (h.val : Int)).asI (l.val : Int)).asI = ((16 * h.val + l.val : Nat) : Int) := by revert h l; decide +kernel
theorem wadd (n m : Nat) (h : n + m ≤ 1000000) : (iop .add .i64 (n : Int) (m : Int)).asI = ((n + m : Nat) : Int) := by
  show IntKind.i64.wrap ((n : Int) + m) = _
  rw [show IntKind.i64.wrap ((n : Int) + m) = (n : Int) + m by simp [IntKind.wrap, IntKind.bits, IntKind.signed]; omega]; omega
abbrev oc (s : List UInt8) (i : Nat) : Fin 256 := ⟨(s.getD i 0).toNat, (s.getD i 0).toNat_lt⟩
theorem take_two {s : List UInt8} {k : Nat} (h : k < s.length) : (s.take (k + 1)).flatMap two = (s.take k).flatMap two ++ two (s.getD k 0) := by
  rw [take_getD s 0 k h, List.flatMap_append]; simp
theorem two_len (l : List UInt8) : (l.flatMap two).length = 2 * l.length := by
  induction l with
  | nil => rfl
  | cons b l ih => simp only [List.flatMap_cons, List.length_append, List.length_cons, ih, two, List.length_nil]; omega
/-! ### the document's Bytes -/
abbrev rhoRB (s : List UInt8) (k : Nat) : Rho := rhoT s k (.dS (61 :: (s.take k).flatMap two)) []
theorem rRB_step {s : List UInt8} (hs : s.length ≤ 100000) {k : Nat} (hk : k < s.length) : ∃ es, @Tree.sel _ (rhoRB s k) rRB = some (.normal, some es) ∧ EqsOk (rhoRB s (k + 1)) (rhoRB s k) es := by
  have hl := two_len (s.take k)
  rw [List.length_take] at hl
  letI ρ : Rho := rhoRB s k
  have d1 : (vt 1).den.asI = (k : Int) := rfl
  have d0 : (Tm.len (vt 0)).den.asI = (s.length : Int) := rfl
  have hc : (Tm.at (vt 0) (vt 1)).den.asI = ((oc s k).val : Int) := rfl
  have hq : (Tm.ib .quo .u8 (.at (vt 0) (vt 1)) (.ci 16)).den.asI = (((oc s k).val / 16 : Nat) : Int) := o_quo (oc s k)
  have hr : (Tm.ib .rem .u8 (.at (vt 0) (vt 1)) (.ci 16)).den.asI = (((oc s k).val % 16 : Nat) : Int) := o_rem (oc s k)
  have bq : (oc s k).val / 16 < 16 := by have := (oc s k).isLt; omega
  have br : (oc s k).val % 16 < 16 := by omega
  have hq1 : (Tm.ib .add .u8 (.ib .quo .u8 (.at (vt 0) (vt 1)) (.ci 16)) (.ci 1)).den.asI = (((oc s k).val / 16 + 1 : Nat) : Int) := by
    show (iop .add .u8 (Tm.ib .quo .u8 (.at (vt 0) (vt 1)) (.ci 16)).den.asI 1).asI = _
    rw [hq]; exact o_add ⟨_, bq⟩
  have hr1 : (Tm.ib .add .u8 (.ib .rem .u8 (.at (vt 0) (vt 1)) (.ci 16)) (.ci 1)).den.asI = (((oc s k).val % 16 + 1 : Nat) : Int) := by
    show (iop .add .u8 (Tm.ib .rem .u8 (.at (vt 0) (vt 1)) (.ci 16)).den.asI 1).asI = _
    rw [hr]; exact o_add ⟨_, br⟩
  have c5 : rRB_5.den.asS = [dig ((oc s k).val / 16)] := by
    show cutS digL (Tm.ib .quo .u8 (.at (vt 0) (vt 1)) (.ci 16)).den.asI (Tm.ib .add .u8 (.ib .quo .u8 (.at (vt 0) (vt 1)) (.ci 16)) (.ci 1)).den.asI = _
    rw [hq, hq1]; exact o_cut ⟨_, bq⟩
  have c10 : rRB_10.den.asS = [dig ((oc s k).val % 16)] := by
    show cutS digL (Tm.ib .rem .u8 (.at (vt 0) (vt 1)) (.ci 16)).den.asI (Tm.ib .add .u8 (.ib .rem .u8 (.at (vt 0) (vt 1)) (.ci 16)) (.ci 1)).den.asI = _
    rw [hr, hr1]; exact o_cut ⟨_, br⟩
  have l6 : (Tm.plus (.len (vt 2)) (.len rRB_5)).den.asI = ((2 + 2 * min k s.length : Nat) : Int) := by
    show ((61 :: (s.take k).flatMap two).length : Int) + (rRB_5.den.asS.length : Int) = _
    rw [c5, List.length_cons, hl]; simp; omega
  have l11 : (Tm.plus (.len (.sb .add (vt 2) rRB_5)) (.len rRB_10)).den.asI = ((3 + 2 * min k s.length : Nat) : Int) := by
    show (((61 :: (s.take k).flatMap two) ++ rRB_5.den.asS).length : Int) + (rRB_10.den.asS.length : Int) = _
    rw [c5, c10, List.length_append, List.length_cons, hl]; simp; omega
  unfold rRB
  refine ⟨_, selT (lss_T (by rw [d1, d0]; omega)) (selT (and_T (leq_T (by rw [ci_asI, d1]; omega)) (lss_T (by rw [d1, d0]; omega))) (selT (and_T (and_T (leq_T (by rw [ci_asI, hq]; omega)) (leq_T (by rw [hq, hq1]; omega))) (leq_T (by rw [hq1, ci_asI]; omega))) (selT (leq_T (by rw [l6, ci_asI]; omega))
    (selT (and_T (and_T (leq_T (by rw [ci_asI, hr]; omega)) (leq_T (by rw [hr, hr1]; omega))) (leq_T (by rw [hr1, ci_asI]; omega))) (selT (leq_T (by rw [l11, ci_asI]; omega)) rfl))))), ?_, ?_, trivial⟩
  · show ((k + 1 : Nat) : Int) = (iop .add .i64 (k : Int) 1).asI
    exact (wadd k 1 (by omega)).symm
  · show 61 :: (s.take (k + 1)).flatMap two = (61 :: (s.take k).flatMap two) ++ rRB_5.den.asS ++ rRB_10.den.asS
    rw [c5, c10, take_two hk]; simp [two]
theorem rRB_last {s : List UInt8} : ∃ es, @Tree.sel _ (rhoRB s s.length) rRB = some (.exit 0, some es) ∧ EqsOk (rhoRB s s.length) (rhoRB s s.length) es := by
  letI ρ : Rho := rhoRB s s.length
  have d1 : (vt 1).den.asI = (s.length : Int) := rfl
  have d0 : (Tm.len (vt 0)).den.asI = (s.length : Int) := rfl
  unfold rRB
  exact ⟨_, selF (lss_F (by rw [d1, d0]; omega)) rfl, rfl, trivial⟩
/-! ### the program's Bytes -/
abbrev rhoCB (s : List UInt8) (k : Nat) : Rho := rhoT s ((k + 1 : Nat) : Int) (.dL (rowsB (61 :: (s.take (k + 1)).flatMap two))) []
theorem rCB_step {s : List UInt8} (hs : s.length ≤ 100000) {k : Nat} (hk : k + 1 < s.length) : ∃ es, @Tree.sel _ (rhoCB s k) rCB = some (.normal, some es) ∧ EqsOk (rhoCB s (k + 1)) (rhoCB s k) es := by
  have hl := two_len (s.take (k + 1))
  rw [List.length_take] at hl
  letI ρ : Rho := rhoCB s k
  have d1 : (vt 1).den.asI = ((k + 1 : Nat) : Int) := rfl
  have d0 : (Tm.len (vt 0)).den.asI = (s.length : Int) := rfl
  have hq : (Tm.ib .shr .u8 (.at (vt 0) (vt 1)) (.ci 4)).den.asI = (((oc s (k + 1)).val / 16 : Nat) : Int) := o_shr (oc s (k + 1))
  have hr : (Tm.ib .and .u8 (.at (vt 0) (vt 1)) (.ci 15)).den.asI = (((oc s (k + 1)).val % 16 : Nat) : Int) := o_and (oc s (k + 1))
  have bq : (oc s (k + 1)).val / 16 < 16 := by have := (oc s (k + 1)).isLt; omega
  have br : (oc s (k + 1)).val % 16 < 16 := by omega
  have d2 : (Tm.llen (vt 2)).den.asI = ((1 + 2 * min (k + 1) s.length : Nat) : Int) := by
    show ((rowsB (61 :: (s.take (k + 1)).flatMap two)).length : Int) = _
    rw [rowsB_len, List.length_cons, hl]; omega
  have e4 : rCB_4.den.asL = rowsB (two (s.getD (k + 1) 0)) := by
    show [[Dat.dI (octAt digL (Tm.ib .shr .u8 (.at (vt 0) (vt 1)) (.ci 4)).den.asI.toNat)]] ++ [[Dat.dI (octAt digL (Tm.ib .and .u8 (.at (vt 0) (vt 1)) (.ci 15)).den.asI.toNat)]] = _
    rw [hq, hr, Int.toNat_natCast, Int.toNat_natCast]
    rfl
  have e5 : (Tm.lapp (vt 2) rCB_4).den.asL = rowsB (61 :: (s.take (k + 1 + 1)).flatMap two) := by
    show rowsB (61 :: (s.take (k + 1)).flatMap two) ++ rCB_4.den.asL = _
    rw [e4, ← rowsB_app, take_two hk]; rfl
  unfold rCB
  refine ⟨_, selT (lss_T (by rw [d1, d0]; omega)) (selT (and_T (leq_T (by rw [ci_asI, d1]; omega)) (lss_T (by rw [d1, d0]; omega))) (selT (and_T (leq_T (by rw [ci_asI, hq]; omega)) (lss_T (by rw [hq, ci_asI]; omega)))
    (selT (and_T (leq_T (by rw [ci_asI, hr]; omega)) (lss_T (by rw [hr, ci_asI]; omega))) (selT (lss_T (by rw [d2, ci_asI]; omega)) rfl)))), ?_, ?_, ?_, trivial⟩
  · show ((k + 1 + 1 : Nat) : Int) = (iop .add .i64 ((k + 1 : Nat) : Int) 1).asI
    exact (wadd (k + 1) 1 (by omega)).symm
  · show ((rowsB (61 :: (s.take (k + 1 + 1)).flatMap two)).length : Int) = ((Tm.lapp (vt 2) rCB_4).den.asL.length : Int)
    rw [e5]
  · show rowsB (61 :: (s.take (k + 1 + 1)).flatMap two) = (Tm.lapp (vt 2) rCB_4).den.asL
    rw [e5]
theorem rCB_last {s : List UInt8} {k : Nat} (hk : k + 1 = s.length) : ∃ es, @Tree.sel _ (rhoCB s k) rCB = some (.exit 0, some es) ∧ EqsOk (rhoCB s k) (rhoCB s k) es := by
  letI ρ : Rho := rhoCB s k
  have d1 : (vt 1).den.asI = ((k + 1 : Nat) : Int) := rfl
  have d0 : (Tm.len (vt 0)).den.asI = (s.length : Int) := rfl
  unfold rCB
  exact ⟨_, selF (lss_F (by rw [d1, d0]; omega)) rfl, rfl, rfl, trivial⟩
end
end Go.Proofs.YtnncgjhgmmdilaaGreatDoor.Ab
