/-
  ConsoleTexts: the rounds of the loops of both Text, in plain terms.
  Conditions: as each theorem tells.
-/
import Derived.Test.YtnncgjhgmmdilaaGreatDoorCtB
namespace Go.Proofs.YtnncgjhgmmdilaaGreatDoor.Ab
set_option linter.unusedSimpArgs false
set_option linter.unusedVariables false
open Go Go.Proofs.YtnncgjhgmmdilaaGreatDoor
set_option linter.unusedSectionVars false
set_option linter.unusedVariables false
noncomputable section
/-! ### plain -/
def bad2 (r : List UInt8) (j : Nat) : Prop := undig (r.getD (2 * j) 0) < 0 ∨ undig (r.getD (2 * j + 1) 0) < 0
def decL (r : List UInt8) (n : Nat) : List UInt8 := (List.range n).map fun j => join2 (r.getD (2 * j) 0) (r.getD (2 * j + 1) 0)
theorem decL_succ (r : List UInt8) (n : Nat) : decL r (n + 1) = decL r n ++ [join2 (r.getD (2 * n) 0) (r.getD (2 * n + 1) 0)] := by
  unfold decL
  rw [List.range_succ, List.map_append]; rfl
theorem decL_len (r : List UInt8) (n : Nat) : (decL r n).length = n := by simp [decL]
theorem decL_cons (c d : UInt8) (r : List UInt8) (n : Nat) : decL (c :: d :: r) (n + 1) = join2 c d :: decL r n := by
  unfold decL
  rw [List.range_succ_eq_map, List.map_cons, List.map_map]
  congr 1
theorem bad2_cons (c d : UInt8) (r : List UInt8) (j : Nat) : bad2 (c :: d :: r) (j + 1) ↔ bad2 r j := Iff.rfl
theorem pairs_dec : ∀ (n : Nat) (r : List UInt8), r.length = 2 * n → (∀ j, j < n → ¬ bad2 r j) → pairsL r = some (decL r n)
  | 0, [], _, _ => rfl
  | 0, _ :: _, h, _ => by simp at h
  | n + 1, [], h, _ => by simp at h
  | n + 1, [_], h, _ => by simp at h; omega
  | n + 1, c :: d :: r, h, hg => by
    rw [pairsL, if_neg (show ¬ (undig c < 0 ∨ undig d < 0) from hg 0 (by omega)), pairs_dec n r (by simp only [List.length_cons] at h; omega) (fun j hj => hg (j + 1) (by omega)), decL_cons]; rfl
theorem pairs_bad : ∀ (n : Nat) (r : List UInt8), r.length = 2 * n → ∀ j, j < n → bad2 r j → pairsL r = none
  | 0, _, _, j, hj, _ => by omega
  | n + 1, [], h, _, _, _ => by simp at h
  | n + 1, [_], h, _, _, _ => by simp at h; omega
  | n + 1, c :: d :: r, h, 0, _, hb => by rw [pairsL, if_pos (show undig c < 0 ∨ undig d < 0 from hb)]
  | n + 1, c :: d :: r, h, j + 1, hj, hb => by
    rw [pairsL, pairs_bad n r (by simp only [List.length_cons] at h; omega) j (by omega) hb]
    split <;> rfl
theorem join_val {h l : UInt8} (hh : ¬ undig h < 0) (hl : ¬ undig l < 0) : ((join2 h l).toNat : Int) = 16 * undig h + undig l := by
  have b1 := undig_bd h
  have b2 := undig_bd l
  unfold join2
  rw [UInt8.toNat_ofNat']
  omega
theorem z_or {a b : Int} (a0 : 0 ≤ a) (a1 : a ≤ 15) (b0 : 0 ≤ b) (b1 : b ≤ 15) : IntKind.u8.wrap (iop .or .i64 (iop .shl .i64 a 4).asI b).asI = 16 * a + b := by
  have := o_join ⟨a.toNat, by omega⟩ ⟨b.toNat, by omega⟩
  simp only [Int.toNat_of_nonneg a0, Int.toNat_of_nonneg b0] at this
  rw [this]; omega
theorem z_mul {a b : Int} (a0 : 0 ≤ a) (a1 : a ≤ 15) (b0 : 0 ≤ b) (b1 : b ≤ 15) : IntKind.u8.wrap (iop .add .i64 (iop .mul .i64 16 a).asI b).asI = 16 * a + b := by
  have := o_mul ⟨a.toNat, by omega⟩ ⟨b.toNat, by omega⟩
  simp only [Int.toNat_of_nonneg a0, Int.toNat_of_nonneg b0] at this
  rw [this]; omega
theorem fn_undig (c : UInt8) : (fnCt 0 (.dI (c.toNat : Int))).asI = undig c := by
  show undig (UInt8.ofNat ((c.toNat : Int)).toNat) = _
  simp
/-! ### the program's Text -/
abbrev rhoCT (s r : List UInt8) (k : Nat) : Rho := rhoT s ((2 * k : Nat) : Int) (.dL (rowsB (decL r k))) r
section
variable {s r : List UInt8} {k : Nat}
theorem ct_facts (hr : r.length ≤ 100000) (hk : 2 * k + 1 < r.length) : letI : Rho := rhoCT s r k
    (vt 1).den.asI = ((2 * k : Nat) : Int) ∧ (Tm.len (vt 3)).den.asI = (r.length : Int) ∧ (Tm.ib .add .i64 (vt 1) (.ci 1)).den.asI = ((2 * k + 1 : Nat) : Int) ∧
    (Tm.at (vt 3) (vt 1)).den.asI = ((r.getD (2 * k) 0).toNat : Int) ∧ (Tm.at (vt 3) (.ib .add .i64 (vt 1) (.ci 1))).den.asI = ((r.getD (2 * k + 1) 0).toNat : Int) ∧
    (Tm.app 0 (.at (vt 3) (vt 1))).den.asI = undig (r.getD (2 * k) 0) ∧ (Tm.app 0 (.at (vt 3) (.ib .add .i64 (vt 1) (.ci 1)))).den.asI = undig (r.getD (2 * k + 1) 0) := by
  letI ρ : Rho := rhoCT s r k
  have h2 : (Tm.ib .add .i64 (vt 1) (.ci 1)).den.asI = ((2 * k + 1 : Nat) : Int) := wadd (2 * k) 1 (by omega)
  have h4 : (Tm.at (vt 3) (.ib .add .i64 (vt 1) (.ci 1))).den = .dI ((r.getD (2 * k + 1) 0).toNat : Int) := by
    show Dat.dI (octAt r (Tm.ib .add .i64 (vt 1) (.ci 1)).den.asI.toNat) = _
    rw [h2]; rfl
  refine ⟨rfl, rfl, h2, rfl, by rw [h4]; rfl, fn_undig _, ?_⟩
  show (fnCt 0 (Tm.at (vt 3) (.ib .add .i64 (vt 1) (.ci 1))).den).asI = _
  rw [h4]; exact fn_undig _
theorem rCT_step (hr : r.length ≤ 100000) (hk : 2 * k + 1 < r.length) (hg : ¬ bad2 r k) : ∃ es, (@Tree.sel _ (rhoCT s r k) rCT = some (.normal, some es) ∧ @Tree.sel _ (rhoCT s r k) rCTr = some (.normal, some es)) ∧ EqsOk (rhoCT s r (k + 1)) (rhoCT s r k) es := by
  obtain ⟨d1, d3, d2, c1, c2, u1, u2⟩ := ct_facts (s := s) hr hk
  have l1 := (r.getD (2 * k) 0).toNat_lt
  have l2 := (r.getD (2 * k + 1) 0).toNat_lt
  have g1 : ¬ undig (r.getD (2 * k) 0) < 0 := fun h => hg (.inl h)
  have g2 : ¬ undig (r.getD (2 * k + 1) 0) < 0 := fun h => hg (.inr h)
  have b1 := undig_bd (r.getD (2 * k) 0)
  have b2 := undig_bd (r.getD (2 * k + 1) 0)
  letI ρ : Rho := rhoCT s r k
  have dl : (Tm.llen (vt 2)).den.asI = (k : Int) := by
    show ((rowsB (decL r k)).length : Int) = _
    rw [rowsB_len, decL_len]
  have hw : (Tm.wrap .u8 rCT_5).den.asI = ((join2 (r.getD (2 * k) 0) (r.getD (2 * k + 1) 0)).toNat : Int) := by
    show IntKind.u8.wrap (iop .or .i64 (iop .shl .i64 (Tm.app 0 (.at (vt 3) (vt 1))).den.asI 4).asI (Tm.app 0 (.at (vt 3) (.ib .add .i64 (vt 1) (.ci 1)))).den.asI).asI = _
    rw [u1, u2, z_or (by omega) b1.2 (by omega) b2.2, join_val g1 g2]
  have e5 : (Tm.lapp (vt 2) (.row (tp [(.wrap .u8 rCT_5)]))).den.asL = rowsB (decL r (k + 1)) := by
    show rowsB (decL r k) ++ [[Dat.dI (Tm.wrap .u8 rCT_5).den.asI]] = _
    rw [hw, decL_succ, rowsB_app]; rfl
  unfold rCT rCTr
  refine ⟨_, ⟨selT (lss_T (by rw [d1, d3]; omega)) (selT (and_T (leq_T (by rw [ci_asI, d1]; omega)) (lss_T (by rw [d1, d3]; omega))) (selT (and_T (leq_T (by rw [ci_asI, c1]; omega)) (leq_T (by rw [c1, ci_asI]; omega)))
    (selT (and_T (leq_T (by rw [ci_asI, d2]; omega)) (lss_T (by rw [d2, d3]; omega))) (selT (and_T (leq_T (by rw [ci_asI, c2]; omega)) (leq_T (by rw [c2, ci_asI]; omega))) (selF (lss_F (by rw [u1, ci_asI]; exact g1)) (selF (lss_F (by rw [u2, ci_asI]; exact g2)) (selT (lss_T (by rw [dl, ci_asI]; omega)) rfl))))))),
    selT (lss_T (by rw [d1, d3]; omega)) (selT (and_T (leq_T (by rw [ci_asI, d1]; omega)) (lss_T (by rw [d1, d3]; omega))) (selT (and_T (leq_T (by rw [ci_asI, c1]; omega)) (leq_T (by rw [c1, ci_asI]; omega)))
    (selT (and_T (leq_T (by rw [ci_asI, d2]; omega)) (lss_T (by rw [d2, d3]; omega))) (selT (and_T (leq_T (by rw [ci_asI, c2]; omega)) (leq_T (by rw [c2, ci_asI]; omega))) (selF (lss_F (by rw [u1, ci_asI]; exact g1)) (selF (lss_F (by rw [u2, ci_asI]; exact g2)) (selT (lss_T (by rw [dl, ci_asI]; omega)) rfl)))))))⟩, ?_, ?_, rfl, ?_, trivial⟩
  · show ((2 * (k + 1) : Nat) : Int) = (iop .add .i64 ((2 * k : Nat) : Int) 2).asI
    exact (wadd (2 * k) 2 (by omega)).symm
  · show ((rowsB (decL r (k + 1))).length : Int) = ((Tm.lapp (vt 2) (.row (tp [(.wrap .u8 rCT_5)]))).den.asL.length : Int)
    rw [e5]
  · show rowsB (decL r (k + 1)) = (Tm.lapp (vt 2) (.row (tp [(.wrap .u8 rCT_5)]))).den.asL
    rw [e5]
theorem rCT_last (hk : 2 * k = r.length) : ∃ es, @Tree.sel _ (rhoCT s r k) rCT = some (.exit 0, some es) ∧ EqsOk (rhoCT s r k) (rhoCT s r k) es := by
  letI ρ : Rho := rhoCT s r k
  have d1 : (vt 1).den.asI = ((2 * k : Nat) : Int) := rfl
  have d3 : (Tm.len (vt 3)).den.asI = (r.length : Int) := rfl
  unfold rCT
  exact ⟨_, selF (lss_F (by rw [d1, d3]; omega)) rfl, rfl, rfl, trivial⟩
theorem rCTr_last (hr : r.length ≤ 100000) (hk : 2 * k + 1 < r.length) (hb : bad2 r k) : ∃ es, @Tree.sel _ (rhoCT s r k) rCTr = some (.ret, some es) ∧ EqsOk (rhoCT s r k) (rhoCT s r k) es := by
  obtain ⟨d1, d3, d2, c1, c2, u1, u2⟩ := ct_facts (s := s) hr hk
  have l1 := (r.getD (2 * k) 0).toNat_lt
  have l2 := (r.getD (2 * k + 1) 0).toNat_lt
  letI ρ : Rho := rhoCT s r k
  unfold rCTr
  refine ⟨[], selT (lss_T (by rw [d1, d3]; omega)) (selT (and_T (leq_T (by rw [ci_asI, d1]; omega)) (lss_T (by rw [d1, d3]; omega))) (selT (and_T (leq_T (by rw [ci_asI, c1]; omega)) (leq_T (by rw [c1, ci_asI]; omega)))
    (selT (and_T (leq_T (by rw [ci_asI, d2]; omega)) (lss_T (by rw [d2, d3]; omega))) (selT (and_T (leq_T (by rw [ci_asI, c2]; omega)) (leq_T (by rw [c2, ci_asI]; omega))) ?_)))), trivial⟩
  by_cases h1 : undig (r.getD (2 * k) 0) < 0
  · exact selT (lss_T (by rw [u1, ci_asI]; exact h1)) rfl
  · exact selF (lss_F (by rw [u1, ci_asI]; exact h1)) (selT (lss_T (by rw [u2, ci_asI]; exact hb.resolve_left h1)) rfl)
end
/-! ### the document's Text -/
/-- Rows; none of them: as a nil slice is taken. -/
def rowD : List UInt8 → Dat
  | [] => .dB false
  | b :: l => .dL (rowsB (b :: l))
theorem rowD_asL : ∀ l : List UInt8, (rowD l).asL = rowsB l
  | [] => rfl
  | _ :: _ => rfl
abbrev rhoRT (r : List UInt8) (k : Nat) : Rho := rhoT (61 :: r) ((1 + 2 * k : Nat) : Int) (rowD (decL r k)) []
section
variable {r : List UInt8} {k : Nat}
theorem rt_facts (hr : r.length ≤ 100000) (hk : 2 * k + 1 < r.length) : letI : Rho := rhoRT r k
    (vt 1).den.asI = ((1 + 2 * k : Nat) : Int) ∧ (Tm.len (vt 0)).den.asI = ((r.length + 1 : Nat) : Int) ∧ (Tm.ib .add .i64 (vt 1) (.ci 1)).den.asI = ((1 + 2 * k + 1 : Nat) : Int) ∧
    (Tm.at (vt 0) (vt 1)).den.asI = ((r.getD (2 * k) 0).toNat : Int) ∧ (Tm.at (vt 0) (.ib .add .i64 (vt 1) (.ci 1))).den.asI = ((r.getD (2 * k + 1) 0).toNat : Int) ∧
    (Tm.app 0 (.at (vt 0) (vt 1))).den.asI = undig (r.getD (2 * k) 0) ∧ (Tm.app 0 (.at (vt 0) (.ib .add .i64 (vt 1) (.ci 1)))).den.asI = undig (r.getD (2 * k + 1) 0) := by
  letI ρ : Rho := rhoRT r k
  have h2 : (Tm.ib .add .i64 (vt 1) (.ci 1)).den.asI = ((1 + 2 * k + 1 : Nat) : Int) := wadd (1 + 2 * k) 1 (by omega)
  have h3 : (Tm.at (vt 0) (vt 1)).den = .dI ((r.getD (2 * k) 0).toNat : Int) := by
    show Dat.dI (octAt (61 :: r) (1 + 2 * k)) = _
    rw [Nat.add_comm 1 (2 * k)]; rfl
  have h4 : (Tm.at (vt 0) (.ib .add .i64 (vt 1) (.ci 1))).den = .dI ((r.getD (2 * k + 1) 0).toNat : Int) := by
    show Dat.dI (octAt (61 :: r) (Tm.ib .add .i64 (vt 1) (.ci 1)).den.asI.toNat) = _
    rw [h2, Int.toNat_natCast, show 1 + 2 * k + 1 = 2 * k + 1 + 1 by omega]; rfl
  refine ⟨rfl, rfl, h2, by rw [h3]; rfl, by rw [h4]; rfl, ?_, ?_⟩
  · show (fnCt 0 (Tm.at (vt 0) (vt 1)).den).asI = _
    rw [h3]; exact fn_undig _
  · show (fnCt 0 (Tm.at (vt 0) (.ib .add .i64 (vt 1) (.ci 1))).den).asI = _
    rw [h4]; exact fn_undig _
theorem rRT_step (hr : r.length ≤ 100000) (hk : 2 * k + 1 < r.length) (hg : ¬ bad2 r k) : ∃ es, (@Tree.sel _ (rhoRT r k) rRT = some (.normal, some es) ∧ @Tree.sel _ (rhoRT r k) rRTr = some (.normal, some es)) ∧ EqsOk (rhoRT r (k + 1)) (rhoRT r k) es := by
  obtain ⟨d1, d3, d2, c1, c2, u1, u2⟩ := rt_facts hr hk
  have l1 := (r.getD (2 * k) 0).toNat_lt
  have l2 := (r.getD (2 * k + 1) 0).toNat_lt
  have g1 : ¬ undig (r.getD (2 * k) 0) < 0 := fun h => hg (.inl h)
  have g2 : ¬ undig (r.getD (2 * k + 1) 0) < 0 := fun h => hg (.inr h)
  have b1 := undig_bd (r.getD (2 * k) 0)
  have b2 := undig_bd (r.getD (2 * k + 1) 0)
  letI ρ : Rho := rhoRT r k
  have dl : (Tm.llen (vt 2)).den.asI = (k : Int) := by
    show ((rowD (decL r k)).asL.length : Int) = _
    rw [rowD_asL, rowsB_len, decL_len]
  have hw : (Tm.wrap .u8 rRT_5).den.asI = ((join2 (r.getD (2 * k) 0) (r.getD (2 * k + 1) 0)).toNat : Int) := by
    show IntKind.u8.wrap (iop .add .i64 (iop .mul .i64 16 (Tm.app 0 (.at (vt 0) (vt 1))).den.asI).asI (Tm.app 0 (.at (vt 0) (.ib .add .i64 (vt 1) (.ci 1)))).den.asI).asI = _
    rw [u1, u2, z_mul (by omega) b1.2 (by omega) b2.2, join_val g1 g2]
  have e5 : (Tm.lapp (vt 2) (.row (tp [(.wrap .u8 rRT_5)]))).den.asL = rowsB (decL r (k + 1)) := by
    show (rowD (decL r k)).asL ++ [[Dat.dI (Tm.wrap .u8 rRT_5).den.asI]] = _
    rw [rowD_asL, hw, decL_succ, rowsB_app]; rfl
  unfold rRT rRTr
  refine ⟨_, ⟨selT (lss_T (by rw [d1, d3]; omega)) (selT (and_T (leq_T (by rw [ci_asI, d1]; omega)) (lss_T (by rw [d1, d3]; omega))) (selT (and_T (leq_T (by rw [ci_asI, c1]; omega)) (leq_T (by rw [c1, ci_asI]; omega)))
    (selT (and_T (leq_T (by rw [ci_asI, d2]; omega)) (lss_T (by rw [d2, d3]; omega))) (selT (and_T (leq_T (by rw [ci_asI, c2]; omega)) (leq_T (by rw [c2, ci_asI]; omega))) (selF (lss_F (by rw [u1, ci_asI]; exact g1)) (selF (lss_F (by rw [u2, ci_asI]; exact g2)) (selT (lss_T (by rw [dl, ci_asI]; omega)) rfl))))))),
    selT (lss_T (by rw [d1, d3]; omega)) (selT (and_T (leq_T (by rw [ci_asI, d1]; omega)) (lss_T (by rw [d1, d3]; omega))) (selT (and_T (leq_T (by rw [ci_asI, c1]; omega)) (leq_T (by rw [c1, ci_asI]; omega)))
    (selT (and_T (leq_T (by rw [ci_asI, d2]; omega)) (lss_T (by rw [d2, d3]; omega))) (selT (and_T (leq_T (by rw [ci_asI, c2]; omega)) (leq_T (by rw [c2, ci_asI]; omega))) (selF (lss_F (by rw [u1, ci_asI]; exact g1)) (selF (lss_F (by rw [u2, ci_asI]; exact g2)) (selT (lss_T (by rw [dl, ci_asI]; omega)) rfl)))))))⟩, ?_, ?_, ?_, trivial⟩
  · show ((1 + 2 * (k + 1) : Nat) : Int) = (iop .add .i64 ((1 + 2 * k : Nat) : Int) 2).asI
    exact (wadd (1 + 2 * k) 2 (by omega)).symm
  · show ((rowD (decL r (k + 1))).asL.length : Int) = ((Tm.lapp (vt 2) (.row (tp [(.wrap .u8 rRT_5)]))).den.asL.length : Int)
    rw [rowD_asL, e5]
  · show (rowD (decL r (k + 1))).asL = (Tm.lapp (vt 2) (.row (tp [(.wrap .u8 rRT_5)]))).den.asL
    rw [rowD_asL, e5]
theorem rRT_last (hk : 2 * k = r.length) : ∃ es, @Tree.sel _ (rhoRT r k) rRT = some (.exit 0, some es) ∧ EqsOk (rhoRT r k) (rhoRT r k) es := by
  letI ρ : Rho := rhoRT r k
  have d1 : (vt 1).den.asI = ((1 + 2 * k : Nat) : Int) := rfl
  have d3 : (Tm.len (vt 0)).den.asI = ((r.length + 1 : Nat) : Int) := rfl
  unfold rRT
  exact ⟨_, selF (lss_F (by rw [d1, d3]; omega)) rfl, rfl, rfl, trivial⟩
theorem rRTr_last (hr : r.length ≤ 100000) (hk : 2 * k + 1 < r.length) (hb : bad2 r k) : ∃ es, @Tree.sel _ (rhoRT r k) rRTr = some (.ret, some es) ∧ EqsOk (rhoRT r k) (rhoRT r k) es := by
  obtain ⟨d1, d3, d2, c1, c2, u1, u2⟩ := rt_facts hr hk
  have l1 := (r.getD (2 * k) 0).toNat_lt
  have l2 := (r.getD (2 * k + 1) 0).toNat_lt
  letI ρ : Rho := rhoRT r k
  unfold rRTr
  refine ⟨[], selT (lss_T (by rw [d1, d3]; omega)) (selT (and_T (leq_T (by rw [ci_asI, d1]; omega)) (lss_T (by rw [d1, d3]; omega))) (selT (and_T (leq_T (by rw [ci_asI, c1]; omega)) (leq_T (by rw [c1, ci_asI]; omega)))
    (selT (and_T (leq_T (by rw [ci_asI, d2]; omega)) (lss_T (by rw [d2, d3]; omega))) (selT (and_T (leq_T (by rw [ci_asI, c2]; omega)) (leq_T (by rw [c2, ci_asI]; omega))) ?_)))), trivial⟩
  by_cases h1 : undig (r.getD (2 * k) 0) < 0
  · exact selT (lss_T (by rw [u1, ci_asI]; exact h1)) rfl
  · exact selF (lss_F (by rw [u1, ci_asI]; exact h1)) (selT (lss_T (by rw [u2, ci_asI]; exact hb.resolve_left h1)) rfl)
end
end
end Go.Proofs.YtnncgjhgmmdilaaGreatDoor.Ab
