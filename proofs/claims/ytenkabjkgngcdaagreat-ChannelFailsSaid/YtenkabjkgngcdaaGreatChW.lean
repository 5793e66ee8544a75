/-
  ChannelFails, called: it returns true and makes at most new blocks.
  Conditions: arguments as the model reads them.
-/
import Derived.Test.YtenkabjkgngcdaaGreatChS
import Derived.Test.YtenkabjkgngcdaaGreatChV
namespace Go.Proofs.YtenkabjkgngcdaaGreat.Ab
set_option linter.unusedSimpArgs false
set_option linter.unusedVariables false
open Go
set_option linter.unusedSectionVars false
noncomputable section
/-- The letters at the head of round k. -/
def valC (n2 t1 k : Nat) (j : Nat) : Dat := bif Nat.beq k 0 then [Dat.dI (n2 : Int), .dI (t1 : Int), .dI 0, .dI 0, .dI 0, .dI (t1 : Int), .dI 1, .dB true, .dI 1, .dB true, .dI 2, .dI 2, .dB true, .dI (n2 : Int)].getD j (.dI 0) else
  [Dat.dI (n2 : Int), .dI (t1 : Int), .dI (k : Int), .dI ((min ((k - 1) / t1) n2 + 1 : Nat) : Int), .dI ((min ((k - 1) / t1) n2 : Nat) : Int), .dI ((if k = (n2 + 1) * t1 + 1 then 0 else t1 - (k - 1) % t1 : Nat) : Int), .dI 0, .dB false, .dI 0, .dB false,
    .dI (if k = (n2 + 1) * t1 + 1 then 6 else 2), .dI (if k = (n2 + 1) * t1 + 1 then 5 else 2), .dB (decide (k ≠ (n2 + 1) * t1 + 1)), .dI (n2 : Int)].getD j (.dI 0)
abbrev rhoC (n2 t1 k : Nat) : Rho := ⟨valC n2 t1 k, fun _ d => d⟩
def sgC (i : Nat) : Option Tm := [none, none, some (Tm.ci 0), some (.ci 0), some (.ci 0), some (.wrap .i64 (vt 1)), some (.ci 1), some (.cb true), some (.ci 1), some (.cb true), some (.ci 2), some (.ci 2), some (.cb true),
  some (.ite (.ib .gtr .i64 (.ite (.ib .lss .i64 (.ci 255) (.wrap .i64 (vt 0))) (.ci 255) (.wrap .i64 (vt 0))) (.ci 0)) (.ite (.ib .lss .i64 (.ci 255) (.wrap .i64 (vt 0))) (.ci 255) (.wrap .i64 (vt 0))) (.ci 0))].getD i none
theorem w64s (n : Int) (h0 : 0 ≤ n) (h1 : n ≤ 1000000) : IntKind.i64.wrap n = n := by
  rw [IntKind.wrap_i64]; omega
theorem add1 (n : Nat) (h : n ≤ 10000) : (iop .add .i64 (n : Int) 1).asI = ((n + 1 : Nat) : Int) := by
  show IntKind.i64.wrap ((n : Int) + 1) = _
  rw [w64s _ (by omega) (by omega)]; omega
theorem sub1 (n : Nat) (h : n ≤ 10000) (h1 : 1 ≤ n) : (iop .sub .i64 (n : Int) 1).asI = ((n - 1 : Nat) : Int) := by
  show IntKind.i64.wrap ((n : Int) - 1) = _
  rw [w64s _ (by omega) (by omega)]; omega
theorem wn (n : Nat) (h : n ≤ 10000) : IntKind.i64.wrap (n : Int) = (n : Int) := w64s _ (by omega) (by omega)
section
variable {n2 t1 k : Nat}
theorem mBound (h2 : n2 ≤ 12) (h4 : t1 ≤ 12) : (n2 + 1) * t1 ≤ 156 := by
  have := Nat.mul_le_mul (show n2 + 1 ≤ 13 by omega) h4
  omega
theorem val0 (j : Nat) (h : j = 0 ∨ j = 1) : valC n2 t1 k j = if j = 0 then Dat.dI (n2 : Int) else .dI (t1 : Int) := by
  unfold valC
  cases Nat.beq k 0 <;> rcases h with rfl | rfl <;> rfl
theorem tMc_den (h2 : n2 ≤ 12) (h4 : t1 ≤ 12) : (@Tm.den (rhoC n2 t1 k) tMc).asI = (((n2 + 1) * t1 : Nat) : Int) := by
  have hb := mBound h2 h4
  show IntKind.i64.wrap ((iop .add .i64 (IntKind.i64.wrap (valC n2 t1 k 0).asI) 1).asI * IntKind.i64.wrap (valC n2 t1 k 1).asI) = _
  rw [val0 0 (.inl rfl), val0 1 (.inr rfl)]
  show IntKind.i64.wrap ((iop .add .i64 (IntKind.i64.wrap (n2 : Int)) 1).asI * IntKind.i64.wrap (t1 : Int)) = _
  rw [wn n2 (by omega), wn t1 (by omega), add1 n2 (by omega), ← Int.natCast_mul, wn _ (by omega)]
theorem nextDiv (h3 : 1 ≤ t1) : (k % t1 + 1 < t1 ∧ (k + 1) / t1 = k / t1 ∧ (k + 1) % t1 = k % t1 + 1) ∨ (k % t1 + 1 = t1 ∧ (k + 1) / t1 = k / t1 + 1 ∧ (k + 1) % t1 = 0) := by
  have e := Nat.div_add_mod k t1
  have hr := Nat.mod_lt k (show t1 > 0 by omega)
  rcases Nat.lt_or_ge (k % t1 + 1) t1 with h | h
  · refine .inl ⟨h, ?_, ?_⟩
    · rw [show k + 1 = (k % t1 + 1) + t1 * (k / t1) by omega, Nat.add_mul_div_left _ _ (by omega), Nat.div_eq_of_lt h, Nat.zero_add]
    · rw [show k + 1 = (k % t1 + 1) + t1 * (k / t1) by omega, Nat.add_mul_mod_self_left, Nat.mod_eq_of_lt h]
  · have h' : k % t1 + 1 = t1 := by omega
    refine .inr ⟨h', ?_, ?_⟩
    · rw [show k + 1 = t1 * (k / t1 + 1) by rw [Nat.mul_add, Nat.mul_one]; omega, Nat.mul_div_cancel_left _ (by omega)]
    · rw [show k + 1 = t1 * (k / t1 + 1) by rw [Nat.mul_add, Nat.mul_one]; omega, Nat.mul_mod_right]
theorem fcOk {ρ : Rho} {F : Fc} (h1 : ∀ p ∈ F.si, (ρ.val p.1).asI = p.2) (h2 : ∀ p ∈ F.sb, (ρ.val p.1).asB = p.2) (h3 : ∀ p ∈ F.tv, (@Tm.den ρ p.1).asB = p.2) (h4 : ∀ p ∈ F.rg, p.2.1 ≤ (@Tm.den ρ p.1).asI ∧ (@Tm.den ρ p.1).asI ≤ p.2.2) (h5 : F.ne = []) (h6 : F.bad = false) : @Fc.Ok ρ F :=
  ⟨h1, h2, h3, h4, fun p hp => (by rw [h5] at hp; cases hp), h6⟩
theorem roundC0 (h2 : n2 ≤ 12) (h3 : 1 ≤ t1) (h4 : t1 ≤ 12) : ∃ es, @Tree.sel _ (rhoC n2 t1 0) rtCh = some (.normal, some es) ∧ EqsOk (rhoC n2 t1 1) (rhoC n2 t1 0) es := by
  have hb := mBound h2 h4
  have hp : 1 ≤ (n2 + 1) * t1 := Nat.mul_pos (by omega) (by omega)
  refine to_ok chkA (fcOk ?_ ?_ ?_ ?_ rfl rfl) ?_ ?_
  · intro p hp
    simp only [FA, List.mem_cons, List.not_mem_nil, or_false] at hp
    rcases hp with rfl | rfl | rfl | rfl | rfl | rfl <;> rfl
  · intro p hp
    simp only [FA, List.mem_cons, List.not_mem_nil, or_false] at hp
    rcases hp with rfl | rfl <;> rfl
  · intro p hp; cases hp
  · intro p hp
    simp only [FA, List.mem_cons, List.not_mem_nil, or_false] at hp
    subst hp
    show 1 ≤ (@Tm.den (rhoC n2 t1 0) tMc).asI ∧ (@Tm.den (rhoC n2 t1 0) tMc).asI ≤ 156
    rw [tMc_den h2 h4]; omega
  · intro n t ht
    match n, ht with
    | 2, ht => cases ht; exact ⟨rfl, rfl⟩
    | 3, ht =>
      cases ht
      refine ⟨?_, rfl⟩
      show ((min (0 / t1) n2 + 1 : Nat) : Int) = 1
      rw [Nat.zero_div, Nat.zero_min]; rfl
    | 6, ht => cases ht; exact ⟨rfl, rfl⟩
    | 7, ht => cases ht; exact ⟨rfl, rfl⟩
    | 8, ht => cases ht; exact ⟨rfl, rfl⟩
    | 9, ht => cases ht; exact ⟨rfl, rfl⟩
    | n + 10, ht => cases ht
  · intro n hn
    match n, hn with
    | 0, _ => rfl
    | 1, _ => rfl
    | 4, _ =>
      show Dat.dI ((min (0 / t1) n2 : Nat) : Int) = .dI 0
      rw [Nat.zero_div, Nat.zero_min]; rfl
    | 5, _ =>
      show Dat.dI ((if 1 = (n2 + 1) * t1 + 1 then 0 else t1 - 0 % t1 : Nat) : Int) = .dI (t1 : Int)
      rw [if_neg (by omega), Nat.zero_mod]; rfl
    | 10, _ =>
      show Dat.dI (if 1 = (n2 + 1) * t1 + 1 then 6 else 2) = .dI 2
      rw [if_neg (by omega)]
    | 11, _ =>
      show Dat.dI (if 1 = (n2 + 1) * t1 + 1 then 5 else 2) = .dI 2
      rw [if_neg (by omega)]
    | 12, _ =>
      show Dat.dB (decide (1 ≠ (n2 + 1) * t1 + 1)) = .dB true
      rw [decide_eq_true (by omega)]
    | 13, _ => rfl
    | n + 14, _ => rfl
theorem roundCs {d : Nat} (h2 : n2 ≤ 12) (h3 : 1 ≤ t1) (h4 : t1 ≤ 12) (hd : d < (n2 + 1) * t1) : ∃ es, @Tree.sel _ (rhoC n2 t1 (d + 1)) rtCh = some (.normal, some es) ∧ EqsOk (rhoC n2 t1 (d + 2)) (rhoC n2 t1 (d + 1)) es := by
  have hb := mBound h2 h4
  have eM := tMc_den (k := d + 1) h2 h4
  have e := Nat.div_add_mod d t1
  have hr := Nat.mod_lt d (show t1 > 0 by omega)
  have hdv : d / t1 < n2 + 1 := (Nat.div_lt_iff_lt_mul (by omega)).2 hd
  have hmin : min (d / t1) n2 = d / t1 := Nat.min_eq_left (by omega)
  have c6 : (if d + 1 = (n2 + 1) * t1 + 1 then (6 : Int) else 2) = 2 := if_neg (by omega)
  have c5 : (if d + 1 = (n2 + 1) * t1 + 1 then (5 : Int) else 2) = 2 := if_neg (by omega)
  have cl : (if d + 1 = (n2 + 1) * t1 + 1 then 0 else t1 - d % t1) = t1 - d % t1 := if_neg (by omega)
  have hle : (@Tm.den (rhoC n2 t1 (d + 1)) (.ib .leq .i64 (vt 2) tMc)).asB = true := decide_eq_true (by
    rw [eM]; show ((d + 1 : Nat) : Int) ≤ _; omega)
  have sbs : ∀ p ∈ [((7 : Nat), false), (9, false)], ((rhoC n2 t1 (d + 1)).val p.1).asB = p.2 := fun p hp => by
    simp only [List.mem_cons, List.not_mem_nil, or_false] at hp
    rcases hp with rfl | rfl <;> rfl
  have v2 : (1 : Int) ≤ (@Tm.den (rhoC n2 t1 (d + 1)) (vt 2)).asI ∧ (@Tm.den (rhoC n2 t1 (d + 1)) (vt 2)).asI ≤ 156 := by
    show (1 : Int) ≤ ((d + 1 : Nat) : Int) ∧ ((d + 1 : Nat) : Int) ≤ 156
    omega
  have v5 : ((rhoC n2 t1 (d + 1)).val 5).asI = ((t1 - d % t1 : Nat) : Int) := by
    show ((if d + 1 = (n2 + 1) * t1 + 1 then 0 else t1 - d % t1 : Nat) : Int) = _
    rw [cl]
  have n2' : ((d + 2 : Nat) : Int) = (@Tm.den (rhoC n2 t1 (d + 1)) (.ib .add .i64 (vt 2) (.ci 1))).asI := (add1 (d + 1) (by omega)).symm
  have hge : (@Tm.den (rhoC n2 t1 (d + 1)) (.ib .geq .i64 (vt 4) (vt 13))).asB = decide ((d / t1 : Nat) ≥ n2) := by
    show decide (((min (d / t1) n2 : Nat) : Int) ≥ (n2 : Int)) = _
    rw [hmin]
    exact decide_eq_decide.2 (by omega)
  have keep0 : ∀ n, n = 0 ∨ n = 1 ∨ n = 13 → (rhoC n2 t1 (d + 2)).val n = (rhoC n2 t1 (d + 1)).val n := fun n hn => by
    rcases hn with rfl | rfl | rfl <;> rfl
  rcases nextDiv (k := d) h3 with ⟨q1, q2, q3⟩ | ⟨q1, q2, q3⟩
  · -- nothing is due
    have hlt : d + 1 < (n2 + 1) * t1 := by
      rcases Nat.lt_or_ge (d + 1) ((n2 + 1) * t1) with h | h
      · exact h
      · exfalso
        have : d + 1 = (n2 + 1) * t1 := by omega
        have h5 : (d + 1) % t1 = 0 := by rw [this]; exact Nat.mul_mod_left _ _
        omega
    refine to_ok chkB (fcOk ?_ sbs ?_ ?_ rfl rfl) ?_ ?_
    · intro p hp
      simp only [FB, List.mem_cons, List.not_mem_nil, or_false] at hp
      rcases hp with rfl | rfl | rfl | rfl
      · rfl
      · rfl
      · exact c6
      · exact c5
    · intro p hp
      simp only [FB, List.mem_cons, List.not_mem_nil, or_false] at hp
      rcases hp with rfl | rfl | rfl
      · exact hle
      · refine beq_eq_false_iff_ne.2 ?_
        rw [eM]
        show ((d + 1 : Nat) : Int) ≠ _
        omega
      · refine beq_eq_false_iff_ne.2 ?_
        show (iop .sub .i64 ((rhoC n2 t1 (d + 1)).val 5).asI 1).asI ≠ 0
        rw [v5, sub1 _ (by omega) (by omega)]
        omega
    · intro p hp
      simp only [FB, List.mem_cons, List.not_mem_nil, or_false] at hp
      rcases hp with rfl | rfl
      · exact v2
      · show (2 : Int) ≤ ((rhoC n2 t1 (d + 1)).val 5).asI ∧ ((rhoC n2 t1 (d + 1)).val 5).asI ≤ 12
        rw [v5]; omega
    · intro n t ht
      match n, ht with
      | 2, ht => cases ht; exact ⟨n2', rfl⟩
      | 5, ht =>
        cases ht
        refine ⟨?_, rfl⟩
        show ((if d + 2 = (n2 + 1) * t1 + 1 then 0 else t1 - (d + 1) % t1 : Nat) : Int) = (iop .sub .i64 ((rhoC n2 t1 (d + 1)).val 5).asI 1).asI
        rw [v5, sub1 _ (by omega) (by omega), if_neg (by omega), q3]; omega
      | n + 6, ht => cases ht
    · intro n hn
      match n, hn with
      | 0, _ => rfl
      | 1, _ => rfl
      | 3, _ =>
        show Dat.dI ((min ((d + 1) / t1) n2 + 1 : Nat) : Int) = .dI ((min (d / t1) n2 + 1 : Nat) : Int)
        rw [q2]
      | 4, _ =>
        show Dat.dI ((min ((d + 1) / t1) n2 : Nat) : Int) = .dI ((min (d / t1) n2 : Nat) : Int)
        rw [q2]
      | 6, _ => rfl
      | 7, _ => rfl
      | 8, _ => rfl
      | 9, _ => rfl
      | 10, _ =>
        show Dat.dI (if d + 2 = (n2 + 1) * t1 + 1 then 6 else 2) = .dI (if d + 1 = (n2 + 1) * t1 + 1 then 6 else 2)
        rw [c6, if_neg (by omega)]
      | 11, _ =>
        show Dat.dI (if d + 2 = (n2 + 1) * t1 + 1 then 5 else 2) = .dI (if d + 1 = (n2 + 1) * t1 + 1 then 5 else 2)
        rw [c5, if_neg (by omega)]
      | 12, _ =>
        show Dat.dB (decide (d + 2 ≠ (n2 + 1) * t1 + 1)) = .dB (decide (d + 1 ≠ (n2 + 1) * t1 + 1))
        rw [decide_eq_true (by omega), decide_eq_true (by omega)]
      | 13, _ => rfl
      | n + 14, _ => rfl
  · have hv5 : ((rhoC n2 t1 (d + 1)).val 5).asI = 1 := by rw [v5]; omega
    have sis : ∀ p ∈ [((5 : Nat), (1 : Int)), (6, 0), (8, 0), (10, 2), (11, 2)], ((rhoC n2 t1 (d + 1)).val p.1).asI = p.2 := fun p hp => by
      simp only [List.mem_cons, List.not_mem_nil, or_false] at hp
      rcases hp with rfl | rfl | rfl | rfl | rfl
      · exact hv5
      · rfl
      · rfl
      · exact c6
      · exact c5
    have rgs : ∀ p ∈ [((vt 2 : Tm), (1 : Int), (156 : Int))], p.2.1 ≤ (@Tm.den (rhoC n2 t1 (d + 1)) p.1).asI ∧ (@Tm.den (rhoC n2 t1 (d + 1)) p.1).asI ≤ p.2.2 := fun p hp => by
      simp only [List.mem_cons, List.not_mem_nil, or_false] at hp
      subst hp; exact v2
    rcases Nat.lt_or_ge (d + 1) ((n2 + 1) * t1) with hlt | hge2
    · -- it asks once more
      have hq : d / t1 + 1 < n2 + 1 := by
        rw [← q2]; exact (Nat.div_lt_iff_lt_mul (by omega)).2 hlt
      refine to_ok chkC (fcOk sis sbs ?_ rgs rfl rfl) ?_ ?_
      · intro p hp
        simp only [FC, List.mem_cons, List.not_mem_nil, or_false] at hp
        rcases hp with rfl | rfl | rfl
        · exact hle
        · refine beq_eq_false_iff_ne.2 ?_
          rw [eM]
          show ((d + 1 : Nat) : Int) ≠ _
          omega
        · rw [hge]; exact decide_eq_false (by omega)
      · intro n t ht
        match n, ht with
        | 2, ht => cases ht; exact ⟨n2', rfl⟩
        | 3, ht =>
          cases ht
          refine ⟨?_, rfl⟩
          show ((min ((d + 1) / t1) n2 + 1 : Nat) : Int) = (iop .add .i64 ((min (d / t1) n2 + 1 : Nat) : Int) 1).asI
          rw [hmin, q2, Nat.min_eq_left (by omega), add1 _ (by omega)]
        | 4, ht =>
          cases ht
          refine ⟨?_, rfl⟩
          show ((min ((d + 1) / t1) n2 : Nat) : Int) = (iop .add .i64 ((min (d / t1) n2 : Nat) : Int) 1).asI
          rw [hmin, q2, Nat.min_eq_left (by omega), add1 _ (by omega)]
        | 5, ht =>
          cases ht
          refine ⟨?_, rfl⟩
          show ((if d + 2 = (n2 + 1) * t1 + 1 then 0 else t1 - (d + 1) % t1 : Nat) : Int) = IntKind.i64.wrap (t1 : Int)
          rw [wn t1 (by omega), if_neg (by omega), q3, Nat.sub_zero]
        | 6, ht => cases ht; exact ⟨rfl, rfl⟩
        | 7, ht => cases ht; exact ⟨rfl, rfl⟩
        | 8, ht => cases ht; exact ⟨rfl, rfl⟩
        | 9, ht => cases ht; exact ⟨rfl, rfl⟩
        | n + 10, ht => cases ht
      · intro n hn
        match n, hn with
        | 0, _ => rfl
        | 1, _ => rfl
        | 10, _ =>
          show Dat.dI (if d + 2 = (n2 + 1) * t1 + 1 then 6 else 2) = .dI (if d + 1 = (n2 + 1) * t1 + 1 then 6 else 2)
          rw [c6, if_neg (by omega)]
        | 11, _ =>
          show Dat.dI (if d + 2 = (n2 + 1) * t1 + 1 then 5 else 2) = .dI (if d + 1 = (n2 + 1) * t1 + 1 then 5 else 2)
          rw [c5, if_neg (by omega)]
        | 12, _ =>
          show Dat.dB (decide (d + 2 ≠ (n2 + 1) * t1 + 1)) = .dB (decide (d + 1 ≠ (n2 + 1) * t1 + 1))
          rw [decide_eq_true (by omega), decide_eq_true (by omega)]
        | 13, _ => rfl
        | n + 14, _ => rfl
    · -- it fails
      have hend : d + 1 = (n2 + 1) * t1 := by omega
      have hq : d / t1 = n2 := by
        have : (d + 1) / t1 = n2 + 1 := by rw [hend]; exact Nat.mul_div_cancel _ (by omega)
        omega
      refine to_ok chkD (fcOk sis sbs ?_ rgs rfl rfl) ?_ ?_
      · intro p hp
        simp only [FD, List.mem_cons, List.not_mem_nil, or_false] at hp
        rcases hp with rfl | rfl | rfl
        · exact hle
        · refine beq_iff_eq.2 ?_
          rw [eM]
          show ((d + 1 : Nat) : Int) = _
          omega
        · rw [hge]; exact decide_eq_true (by omega)
      · intro n t ht
        match n, ht with
        | 2, ht => cases ht; exact ⟨n2', rfl⟩
        | 5, ht =>
          cases ht
          refine ⟨?_, rfl⟩
          show ((if d + 2 = (n2 + 1) * t1 + 1 then 0 else t1 - (d + 1) % t1 : Nat) : Int) = 0
          rw [if_pos (by omega)]; rfl
        | 6, ht => cases ht; exact ⟨rfl, rfl⟩
        | 7, ht => cases ht; exact ⟨rfl, rfl⟩
        | 8, ht => cases ht; exact ⟨rfl, rfl⟩
        | 9, ht => cases ht; exact ⟨rfl, rfl⟩
        | 10, ht =>
          cases ht
          refine ⟨?_, rfl⟩
          show (if d + 2 = (n2 + 1) * t1 + 1 then (6 : Int) else 2) = 6
          rw [if_pos (by omega)]
        | 11, ht =>
          cases ht
          refine ⟨?_, rfl⟩
          show (if d + 2 = (n2 + 1) * t1 + 1 then (5 : Int) else 2) = 5
          rw [if_pos (by omega)]
        | 12, ht =>
          cases ht
          refine ⟨rfl, ?_⟩
          show decide (d + 2 ≠ (n2 + 1) * t1 + 1) = false
          rw [decide_eq_false (by omega)]
        | n + 13, ht => cases ht
      · intro n hn
        match n, hn with
        | 0, _ => rfl
        | 1, _ => rfl
        | 3, _ =>
          show Dat.dI ((min ((d + 1) / t1) n2 + 1 : Nat) : Int) = .dI ((min (d / t1) n2 + 1 : Nat) : Int)
          rw [q2, hq, Nat.min_eq_right (by omega), Nat.min_self]
        | 4, _ =>
          show Dat.dI ((min ((d + 1) / t1) n2 : Nat) : Int) = .dI ((min (d / t1) n2 : Nat) : Int)
          rw [q2, hq, Nat.min_eq_right (by omega), Nat.min_self]
        | 13, _ => rfl
        | n + 14, _ => rfl
theorem lastC (h2 : n2 ≤ 12) (h4 : t1 ≤ 12) (hk : k = (n2 + 1) * t1 + 1) : ∃ es, @Tree.sel _ (rhoC n2 t1 k) rtCh = some (.exit 0, some es) ∧ EqsOk (rhoC n2 t1 k) (rhoC n2 t1 k) es := by
  subst hk
  have eM := tMc_den (k := (n2 + 1) * t1 + 1) h2 h4
  refine to_ok chkX (fcOk (fun p hp => by cases hp) (fun p hp => by cases hp) ?_ (fun p hp => by cases hp) rfl rfl) (fun n t ht => by cases ht) fun _ _ => rfl
  intro p hp
  simp only [FX, List.mem_cons, List.not_mem_nil, or_false] at hp
  subst hp
  refine decide_eq_false ?_
  rw [eM]
  show ¬ (((n2 + 1) * t1 + 1 : Nat) : Int) ≤ _
  omega
end
end
end Go.Proofs.YtenkabjkgngcdaaGreat.Ab
