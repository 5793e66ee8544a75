/-
  TablesOther, called: it returns true and makes at most new blocks.
  Conditions: arguments as the model reads them.
-/
import Derived.Test.YtlbkficdelepeaaToX
import Derived.Test.YtlbkficdelepeaaToP
import Derived.Test.YtlbkficdelepeaaTlV
namespace Go.Proofs.Ytlbkficdelepeaa.Ab
set_option linter.unusedSimpArgs false
set_option linter.unusedVariables false
open Go
set_option linter.unusedSectionVars false
noncomputable section
/-! ### how far a judge comes -/
theorem stopN_at {A : List (List Dat)} {n2 : Int} : ∀ (f k m : Nat), k ≤ m → m ≤ k + f → (∀ j, k ≤ j → j < m → (Jm (seqC A n2 j) (A.getD j []) 0).asB = true) → (m < k + f → (Jm (seqC A n2 m) (A.getD m []) 0).asB = false) → stopN A n2 f k = m
  | 0, k, m, h1, h2, _, _ => by
    show k = m
    omega
  | f + 1, k, m, h1, h2, ha, hb => by
    show (bif (Jm (seqC A n2 k) (A.getD k []) 0).asB then stopN A n2 f (k + 1) else k) = m
    by_cases e : m = k
    · subst e
      rw [hb (by omega)]; rfl
    · rw [ha k (Nat.le_refl _) (by omega)]
      exact stopN_at f (k + 1) m (by omega) (by omega) (fun j a b => ha j (by omega) b) (fun h => hb (by omega))
theorem stopN_spec {A : List (List Dat)} {n2 : Int} : ∀ (f k : Nat), k ≤ stopN A n2 f k ∧ stopN A n2 f k ≤ k + f ∧ (∀ j, k ≤ j → j < stopN A n2 f k → (Jm (seqC A n2 j) (A.getD j []) 0).asB = true) ∧ (stopN A n2 f k < k + f → (Jm (seqC A n2 (stopN A n2 f k)) (A.getD (stopN A n2 f k) []) 0).asB = false)
  | 0, k => ⟨Nat.le_refl _, Nat.le_refl _, fun j a b => absurd (show j < k from b) (by omega), fun h => absurd (show k < k + 0 from h) (by omega)⟩
  | f + 1, k => by
    obtain ⟨i1, i2, i3, i4⟩ := stopN_spec (A := A) (n2 := n2) f (k + 1)
    have e : stopN A n2 (f + 1) k = (bif (Jm (seqC A n2 k) (A.getD k []) 0).asB then stopN A n2 f (k + 1) else k) := rfl
    cases h : (Jm (seqC A n2 k) (A.getD k []) 0).asB with
    | true =>
      rw [h, cond_true] at e
      rw [e]
      refine ⟨by omega, by omega, fun j a b => ?_, fun hh => i4 (by omega)⟩
      by_cases ej : j = k
      · subst ej; exact h
      · exact i3 j (by omega) b
    | false =>
      rw [h, cond_false] at e
      rw [e]
      exact ⟨Nat.le_refl _, by omega, fun j a b => by omega, fun _ => h⟩
/-! ### Accepts -/
abbrev rhoC (val : Nat → Dat) (A : List (List Dat)) (n2 : Int) (k : Nat) : Rho := ⟨fun i => bif Nat.blt i 2 then val i else bif Nat.beq i 2 then .dI (k : Int) else bif Nat.blt i 12 then (seqC A n2 k).getD (i - 3) (.dI 0) else val i, fnU⟩
section
variable {val : Nat → Dat} {n2 : Int} (h1 : val 1 = .dI n2) (hL : RowsE (val 0).asL) (hN : (val 0).asL.length ≤ 1000)
theorem rhoC_low {k : Nat} (n : Nat) (hn : n < 2) : (rhoC val (val 0).asL n2 k).val n = val n := by
  match n, hn with
  | 0, _ => rfl
  | 1, _ => rfl
include h1 in
theorem rhoC_first (n : Nat) : (rhoC val (val 0).asL n2 0).val n = match sAc n with
    | some t => @Tm.den ⟨val, fnU⟩ t
    | none => val n := by
  match n with
  | 0 => (show _ = _; kernel_rfl)
  | 1 => (show _ = _; kernel_rfl)
  | 2 => (show _ = _; kernel_rfl)
  | 3 => (show _ = _; kernel_rfl)
  | 4 => (show _ = _; kernel_rfl)
  | 5 => (show _ = _; kernel_rfl)
  | 6 => exact (moT_den (ρ := ⟨val, fnU⟩) h1).symm
  | 7 => (show _ = _; kernel_rfl)
  | 8 => (show _ = _; kernel_rfl)
  | 9 => (show _ = _; kernel_rfl)
  | 10 => (show _ = _; kernel_rfl)
  | 11 => (show _ = _; kernel_rfl)
  | n + 12 =>
    have b1 : Nat.ble (n + 12) 1 = false := by rw [Bool.eq_false_iff]; intro h; have := Nat.le_of_ble_eq_true h; omega
    have b2 : Nat.ble 12 (n + 12) = true := Nat.ble_eq_true_of_le (by omega)
    have b3 : Nat.blt (n + 12) 2 = false := by rw [Bool.eq_false_iff]; intro h; rw [Nat.blt_eq] at h; omega
    have b4 : Nat.beq (n + 12) 2 = false := by rw [Bool.eq_false_iff]; intro h; have := Nat.eq_of_beq_eq_true h; omega
    have b5 : Nat.blt (n + 12) 12 = false := by rw [Bool.eq_false_iff]; intro h; rw [Nat.blt_eq] at h; omega
    unfold sAc
    rw [b1, b2]
    show (bif Nat.blt (n + 12) 2 then _ else bif Nat.beq (n + 12) 2 then _ else bif Nat.blt (n + 12) 12 then _ else _) = _
    rw [b3, b4, b5]; rfl
include hL hN in
set_option maxRecDepth 100000 in
theorem roundAcE {k : Nat} (hk : k < (val 0).asL.length) (ha : (Jm (seqC (val 0).asL n2 k) ((val 0).asL.getD k []) 0).asB = true) : Nx (rhoC val (val 0).asL n2 k) (rhoC val (val 0).asL n2 (k + 1)) rtAcE := by
  have E := ev_at (n2 := n2) hL hk []
  obtain ⟨i1, i2⟩ := insideK (t := 2) (ρ := rhoC val (val 0).asL n2 k) (i := k) (n := (val 0).asL.length) (l := vt 0) rfl rfl hk
  refine nxT i1 (nxT i2 (nxT (eqW (congrArg Dat.asB E.dJ) (by kernel_rfl) (by kernel_rfl)) (nxF ?_ (nxL ?_))))
  · rw [not_f]
    exact eqW ha (by kernel_rfl) rfl
  · exact (eI _ _ _ _).2 ⟨addK (t := 2) (i := k) (by omega) rfl rfl, (eI _ _ _ _).2 ⟨(by kernel_rfl), (eB _ _ _ _).2 ⟨(by kernel_rfl), (eI _ _ _ _).2 ⟨(by kernel_rfl), (eI _ _ _ _).2 ⟨(by kernel_rfl), (eI _ _ _ _).2 ⟨(by kernel_rfl), (eB _ _ _ _).2 ⟨(by kernel_rfl), (eI _ _ _ _).2 ⟨(by kernel_rfl), (eB _ _ _ _).2 ⟨(by kernel_rfl), (eB _ _ _ _).2 ⟨(by kernel_rfl), trivial⟩⟩⟩⟩⟩⟩⟩⟩⟩⟩
include hL hN in
set_option maxRecDepth 100000 in
theorem roundAcR {k : Nat} (hk : k < (val 0).asL.length) (ha : (Jm (seqC (val 0).asL n2 k) ((val 0).asL.getD k []) 0).asB = true) : Nx (rhoC val (val 0).asL n2 k) (rhoC val (val 0).asL n2 (k + 1)) rtAcR := by
  have E := ev_at (n2 := n2) hL hk []
  obtain ⟨i1, i2⟩ := insideK (t := 2) (ρ := rhoC val (val 0).asL n2 k) (i := k) (n := (val 0).asL.length) (l := vt 0) rfl rfl hk
  refine nxT i1 (nxT i2 (nxT (eqW (congrArg Dat.asB E.dJ) (by kernel_rfl) (by kernel_rfl)) (nxF ?_ (nxL ?_))))
  · rw [not_f]
    exact eqW ha (by kernel_rfl) rfl
  · exact (eI _ _ _ _).2 ⟨addK (t := 2) (i := k) (by omega) rfl rfl, (eI _ _ _ _).2 ⟨(by kernel_rfl), (eB _ _ _ _).2 ⟨(by kernel_rfl), (eI _ _ _ _).2 ⟨(by kernel_rfl), (eI _ _ _ _).2 ⟨(by kernel_rfl), (eI _ _ _ _).2 ⟨(by kernel_rfl), (eB _ _ _ _).2 ⟨(by kernel_rfl), (eI _ _ _ _).2 ⟨(by kernel_rfl), (eB _ _ _ _).2 ⟨(by kernel_rfl), (eB _ _ _ _).2 ⟨(by kernel_rfl), trivial⟩⟩⟩⟩⟩⟩⟩⟩⟩⟩
include h1 hL hN in
set_option maxRecDepth 100000 in
theorem gAcE_ok (ha : ∀ j, j < (val 0).asL.length → (Jm (seqC (val 0).asL n2 j) ((val 0).asL.getD j []) 0).asB = true) : GOk ⟨val, fnU⟩ fAj 0 gAcE := by
  refine loopN_ok noCount ⟨val, fnU⟩ (fun k => rhoC val (val 0).asL n2 k) (val 0).asL.length (fuel := 1000000) (cf := evFun Try.prog envU 1000) (lf := fun _ => none) (by simp) rfl (fun k _ => by letI : Rho := rhoC val (val 0).asL n2 k; exact evFun_ok noCount (envU_ok rfl) 1000) (fun k _ => by letI : Rho := rhoC val (val 0).asL n2 k; exact lf0_ok) (fun k _ => ⟨rhoC_low, rfl⟩) (fun k hk => ?_) ?_ (rhoC_first h1)
  · rw [rtAcE_eq]; exact roundAcE hL hN hk (ha k hk)
  · rw [rtAcE_eq]
    exact ⟨[], sel_F (outsK (t := 2) (i := (val 0).asL.length) (n := (val 0).asL.length) (l := vt 0) rfl rfl (Nat.le_refl _)), trivial⟩
include h1 hL hN in
set_option maxRecDepth 100000 in
theorem gAcR_ok {m : Nat} (hm : m < (val 0).asL.length) (ha : ∀ j, j < m → (Jm (seqC (val 0).asL n2 j) ((val 0).asL.getD j []) 0).asB = true) (hb : (Jm (seqC (val 0).asL n2 m) ((val 0).asL.getD m []) 0).asB = false) (hs : stopN (val 0).asL n2 (val 0).asL.length 0 = m) : GOk ⟨val, fnU⟩ fAj 0 gAcR := by
  refine loopN_ok noCount ⟨val, fnU⟩ (fun k => rhoC val (val 0).asL n2 k) m (fuel := 1000000) (cf := evFun Try.prog envU 1000) (lf := fun _ => none) (by simp) rfl (fun k _ => by letI : Rho := rhoC val (val 0).asL n2 k; exact evFun_ok noCount (envU_ok rfl) 1000) (fun k _ => by letI : Rho := rhoC val (val 0).asL n2 k; exact lf0_ok) (fun k _ => ⟨rhoC_low, rfl⟩) (fun k hk => ?_) ?_ (rhoC_first h1)
  · rw [rtAcR_eq]; exact roundAcR hL hN (by omega) (ha k hk)
  · rw [rtAcR_eq]
    have E := ev_at (n2 := n2) hL hm []
    obtain ⟨i1, i2⟩ := insideK (t := 2) (ρ := rhoC val (val 0).asL n2 m) (i := m) (n := (val 0).asL.length) (l := vt 0) rfl rfl hm
    refine ⟨_, (sel_T i1).trans ((sel_T i2).trans ((sel_T (eqW (congrArg Dat.asB E.dJ) (by kernel_rfl) (by kernel_rfl))).trans ((sel_T ?_).trans rfl))), ?_, trivial⟩
    · rw [not_t]
      exact eqW hb (by kernel_rfl) rfl
    · have e : (@Tm.den ⟨val, fnU⟩ (.app 3072 (tp [vt 1, vt 0]))).asI = (stopN (val 0).asL (val 1).asI (val 0).asL.length 0 : Int) := by kernel_rfl
      show (@Tm.den ⟨val, fnU⟩ (.app 3072 (tp [vt 1, vt 0]))).asI = (m : Int)
      rw [e, h1]
      show ((stopN (val 0).asL n2 (val 0).asL.length 0 : Nat) : Int) = m
      rw [hs]
end
theorem acc2_iff (l : List Dat) : ((accF l 2).asB = true) = (l.getD 0 (.dI 0) = .dI (l.getD 0 (.dI 0)).asI ∧ RowsE (l.getD 1 (.dI 0)).asL ∧ (l.getD 1 (.dI 0)).asL.length ≤ 1000) := by
  unfold accF
  rw [show Nat.beq 2 0 = false from rfl, show Nat.beq 2 1 = false from rfl]
  simp only [cond_false, asB_dB, decide_eq_true_eq]
theorem acc2_of {l : List Dat} (h : (accF l 2).asB = true) : l.getD 0 (.dI 0) = .dI (l.getD 0 (.dI 0)).asI ∧ RowsE (l.getD 1 (.dI 0)).asL ∧ (l.getD 1 (.dI 0)).asL.length ≤ 1000 := by
  rwa [acc2_iff] at h
theorem acc2_mk {l : List Dat} (h : l.getD 0 (.dI 0) = .dI (l.getD 0 (.dI 0)).asI ∧ RowsE (l.getD 1 (.dI 0)).asL ∧ (l.getD 1 (.dI 0)).asL.length ≤ 1000) : (accF l 2).asB = true := by
  rwa [acc2_iff]
set_option maxRecDepth 100000 in
theorem acc_okS : SumE Try.prog fAj SAc 3072 2 fnU := by
  intro ρ hf hok
  obtain ⟨val, fn⟩ := ρ
  obtain rfl : fn = fnU := hf
  have e2 : (fnU (3072 + 2) (tupD val SAc.us)).asB = (accF [val 1, val 0] 2).asB := by kernel_rfl
  have hok : (fnU (3072 + 2) (tupD val SAc.us)).asB = true := hok
  rw [e2] at hok
  obtain ⟨k1, k2, k3⟩ := acc2_of hok
  have k1 : val 1 = .dI (val 1).asI := k1
  have k2 : RowsE (val 0).asL := k2
  have k3 : (val 0).asL.length ≤ 1000 := k3
  have e0 : fnU 3072 (tupD val [1, 0]) = .dI (stopN (val 0).asL (val 1).asI (val 0).asL.length 0 : Int) := by kernel_rfl
  have e1 : fnU 3073 (tupD val [1, 0]) = .dB (Nat.beq (stopN (val 0).asL (val 1).asI (val 0).asL.length 0) (val 0).asL.length) := by kernel_rfl
  obtain ⟨s1, s2, s3, s4⟩ := stopN_spec (A := (val 0).asL) (n2 := (val 1).asI) (val 0).asL.length 0
  by_cases hs : stopN (val 0).asL (val 1).asI (val 0).asL.length 0 = (val 0).asL.length
  · letI : Rho := ⟨val, fnU⟩
    refine ⟨envAc gAcE, envOne_ok (envU_ok rfl).fn keyT2 (gAcE_ok k1 k2 k3 fun j hj => s3 j (by omega) (by omega)), ?_⟩
    rw [tAcE_eq]
    refine ⟨_, rfl, ?_, ?_, trivial⟩
    · show (fnU 3072 (tupD val [1, 0])).asI = ((val 0).asL.length : Int)
      rw [e0, hs]; rfl
    · show (fnU 3073 (tupD val [1, 0])).asB = true
      rw [e1, hs]
      show Nat.beq _ _ = true
      exact Nat.beq_refl _
  · letI : Rho := ⟨val, fnU⟩
    refine ⟨envAc gAcR, envOne_ok (envU_ok rfl).fn keyT2 (gAcR_ok k1 k2 k3 (by omega) (fun j hj => s3 j (by omega) hj) (s4 (by omega)) rfl), ?_⟩
    rw [tAcR_eq]
    refine ⟨_, rfl, ?_, ?_, trivial⟩
    · show (fnU 3072 (tupD val [1, 0])).asI = (fnU 3072 _).asI
      exact congrArg (fun d => (fnU 3072 d).asI) (by kernel_rfl)
    · show (fnU 3073 (tupD val [1, 0])).asB = false
      rw [e1]
      show Nat.beq _ _ = false
      rw [Bool.eq_false_iff]
      intro h
      exact hs (Nat.eq_of_beq_eq_true h)
theorem tabO_ok {ρ : Rho} (hf : ρ.fn = fnU) : TabOK ρ tabO := ⟨sumU_CG hf acc_okS, tabU_ok hf⟩
/-! ### the lengths -/
abbrev rho64 (val : Nat → Dat) (k : Nat) : Rho := ⟨fun i => bif Nat.beq i 64 then .dI (k : Int) else val i, fnU⟩
theorem rho64_low {val : Nat → Dat} {k : Nat} (n : Nat) (hn : n < 64) : (rho64 val k).val n = val n := by
  show (bif Nat.beq n 64 then _ else _) = _
  rw [show Nat.beq n 64 = false by rw [Bool.eq_false_iff]; intro h; have := Nat.eq_of_beq_eq_true h; omega]
  rfl
theorem rho64_first {val : Nat → Dat} (n : Nat) : (rho64 val 0).val n = match sFew n with
    | some t => @Tm.den ⟨val, fnU⟩ t
    | none => val n := by
  show (bif Nat.beq n 64 then _ else _) = _
  unfold sFew
  cases Nat.beq n 64 <;> rfl
section
variable {val : Nat → Dat} {L : List (List Dat)} (h0 : val 0 = .dL L) (hM : L.length ≤ 9223372036854775807)
include h0
theorem few_o {k : Nat} (hk : k < L.length) : (@Tm.den (rho64 val k) (.ib .lss .i64 (vt 64) (.llen (vt 0)))).asB = true ∧ (@Tm.den (rho64 val k) rtFewA_0).asB = true ∧ (@Tm.den (rho64 val k) (.len (.lget (vt 0) (vt 64) 7))).asI = (pI L k : Int) := by
  obtain ⟨i1, i2⟩ := insideK (t := 64) (ρ := rho64 val k) (i := k) (n := L.length) (l := vt 0) rfl (by
    show (((val 0).asL.length : Nat) : Int) = _
    rw [h0]; rfl) hk
  refine ⟨i1, i2, ?_⟩
  show ((((val 0).asL.getD k []).getD 7 (.dI 0)).asS.length : Int) = _
  rw [h0]; rfl
include hM
set_option maxRecDepth 100000 in
theorem gFewA_o (hg : ∀ k, k < L.length → pI L k ≤ 100) : GOk ⟨val, fnU⟩ fFew 0 gFewA := by
  refine loopN_ok noCount ⟨val, fnU⟩ (fun k => rho64 val k) L.length (fuel := 1000000) (cf := evFun Try.prog envU 1000) (lf := fun _ => none) (by simp) rfl (fun k _ => by letI : Rho := rho64 val k; exact evFun_ok noCount (envU_ok rfl) 1000) (fun k _ => by letI : Rho := rho64 val k; exact lf0_ok) (fun k _ => ⟨rho64_low, rfl⟩) (fun k hk => ?_) ?_ rho64_first
  · rw [rtFewA_eq]
    obtain ⟨i1, i2, i3⟩ := few_o h0 (show k < L.length by omega)
    refine nxT i1 (nxT i2 (nxF ?_ (nxL ((eI _ _ _ _).2 ⟨addK (t := 64) (i := k) (by omega) rfl rfl, trivial⟩))))
    have := hg k hk
    rw [gtr_f, i3, d_ci]; omega
  · rw [rtFewA_eq]
    exact ⟨[], sel_F (outsK (t := 64) (i := L.length) (n := L.length) (l := vt 0) rfl (by
      show (((val 0).asL.length : Nat) : Int) = _
      rw [h0]; rfl) (Nat.le_refl _)), trivial⟩
set_option maxRecDepth 100000 in
theorem gFewB_o {m : Nat} (hm : m < L.length) (hb : ¬ pI L m ≤ 100) (hg : ∀ k, k < m → pI L k ≤ 100) : GOk ⟨val, fnU⟩ fFew 0 gFewB := by
  refine loopN_ok noCount ⟨val, fnU⟩ (fun k => rho64 val k) m (fuel := 1000000) (cf := evFun Try.prog envU 1000) (lf := fun _ => none) (by simp) rfl (fun k _ => by letI : Rho := rho64 val k; exact evFun_ok noCount (envU_ok rfl) 1000) (fun k _ => by letI : Rho := rho64 val k; exact lf0_ok) (fun k _ => ⟨rho64_low, rfl⟩) (fun k hk => ?_) ?_ rho64_first
  · rw [rtFewB_eq]
    obtain ⟨i1, i2, i3⟩ := few_o h0 (show k < L.length by omega)
    refine nxT i1 (nxT i2 (nxF ?_ (nxL ((eI _ _ _ _).2 ⟨addK (t := 64) (i := k) (by omega) rfl rfl, trivial⟩))))
    have := hg k hk
    rw [gtr_f, i3, d_ci]; omega
  · rw [rtFewB_eq]
    obtain ⟨i1, i2, i3⟩ := few_o h0 hm
    exact ⟨[], (sel_T i1).trans ((sel_T i2).trans (sel_T (by rw [gtr_t, i3, d_ci]; omega))), trivial⟩
end
/-! ### the judge up to the event -/
abbrev rhoM (val : Nat → Dat) (n2 : Int) (k : Nat) : Rho := ⟨fun i => bif Nat.blt i 67 then val i else bif Nat.beq i 67 then .dI (k : Int) else bif Nat.blt i 77 then (seqC (val 42).asL n2 k).getD (i - 68) (.dI 0) else val i, fnU⟩
/-- What is known of the letters behind it. -/
structure OkM (val : Nat → Dat) (n2 : Int) (i : Nat) : Prop where
  v1 : val 1 = .dI n2
  v77 : val 77 = .dI (i : Int)
  lt : i ≤ (val 42).asL.length
  e77 : val 77 = @Tm.den ⟨val, fnU⟩ iTm
  e78 : val 78 = @Tm.den ⟨val, fnU⟩ cmdT
  e79 : val 79 = @Tm.den ⟨val, fnU⟩ kndT
  e80 : val 80 = @Tm.den ⟨val, fnU⟩ pfT
  core : ∀ j, j < 9 → val (68 + j) = (seqC (val 42).asL n2 i).getD j (.dI 0)
section
variable {val : Nat → Dat} {n2 : Int} {i : Nat} (O : OkM val n2 i) (hL : RowsE (val 42).asL) (hN : (val 42).asL.length ≤ 1000)
theorem rhoM_low {k : Nat} (n : Nat) (hn : n < 67) : (rhoM val n2 k).val n = val n := by
  show (bif Nat.blt n 67 then _ else _) = _
  rw [show Nat.blt n 67 = true by rw [Nat.blt_eq]; exact hn]
  rfl
include O in
set_option maxRecDepth 100000 in
theorem rhoM_first (n : Nat) : (rhoM val n2 0).val n = match sOm n with
    | some t => @Tm.den ⟨val, fnU⟩ t
    | none => val n := by
  by_cases hlo : n < 67
  · rw [rhoM_low n hlo]
    unfold sOm
    rw [show Nat.ble n 66 = true from Nat.ble_eq_true_of_le (by omega)]
    rfl
  · by_cases hhi : 81 ≤ n
    · have b1 : Nat.ble n 66 = false := by rw [Bool.eq_false_iff]; intro h; have := Nat.le_of_ble_eq_true h; omega
      have b2 : Nat.ble 81 n = true := Nat.ble_eq_true_of_le hhi
      have b3 : Nat.blt n 67 = false := by rw [Bool.eq_false_iff]; intro h; rw [Nat.blt_eq] at h; omega
      have b4 : Nat.beq n 67 = false := by rw [Bool.eq_false_iff]; intro h; have := Nat.eq_of_beq_eq_true h; omega
      have b5 : Nat.blt n 77 = false := by rw [Bool.eq_false_iff]; intro h; rw [Nat.blt_eq] at h; omega
      unfold sOm
      rw [b1, b2]
      show (bif Nat.blt n 67 then _ else bif Nat.beq n 67 then _ else bif Nat.blt n 77 then _ else _) = _
      rw [b3, b4, b5]; rfl
    · obtain ⟨m, rfl⟩ : ∃ m, n = m + 67 := ⟨n - 67, by omega⟩
      match m, (show m < 14 by omega) with
      | 0, _ => (show _ = _; kernel_rfl)
      | 1, _ => (show _ = _; kernel_rfl)
      | 2, _ => (show _ = _; kernel_rfl)
      | 3, _ => (show _ = _; kernel_rfl)
      | 4, _ => exact (moT_den (ρ := ⟨val, fnU⟩) O.v1).symm
      | 5, _ => (show _ = _; kernel_rfl)
      | 6, _ => (show _ = _; kernel_rfl)
      | 7, _ => (show _ = _; kernel_rfl)
      | 8, _ => (show _ = _; kernel_rfl)
      | 9, _ => (show _ = _; kernel_rfl)
      | 10, _ => exact O.e77
      | 11, _ => exact O.e78
      | 12, _ => exact O.e79
      | 13, _ => exact O.e80
      | m + 14, h => exact absurd h (by omega)
include O hL hN in
set_option maxRecDepth 100000 in
theorem gOm_ok : GOk ⟨val, fnU⟩ fTo 0 gOm := by
  have hlt := O.lt
  refine loopN_ok noCount ⟨val, fnU⟩ (fun k => rhoM val n2 k) i (fuel := 1000000) (cf := evFun Try.prog envU 1000) (lf := fun _ => none) (by simp) rfl (fun k _ => by letI : Rho := rhoM val n2 k; exact evFun_ok noCount (envU_ok rfl) 1000) (fun k _ => by letI : Rho := rhoM val n2 k; exact lf0_ok) (fun k _ => ⟨rhoM_low, rfl⟩) (fun k hk => ?_) ?_ (rhoM_first O)
  · rw [rtOm_eq]
    have hkL : k < (val 42).asL.length := by omega
    have E := ev_at (n2 := n2) hL hkL []
    obtain ⟨_, i2⟩ := insideK (t := 67) (ρ := rhoM val n2 k) (i := k) (n := (val 42).asL.length) (l := vt 42) rfl rfl hkL
    refine nxT ?_ (nxT i2 (nxT (eqW (congrArg Dat.asB E.dJ) (by kernel_rfl) (by kernel_rfl)) (nxL ?_)))
    · rw [lss_t]
      show (k : Int) < (val 77).asI ∧ ¬ (val 77).asI ≤ (k : Int)
      rw [O.v77]
      show (k : Int) < (i : Int) ∧ ¬ (i : Int) ≤ (k : Int)
      omega
    · exact (eI _ _ _ _).2 ⟨addK (t := 67) (i := k) (by omega) rfl rfl, (eI _ _ _ _).2 ⟨(by kernel_rfl), (eI _ _ _ _).2 ⟨(by kernel_rfl), (eB _ _ _ _).2 ⟨(by kernel_rfl), (eI _ _ _ _).2 ⟨(by kernel_rfl), (eI _ _ _ _).2 ⟨(by kernel_rfl), (eI _ _ _ _).2 ⟨(by kernel_rfl), (eB _ _ _ _).2 ⟨(by kernel_rfl), (eI _ _ _ _).2 ⟨(by kernel_rfl), (eB _ _ _ _).2 ⟨(by kernel_rfl), (eB _ _ _ _).2 ⟨(by kernel_rfl), (eB _ _ _ _).2 ⟨(by kernel_rfl), (eI _ _ _ _).2 ⟨(by kernel_rfl), (eB _ _ _ _).2 ⟨(by kernel_rfl), trivial⟩⟩⟩⟩⟩⟩⟩⟩⟩⟩⟩⟩⟩⟩
  · rw [rtOm_eq]
    refine ⟨_, (sel_F ?_).trans rfl, ?_⟩
    · rw [lss_f]
      show (val 77).asI ≤ (i : Int) ∧ ¬ (i : Int) < (val 77).asI
      rw [O.v77]
      show (i : Int) ≤ (i : Int) ∧ ¬ (i : Int) < (i : Int)
      omega
    · exact ⟨rfl, congrArg Dat.asI (O.core 0 (by omega)), congrArg Dat.asB (O.core 1 (by omega)), congrArg Dat.asI (O.core 2 (by omega)), congrArg Dat.asI (O.core 3 (by omega)), congrArg Dat.asI (O.core 4 (by omega)), congrArg Dat.asB (O.core 5 (by omega)), congrArg Dat.asI (O.core 6 (by omega)), congrArg Dat.asB (O.core 7 (by omega)), congrArg Dat.asB (O.core 8 (by omega)), rfl, rfl, rfl, trivial⟩
end
theorem envO_ok {ρ : Rho} (hf : ρ.fn = fnU) {a b c : LpG} (h1 : GOk ρ fFew 0 a) (h2 : GOk ρ fRun 0 b) (h3 : GOk ρ fTo 0 c) : @EnvOK ρ Try.prog (envO a b c) := by
  refine ⟨(env_of (tabO_ok hf)).fn, fun f fn cd q1 q2 => ?_⟩
  simp only [envO, lpO]
  cases e1 : Nat.beq f fFew with
  | true =>
    obtain rfl := Nat.eq_of_beq_eq_true e1
    exact lf1_ok keyFew h1 q1 q2
  | false =>
    simp only [cond_false]
    cases e2 : Nat.beq f fRun with
    | true =>
      obtain rfl := Nat.eq_of_beq_eq_true e2
      exact lf1_ok keyRun h2 q1 q2
    | false =>
      simp only [cond_false]
      cases e3 : Nat.beq f fTo with
      | true =>
        obtain rfl := Nat.eq_of_beq_eq_true e3
        exact lf1_ok keyTo h3 q1 q2
      | false => exact lf0_ok
/-! ### what Accepts says -/
section
variable {ρ : Rho} {n2 : Int} {t : Tm} {A : List (List Dat)} {m : Nat} (hf : ρ.fn = fnU) (h1 : ρ.val 1 = .dI n2) (ht : (@Tm.den ρ t).asL = A)
include hf h1 ht
theorem acc0_den : (@Tm.den ρ (accT 0 t)).asI = (stopN A n2 A.length 0 : Int) := by
  obtain ⟨val, fn⟩ := ρ
  obtain rfl : fn = fnU := hf
  have h1 : val 1 = .dI n2 := h1
  have e : (@Tm.den ⟨val, fnU⟩ (accT 0 t)).asI = (stopN (@Tm.den ⟨val, fnU⟩ t).asL (val 1).asI (@Tm.den ⟨val, fnU⟩ t).asL.length 0 : Int) := by kernel_rfl
  rw [e, ht, h1]; rfl
theorem acc1_den : (@Tm.den ρ (accT 1 t)).asB = Nat.beq (stopN A n2 A.length 0) A.length := by
  obtain ⟨val, fn⟩ := ρ
  obtain rfl : fn = fnU := hf
  have h1 : val 1 = .dI n2 := h1
  have e : (@Tm.den ⟨val, fnU⟩ (accT 1 t)).asB = Nat.beq (stopN (@Tm.den ⟨val, fnU⟩ t).asL (val 1).asI (@Tm.den ⟨val, fnU⟩ t).asL.length 0) (@Tm.den ⟨val, fnU⟩ t).asL.length := by kernel_rfl
  rw [e, ht, h1]; rfl
theorem acc2_den (hA : RowsE A) (hl : A.length ≤ 1000) : (@Tm.den ρ (accT 2 t)).asB = true := by
  obtain ⟨val, fn⟩ := ρ
  obtain rfl : fn = fnU := hf
  have h1 : val 1 = .dI n2 := h1
  have e : (@Tm.den ⟨val, fnU⟩ (accT 2 t)).asB = (accF [val 1, @Tm.den ⟨val, fnU⟩ t] 2).asB := by kernel_rfl
  rw [e]
  refine acc2_mk ⟨?_, ?_, ?_⟩
  · show val 1 = .dI (val 1).asI
    rw [h1]; rfl
  · show RowsE (@Tm.den ⟨val, fnU⟩ t).asL
    rw [ht]; exact hA
  · show (@Tm.den ⟨val, fnU⟩ t).asL.length ≤ 1000
    rw [ht]; exact hl
theorem acc_stop (S : StopAt A n2 m) : (@Tm.den ρ (accT 0 t)).asI = (m : Int) ∧ (@Tm.den ρ (accT 1 t)).asB = false := by
  have e : stopN A n2 A.length 0 = m := stopN_at _ _ _ (Nat.zero_le _) (by have := S.lt; omega) (fun j _ hj => S.acc j hj) fun _ => S.no
  rw [acc0_den hf h1 ht, acc1_den hf h1 ht, e]
  refine ⟨rfl, ?_⟩
  rw [Bool.eq_false_iff]
  intro h
  have := Nat.eq_of_beq_eq_true h
  have := S.lt
  omega
end
/-! ### the law -/
theorem len8E {r : List Dat} (h : r.length = 8) : r = [r.getD 0 (.dI 0), r.getD 1 (.dI 0), r.getD 2 (.dI 0), r.getD 3 (.dI 0), r.getD 4 (.dI 0), r.getD 5 (.dI 0), r.getD 6 (.dI 0), r.getD 7 (.dI 0)] := (row8 h).symm
section
variable {val : Nat → Dat} {n2 : Int} {i : Nat} {TR : List (List Dat)} (h1 : val 1 = .dI n2) (h42 : (val 42).asL = TR) (h77 : val 77 = .dI (i : Int)) (hi : i ≤ TR.length) (hN : TR.length ≤ 900) (hR : RowsE TR)
  (ha : ∀ j, j < TR.length → (Jm (seqC TR n2 j) (TR.getD j []) 0).asB = true)
include h42 h77 hN hi in
theorem o_num : (@Tm.den ⟨val, fnU⟩ (.llen (vt 42))).asI = (TR.length : Int) ∧ (@Tm.den ⟨val, fnU⟩ (vt 77)).asI = (i : Int) ∧ (@Tm.den ⟨val, fnU⟩ (.ib .add .i64 (vt 77) (.ci 1))).asI = (i : Int) + 1 := by
  have a : (val 77).asI = (i : Int) := by rw [h77]; rfl
  refine ⟨?_, a, ?_⟩
  · show (((val 42).asL.length : Nat) : Int) = _
    rw [h42]
  · show IntKind.i64.wrap ((val 77).asI + 1) = _
    rw [a, i64wrap (by omega) (by omega)]
include h42 h77 in
theorem get_den (j : Nat) : @Tm.den ⟨val, fnU⟩ (getT j) = (TR.getD i []).getD j (.dI 0) := by
  show ((val 42).asL.getD (val 77).asI.toNat []).getD j (.dI 0) = _
  rw [h42, h77]; rfl
include h42 h77 hN in
theorem tw_den (hlt : i < TR.length) (hR : RowsE TR) : (@Tm.den ⟨val, fnU⟩ twT).asL = rowsTwice TR i (TR.getD i []) := by
  obtain ⟨_, _, a3⟩ := o_num (val := val) h42 h77 (by omega) hN
  have g := fun j => get_den (val := val) h42 h77 j
  have e : (@Tm.den ⟨val, fnU⟩ twT).asL = ((val 42).asL.drop 0).take (@Tm.den ⟨val, fnU⟩ (.ib .add .i64 (vt 77) (.ci 1))).asI.toNat ++ [[@Tm.den ⟨val, fnU⟩ (getT 0), @Tm.den ⟨val, fnU⟩ (getT 1), @Tm.den ⟨val, fnU⟩ (getT 2), @Tm.den ⟨val, fnU⟩ (getT 3), @Tm.den ⟨val, fnU⟩ (getT 4), @Tm.den ⟨val, fnU⟩ (getT 5), @Tm.den ⟨val, fnU⟩ (getT 6), @Tm.den ⟨val, fnU⟩ (getT 7)]] := rfl
  rw [e, a3, h42, g, g, g, g, g, g, g, g, ← len8E (hR i hlt).2]
  rfl
include h42 h77 in
theorem tu_den (hlt : i < TR.length) (h8 : ((TR.getD i []).getD 0 (.dI 0)).asI = 8) : (@Tm.den ⟨val, fnU⟩ tuT).asL = TR.set i (turnR (TR.getD i [])) := by
  have g := fun j => get_den (val := val) h42 h77 j
  have e : (@Tm.den ⟨val, fnU⟩ tuT).asL = (val 42).asL.set (val 77).asI.toNat [.dI 8, @Tm.den ⟨val, fnU⟩ (getT 1), @Tm.den ⟨val, fnU⟩ (getT 2), @Tm.den ⟨val, fnU⟩ (getT 3), .dB (!(@Tm.den ⟨val, fnU⟩ (getT 4)).asB), @Tm.den ⟨val, fnU⟩ (getT 5), @Tm.den ⟨val, fnU⟩ (getT 6), @Tm.den ⟨val, fnU⟩ (getT 7)] := rfl
  rw [e, g, g, g, g, g, g, g, h42, h77]
  unfold turnR
  rw [dI_8 h8]
  rfl
include h42 h77 hi in
theorem od_den {x y : Bool} {k : Int} (h78 : val 78 = .dB x) (h79 : val 79 = .dI k) (h80 : val 80 = .dB y) : (@Tm.den ⟨val, fnU⟩ oddT6).asL = rowsOdd TR i (oddR x y k) := by
  have e : (@Tm.den ⟨val, fnU⟩ oddT6).asL = (((val 42).asL.drop 0).take (val 77).asI.toNat ++ [[.dI 8, .dI 0, val 78, val 79, val 80, .dI 0, .dI 0, .dS []]]) ++ ((val 42).asL.drop (val 77).asI.toNat).take ((((val 42).asL.length : Nat) : Int) - (val 77).asI).toNat := rfl
  rw [e, h42, h77, h78, h79, h80]
  show (TR.take i ++ [_]) ++ (TR.drop i).take _ = (TR.take i ++ [_]) ++ TR.drop i
  congr 1
  refine List.take_of_length_le ?_
  rw [List.length_drop]
  show TR.length - i ≤ ((TR.length : Int) - (i : Int)).toNat
  omega
include h1 h42 h77 hi hN hR ha
set_option maxRecDepth 100000 in
theorem tail_ok : @Tree.ok ⟨val, fnU⟩ tailT := by
  obtain ⟨a1, a2, a3⟩ := o_num (val := val) h42 h77 hi hN
  have g := fun j => get_den (val := val) h42 h77 j
  letI ρ : Rho := ⟨val, fnU⟩
  by_cases hlt : i < TR.length
  rotate_left
  · exact okT (by rw [eql_t, a1, a2]; omega) okL1
  refine okF (by rw [eql_f, a1, a2]; omega) (okT (by rw [and_t, leq_t, lss_t, a1, a2, d_ci]; omega) ?_)
  by_cases h8 : ((TR.getD i []).getD 0 (.dI 0)).asI = 8
  rotate_left
  · exact okT (by rw [neq_t, g, d_ci]; exact h8) okL1
  refine okF (by rw [neq_f, g, d_ci]; exact h8) ?_
  by_cases h4 : ((TR.getD i []).getD 3 (.dI 0)).asI ≤ 4
  rotate_left
  · exact okT (by rw [gtr_t, g, d_ci]; omega) okL1
  refine okF (by rw [gtr_f, g, d_ci]; omega) ?_
  have e1 := tw_den (val := val) h42 h77 hN hlt hR
  have e2 := tu_den (val := val) h42 h77 hlt h8
  have S1 := twice_stop hR ha hlt h8 h4
  have S2 := turn_stop hR ha hlt h8 h4
  obtain ⟨b0, b1⟩ := acc_stop (ρ := ρ) rfl h1 e1 S1
  obtain ⟨c0, c1⟩ := acc_stop (ρ := ρ) rfl h1 e2 S2
  have l1 : (rowsTwice TR i (TR.getD i [])).length = i + 2 := twice_len hlt _
  have l3 : (@Tm.den ρ (.lcut (vt 42) (.ci 0) (.ib .add .i64 (vt 77) (.ci 1)))).asL.length ≤ i + 1 := by
    have e : (@Tm.den ρ (.lcut (vt 42) (.ci 0) (.ib .add .i64 (vt 77) (.ci 1)))).asL = ((val 42).asL.drop 0).take (@Tm.den ρ (.ib .add .i64 (vt 77) (.ci 1))).asI.toNat := rfl
    rw [e, a3, List.length_take]
    omega
  have l2 : (@Tm.den ρ (.llen tuT)).asI = (TR.length : Int) := by
    rw [d_llen, e2, List.length_set]
  refine okT (by rw [and_t, leq_t, leq_t, a1, a3, d_ci]; omega) (okT (by rw [leq_t, a3, d_ci]; omega) (okT (by rw [lss_t, d_llen, d_ci]; omega) (okT (by rw [leq_t, a1, d_ci]; omega) (okT (acc2_den (ρ := ρ) rfl h1 e1 S1.rows (by omega)) (okT ?_ (okT (by rw [not_t]; exact b1) (okT (by rw [eql_t, b0, a3]; omega) (okT (by rw [not_t]; exact c1) (okT (by rw [eql_t, c0, a2]) okL1)))))))))
  rw [and_t, eql_t, l2, a1]
  exact ⟨rfl, acc2_den (ρ := ρ) rfl h1 e2 S2.rows (by rw [List.length_set]; omega)⟩
set_option maxRecDepth 100000 in
theorem body_ok {x y : Bool} {k : Int} (h78 : val 78 = .dB x) (h79 : val 79 = .dI k) (h80 : val 80 = .dB y) (hk : 1 ≤ k ∧ k ≤ 4) (c4 : val 72 = (seqC TR n2 i).getD 4 (.dI 0)) (c6 : val 74 = (seqC TR n2 i).getD 6 (.dI 0)) : @Tree.ok ⟨val, fnU⟩ bodyTr := by
  obtain ⟨a1, a2, a3⟩ := o_num (val := val) h42 h77 hi hN
  have ht := tail_ok (val := val) h1 h42 h77 hi hN hR ha
  letI ρ : Rho := ⟨val, fnU⟩
  have n79 : (@Tm.den ρ (vt 79)).asI = k := by show (val 79).asI = k; rw [h79]; rfl
  have n72 : (@Tm.den ρ (vt 72)).asI = ((seqC TR n2 i).getD 4 (.dI 0)).asI := by show (val 72).asI = _; rw [c4]
  have n74 : (@Tm.den ρ (vt 74)).asI = ((seqC TR n2 i).getD 6 (.dI 0)).asI := by show (val 74).asI = _; rw [c6]
  by_cases hr : ((seqC TR n2 i).getD 4 (.dI 0)).asI = k
  · exact okF (by rw [neq_f, n79, n72]; exact hr.symm) ht
  refine okT (by rw [neq_t, n79, n72]; exact fun h => hr h.symm) ?_
  by_cases hm : ((seqC TR n2 i).getD 6 (.dI 0)).asI = k
  · exact okF (by rw [neq_f, n79, n74]; exact hm.symm) ht
  refine okT (by rw [neq_t, n79, n74]; exact fun h => hm h.symm) ?_
  have e := od_den (val := val) h42 h77 hi h78 h79 h80
  have S := odd_stop hR ha hi hk.1 hk.2 hr hm x y
  obtain ⟨b0, b1⟩ := acc_stop (ρ := ρ) rfl h1 e S
  have l1 : (rowsOdd TR i (oddR x y k)).length = TR.length + 1 := odd_len hi _
  have l2 : (@Tm.den ρ (.lcut (vt 42) (.ci 0) (vt 77))).asL.length ≤ i := by
    have e : (@Tm.den ρ (.lcut (vt 42) (.ci 0) (vt 77))).asL = ((val 42).asL.drop 0).take (val 77).asI.toNat := rfl
    rw [e, h77, List.length_take]
    exact Nat.min_le_left _ _
  have l3 : (@Tm.den ρ oddL).asI ≤ (TR.length : Int) + 1 := by
    have e : (@Tm.den ρ oddL).asI = (((@Tm.den ρ (.lcut (vt 42) (.ci 0) (vt 77))).asL.length + 1 : Nat) : Int) + ((@Tm.den ρ (.llen (vt 42))).asI - (@Tm.den ρ (vt 77)).asI) := by
      show ((((@Tm.den ρ (.lcut (vt 42) (.ci 0) (vt 77))).asL ++ [_]).length : Nat) : Int) + _ = _
      rw [List.length_append]
      rfl
    rw [e, a1, a2]
    omega
  exact okT (by rw [and_t, leq_t, leq_t, a1, a2, d_ci]; omega) (okT (by rw [leq_t, a2, d_ci]; omega) (okT (by rw [lss_t, d_llen, d_ci]; omega) (okT (by rw [leq_t, d_ci]; omega) (okT (acc2_den (ρ := ρ) rfl h1 e S.rows (by omega)) (okF b1 (okF (by rw [neq_f, b0, a2]) ht))))))
end
theorem pick_ok {a : Int} {n : Nat} (ha : -9223372036854775808 ≤ a ∧ a ≤ 9223372036854775807) (hn : n ≤ 900) : ∃ i : Nat, i ≤ n ∧ ((IntKind.i64.wrap (a.tmod (IntKind.i64.wrap ((n : Int) + 1)) + IntKind.i64.wrap ((n : Int) + 1))).tmod (IntKind.i64.wrap ((n : Int) + 1))) = (i : Int) := by
  rw [i64wrap (x := (n : Int) + 1) (by omega) (by omega)]
  have h1 : a.tmod ((n : Int) + 1) < (n : Int) + 1 := Int.tmod_lt_of_pos _ (by omega)
  have h2 : -((n : Int) + 1) < a.tmod ((n : Int) + 1) := by
    have h := Int.tmod_lt_of_pos (-a) (show (0 : Int) < (n : Int) + 1 by omega)
    rw [Int.neg_tmod] at h
    omega
  rw [i64wrap (by omega) (by omega)]
  have h3 : 0 ≤ (a.tmod ((n : Int) + 1) + ((n : Int) + 1)).tmod ((n : Int) + 1) := Int.tmod_nonneg _ (by omega)
  have h4 : (a.tmod ((n : Int) + 1) + ((n : Int) + 1)).tmod ((n : Int) + 1) < (n : Int) + 1 := Int.tmod_lt_of_pos _ (by omega)
  exact ⟨((a.tmod ((n : Int) + 1) + ((n : Int) + 1)).tmod ((n : Int) + 1)).toNat, by omega, by omega⟩
theorem kind_ok {q : Int} (hq : 0 ≤ q ∧ q ≤ 255) : 1 ≤ IntKind.u8.wrap (1 + q.tmod 4) ∧ IntKind.u8.wrap (1 + q.tmod 4) ≤ 4 := by
  rw [Int.tmod_eq_emod_of_nonneg hq.1]
  have : IntKind.u8.wrap (1 + q % 4) = 1 + q % 4 := by
    simp [IntKind.wrap, IntKind.signed, IntKind.bits]
    omega
  rw [this]
  omega
/-- The letters: v those of run. -/
abbrev valQ (v : Nat → Dat) (a q : Int) (i : Nat) (c : List Dat) (d7 d8 d9 d0 : Dat) : Nat → Dat := fun j => bif Nat.blt j 44 then v j else bif Nat.blt j 68 then (bif Nat.beq j 65 then .dI a else bif Nat.beq j 66 then .dI q else .dI 0) else bif Nat.blt j 77 then c.getD (j - 68) (.dI 0) else bif Nat.beq j 77 then d7 else bif Nat.beq j 78 then d8 else bif Nat.beq j 79 then d9 else bif Nat.beq j 80 then d0 else .dI 0
theorem ovr_valQ {v : Nat → Dat} {a q : Int} {i : Nat} {c : List Dat} {d7 d8 d9 d0 : Dat} : ovr v (valQ v a q i c d7 d8 d9 d0) = valQ v a q i c d7 d8 d9 d0 := by
  funext n
  unfold ovr
  cases h : Nat.blt n 44 with
  | false => rfl
  | true =>
    show v n = (bif Nat.blt n 44 then v n else _)
    rw [h]; rfl
set_option maxRecDepth 100000 in
theorem lawOB_ok (ρ : Rho) : @Tree.ok ρ (lawO gFewB dead dead) := by
  letI : Rho := ρ
  exact Tree.allT_ok (lawO gFewB dead dead) lawOB_all
set_option maxRecDepth 100000 in
/-- The law holds of any rows. -/
theorem law_other {L : List (List Dat)} {n2 a q : Int} (hF : RowsF L) (hM : L.length ≤ 9223372036854775807) (hA : -9223372036854775808 ≤ a ∧ a ≤ 9223372036854775807) (hq : 0 ≤ q ∧ q ≤ 255) : ∃ (ρ : Rho) (x y z : LpG), ρ.val 0 = .dL L ∧ ρ.val 1 = .dI n2 ∧ ρ.val 65 = .dI a ∧ ρ.val 66 = .dI q ∧ @EnvOK ρ Try.prog (envO x y z) ∧ @Tree.ok ρ (lawO x y z) := by
  rcases first_not (fun i => pI L i ≤ 100) L.length with hg | ⟨m, hm, hb, hg⟩
  · by_cases hN : L.length ≤ 100
    · obtain ⟨v, TR, I, hrun⟩ := run_ex (n2 := n2) hF (by omega)
      have etr := I.tr
      have hlen := I.len
      obtain ⟨i, hi, ei⟩ := pick_ok (a := a) (n := TR.length) hA (by omega)
      obtain ⟨k1, k2⟩ := kind_ok hq
      let d8 : Dat := @Tm.den (⟨fun _ => .dI q, fnU⟩ : Rho) cmdT
      let d0 : Dat := @Tm.den (⟨fun _ => .dI q, fnU⟩ : Rho) pfT
      let val := valQ v a q i (seqC TR n2 i) (.dI i) d8 (.dI (IntKind.u8.wrap (1 + q.tmod 4))) d0
      have v42 : (val 42).asL = TR := etr
      have O : OkM val n2 i := by
        refine ⟨I.v1, rfl, by rw [v42]; exact hi, ?_, rfl, rfl, rfl, fun j hj => ?_⟩
        · show Dat.dI (i : Int) = _
          have e : @Tm.den ⟨val, fnU⟩ iTm = .dI ((IntKind.i64.wrap (a.tmod (IntKind.i64.wrap (((val 42).asL.length : Int) + 1)) + IntKind.i64.wrap (((val 42).asL.length : Int) + 1))).tmod (IntKind.i64.wrap (((val 42).asL.length : Int) + 1))) := rfl
          rw [e, v42, ei]
        · rw [v42]
          match j, hj with
          | 0, _ => rfl
          | 1, _ => rfl
          | 2, _ => rfl
          | 3, _ => rfl
          | 4, _ => rfl
          | 5, _ => rfl
          | 6, _ => rfl
          | 7, _ => rfl
          | 8, _ => rfl
          | j + 9, h => exact absurd h (by omega)
      refine ⟨⟨val, fnU⟩, gFewA, gRun, gOm, I.v0, I.v1, rfl, rfl, envO_ok rfl (gFewA_o I.v0 hM hg) ?_ (gOm_ok O (by rw [v42]; exact I.rows) (by rw [v42]; omega)), ?_⟩
      · have := hrun val
        rw [ovr_valQ] at this
        exact this
      · rw [lawOA_eq]
        have hbody := body_ok (val := val) I.v1 v42 rfl hi (by omega) I.rows I.acc rfl rfl rfl ⟨k1, k2⟩ rfl rfl
        have eN : (@Tm.den ⟨val, fnU⟩ nT).asI = (TR.length : Int) + 1 := by
          show IntKind.i64.wrap (((val 42).asL.length : Int) + 1) = _
          rw [v42, i64wrap (by omega) (by omega)]
        letI ρ : Rho := ⟨val, fnU⟩
        refine okF ?_ (okT rfl (okF ?_ (okT ?_ hbody)))
        · rw [gtr_f]
          show (((v 0).asL.length : Nat) : Int) ≤ 100 ∧ ¬ (100 : Int) < (((v 0).asL.length : Nat) : Int)
          rw [I.v0]
          show (L.length : Int) ≤ 100 ∧ ¬ (100 : Int) < (L.length : Int)
          omega
        · rw [leq_f, eN, d_ci]; omega
        · rw [neq_t, eN, d_ci]; omega
    · refine ⟨⟨valQ (V0 L n2) a q 0 [] (.dI 0) (.dI 0) (.dI 0) (.dI 0), fnU⟩, dead, dead, dead, rfl, rfl, rfl, rfl, envO_ok rfl (dead_ok _ _ _) (dead_ok _ _ _) (dead_ok _ _ _), ?_⟩
      rw [lawOD_eq]
      letI : Rho := ⟨valQ (V0 L n2) a q 0 [] (.dI 0) (.dI 0) (.dI 0) (.dI 0), fnU⟩
      exact okT (by rw [gtr_t]; show (100 : Int) < (L.length : Int) ∧ ¬ (L.length : Int) ≤ 100; omega) okL1
  · refine ⟨⟨valQ (V0 L n2) a q 0 [] (.dI 0) (.dI 0) (.dI 0) (.dI 0), fnU⟩, gFewB, dead, dead, rfl, rfl, rfl, rfl, envO_ok rfl (gFewB_o rfl hM hm hb hg) (dead_ok _ _ _) (dead_ok _ _ _), ?_⟩
    exact lawOB_ok _
end
set_option maxRecDepth 100000 in
theorem tablesOther_w (n2 : Int) (v : Value) (a q : Int) (hA : -9223372036854775808 ≤ a ∧ a ≤ 9223372036854775807) (hq : 0 ≤ q ∧ q ≤ 255) (w : World) (h : v = .slice none 0 0 ∨ ∃ a len cap rows, v = .slice (some a) len cap ∧ len ≤ maxLen ∧ SliceAt w a len cap shD rows) :
    Calls Try.prog 9 #[.int .i64 n2, v, .int .i64 a, .int .u8 q] w fun e w' => e = .returned (.bool true) ∧ RowKit.Below w.heap.size w w' := by
  have key : ∀ (L : List (List Dat)) (l : Loc), RowsF L → L.length ≤ 9223372036854775807 → (∀ ρ : Rho, ρ.val 0 = .dL L → @VR ρ (fun id => if id = 0 then some l else none) argD v ∧ @RepO ρ (fun id => if id = 0 then some l else none) 0 w (.seq shD (vt 0) false)) →
      Calls Try.prog 9 #[.int .i64 n2, v, .int .i64 a, .int .u8 q] w fun e w' => e = .returned (.bool true) ∧ RowKit.Below w.heap.size w w' := fun L l hF hM hv => by
    obtain ⟨ρ, g1, g2, g3, h0, h1, h65, h66, hE, hT⟩ := law_other (n2 := n2) hF hM hA hq
    letI := ρ
    have e1 : (vt 1).den.asI = n2 := by
      show (ρ.val 1).asI = n2
      rw [h1]; rfl
    have e2 : (vt 65).den.asI = a := by
      show (ρ.val 65).asI = a
      rw [h65]; rfl
    have e3 : (vt 66).den.asI = q := by
      show (ρ.val 66).asI = q
      rw [h66]; rfl
    obtain ⟨hv1, hv2⟩ := hv ρ h0
    have hobj : ∀ id o, H0U.get id = some o → id = 0 ∧ o = .seq shD (vt 0) false := fun id o hg => by
      have hg' : look [(0, AObj.seq shD (vt 0) false)] id = some o := hg
      rw [look_cons'] at hg'
      split at hg'
      · rename_i e; cases hg'; exact ⟨e, rfl⟩
      · cases hg'
    refine call_true_at (evFun_ok noCount hE 1000) (args := [iv 1, argD, iv 65, uv 66]) (H := H0U) rfl (fun id o hg => ?_) hT (μ := fun id => if id = 0 then some l else none) (cargs := [.int .i64 n2, v, .int .i64 a, .int .u8 q]) ?_ ⟨fun id o hg => ?_, fun i j oi oj li lj h1 h2 hij _ _ _ => ?_⟩ (fun id hid => ?_)
    · obtain ⟨_, rfl⟩ := hobj id o hg; rfl
    · exact ⟨_, _, (by rw [← e1]; exact rfl), ⟨_, _, hv1, ⟨_, _, (by rw [← e2]; exact rfl), ⟨_, _, (by rw [← e3]; exact rfl), rfl, rfl⟩, rfl⟩, rfl⟩, rfl⟩
    · obtain ⟨rfl, rfl⟩ := hobj id o hg
      exact hv2
    · obtain ⟨rfl, _⟩ := hobj i oi h1
      obtain ⟨rfl, _⟩ := hobj j oj h2
      exact absurd rfl hij
    · have : id ≠ 0 := by
        have h1 : 1 ≤ id := hid
        omega
      exact if_neg this
  rcases h with rfl | ⟨ad, len, cap, L, rfl, hmx, hs⟩
  · refine key [] ⟨0, 0, 0, 8, 0, true⟩ (fun i hi => by cases hi) (by decide) fun ρ h0 => ?_
    letI := ρ
    have e : (@Tm.den ρ (.llen (vt 0))).asI = 0 := by
      show (((ρ.val 0).asL.length : Nat) : Int) = 0
      rw [h0]; rfl
    have e0 : (@Tm.den ρ (.ci 0)).asI = 0 := rfl
    refine ⟨⟨_, rfl, rfl, by decide, by rw [e0]; exact Int.le_refl _, by rw [e]; exact Int.le_refl _, ⟨by rw [e0, e]; exact Nat.le_refl _, by rw [e0, e]; exact Nat.le_refl _⟩, .inr ⟨rfl, e, rfl⟩⟩, ⟨_, rfl, ⟨rfl, ?_⟩, Nat.le_refl _, .inl ⟨rfl, rfl, ?_⟩⟩⟩
    · show (ρ.val 0).asL.length * 8 = 0
      rw [h0]; rfl
    · show (ρ.val 0).asL = []
      rw [h0]; rfl
  · have hF : RowsF L := fun i hi => by
      rw [hs.n] at hi
      obtain ⟨n, h1, h2⟩ := hs.ok i hi 3 _ rfl
      rw [h1]
      simp [Lit.wf, IntKind.min, IntKind.max, IntKind.signed, IntKind.bits] at h2
      show 0 ≤ n ∧ n ≤ 255
      omega
    have hM : L.length ≤ 9223372036854775807 := by
      rw [hs.n]
      exact Nat.le_trans hmx (by decide)
    refine key L ⟨ad.block, ad.off, cap, shD.length, len * shD.length, false⟩ hF hM fun ρ h0 => ?_
    letI := ρ
    have ht : (vt 0).den.asL = L := by
      show (ρ.val 0).asL = L
      rw [h0]; rfl
    exact ⟨hs.val (by decide) ht rfl, hs.rep ht rfl⟩
end Go.Proofs.Ytlbkficdelepeaa.Ab
namespace Go.Proofs.Ytlbkficdelepeaa
open Go Go.Proofs.Ytlbkficdelepeaa.Ab
theorem tablesOther_walk (n2 : Int) (_ : (Lit.int .i64 n2).wf = true) (v : Value) (a : Int) (ha : (Lit.int .i64 a).wf = true) (q : Int) (hq : (Lit.int .u8 q).wf = true) (w : World) (h : v = .slice none 0 0 ∨ ∃ a len cap rows, v = .slice (some a) len cap ∧ len ≤ maxLen ∧ SliceAt w a len cap shD rows) :
    Calls Try.prog 9 #[.int .i64 n2, v, .int .i64 a, .int .u8 q] w fun e w' => e = .returned (.bool true) ∧ RowKit.Below w.heap.size w w' := by
  have h1 : -9223372036854775808 ≤ a ∧ a ≤ 9223372036854775807 := by
    simp [Lit.wf, IntKind.min, IntKind.max, IntKind.signed, IntKind.bits] at ha
    omega
  have h2 : 0 ≤ q ∧ q ≤ 255 := by
    simp [Lit.wf, IntKind.min, IntKind.max, IntKind.signed, IntKind.bits] at hq
    omega
  exact tablesOther_w n2 v a q h1 h2 w h
end Go.Proofs.Ytlbkficdelepeaa
