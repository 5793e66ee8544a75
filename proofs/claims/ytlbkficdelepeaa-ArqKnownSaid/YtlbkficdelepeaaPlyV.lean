/-
  ArqPlays, called: it returns true and makes at most new blocks: its loops' contracts, its arguments.
  Conditions: arguments as the model reads them.
-/
import Derived.Test.YtlbkficdelepeaaPlyU
import Derived.Test.YtlbkficdelepeaaB0
namespace Go.Proofs.Ytlbkficdelepeaa.Ab.Pl
set_option linter.unusedSimpArgs false
set_option linter.unusedVariables false
open Go
set_option linter.unusedSectionVars false
noncomputable section
theorem first_not (p : Nat → Prop) (n : Nat) : (∀ i, i < n → p i) ∨ ∃ m, m < n ∧ ¬ p m ∧ ∀ i, i < m → p i := by
  induction n with
  | zero => exact .inl fun i hi => by omega
  | succ n ih =>
    rcases ih with h | ⟨m, h1, h2, h3⟩
    · by_cases hp : p n
      · refine .inl fun i hi => ?_
        rcases Nat.lt_or_ge i n with h4 | h4
        · exact h i h4
        · obtain rfl : i = n := by omega
          exact hp
      · exact .inr ⟨n, by omega, hp, h⟩
    · exact .inr ⟨m, by omega, h2, h3⟩
def DA0 (k n2 t1 : Int) : List Dat := [.dI 0, .dI 0, .dI 0, .dI 0, .dI 0, .dI 0, .dI 0, .dB false, .dB false, .dB false, .dB false, .dB false, .dB false, .dI k, .dI n2, .dI t1, .dI 0, .dI 0, .dB false, .dI 0, .dB false, .dB false, .dB false, .dB false]
def DS0 (k n2 t1 : Int) : List Dat := [.dI k, .dI n2, .dI t1, .dI 0, .dI 0, .dB false, .dI 0, .dI 0, .dI 0, .dI 0, .dB false, .dB false, .dB false, .dB false, .dB false, .dB false, .dB false, .dB false, .dB false, .dB false, .dI 0, .dI 0]
def seqP (L : List (List Dat)) (k n2 t1 : Int) : Nat → List Dat × List Dat
  | 0 => (DA0 k n2 t1, DS0 k n2 t1)
  | i + 1 => ((nxtA (L.getD i []) (aOf (seqP L k n2 t1 i).1)).toL, (nxtS (L.getD i []) (sOf (seqP L k n2 t1 i).2)).toL)
section
variable {L : List (List Dat)} {k n2 t1 : Int}
theorem seqP_len : ∀ i, (seqP L k n2 t1 i).1.length = 24 ∧ (seqP L k n2 t1 i).2.length = 22
  | 0 => ⟨rfl, rfl⟩
  | _ + 1 => ⟨rfl, rfl⟩
theorem rel0 (h1 : 1 ≤ k) (h2 : k ≤ 7) (h3 : 0 ≤ n2) (h4 : n2 ≤ 255) (h5 : 1 ≤ t1) (h6 : t1 ≤ 255) : Rel 0 (aOf (DA0 k n2 t1)) (sOf (DS0 k n2 t1)) :=
  { ek := rfl, en := rfl, et := rfl, k1 := h1, k7 := h2, n0 := h3, n2 := h4, t0 := h5, t2 := h6, va := rfl, vr := rfl, out := rfl, high := rfl, len := rfl, failed := rfl, busy := rfl, rejs := rfl, wants := rfl, pb := rfl, asks := rfl, due := rfl, final := rfl, reject := rfl, poll := rfl, tries := rfl, left := rfl,
    acked0 := Int.le_refl _, sent0 := Int.le_refl _, top0 := Int.le_refl _, len0 := Int.le_refl _, lenk := by show (0 : Int) - 0 ≤ k; omega
    lenN := Int.le_refl _, got0 := Int.le_refl _, gotN := Int.le_refl _, aoff := Int.le_refl _, aL := Int.le_refl _, soff := Int.le_refl _, sL := Int.le_refl _, W := rfl, left0 := Int.le_refl _, left2 := by show (0 : Int) ≤ 255; omega
    tries0 := Int.le_refl _, tries2 := by show (0 : Int) ≤ n2 + 1; omega
    tries3 := fun _ => h3, fleft := fun _ => rfl }
theorem seqP_rel (h1 : 1 ≤ k) (h2 : k ≤ 7) (h3 : 0 ≤ n2) (h4 : n2 ≤ 255) (h5 : 1 ≤ t1) (h6 : t1 ≤ 255) : ∀ i : Nat, Rel i (aOf (seqP L k n2 t1 i).1) (sOf (seqP L k n2 t1 i).2)
  | 0 => rel0 h1 h2 h3 h4 h5 h6
  | i + 1 => (seqP_rel h1 h2 h3 h4 h5 h6 i).step (L.getD i [])
/-- The letters, at the end of both loops. -/
abbrev rhoE (L : List (List Dat)) (k n2 t1 e4 : Int) (n : Nat) : Rho := rhoP L k n2 t1 e4 n (seqP L k n2 t1 n).1 (seqP L k n2 t1 n).2
theorem val_hi {e4 e4' : Int} {i i' : Nat} {DA DS DA' DS' : List Dat} (h1 : DS.length = 22) (h2 : DS'.length = 22) (n : Nat) : (rhoP L k n2 t1 e4 i DA DS).val (n + 52) = (rhoP L k n2 t1 e4' i' DA' DS').val (n + 52) := by
  have b1 : Nat.blt (n + 52) 6 = false := by
    rw [Bool.eq_false_iff]; intro h; rw [Nat.blt_eq] at h; omega
  have b2 : Nat.blt (n + 52) 30 = false := by
    rw [Bool.eq_false_iff]; intro h; rw [Nat.blt_eq] at h; omega
  show (bif Nat.blt (n + 52) 6 then _ else bif Nat.blt (n + 52) 30 then _ else DS.getD (n + 52 - 30) (.dI 0)) = (bif Nat.blt (n + 52) 6 then _ else bif Nat.blt (n + 52) 30 then _ else DS'.getD (n + 52 - 30) (.dI 0))
  simp only [b1, b2, cond_false]
  rw [List.getD_eq_getElem?_getD, List.getD_eq_getElem?_getD, List.getElem?_eq_none (by omega), List.getElem?_eq_none (by omega)]
theorem val_6 {e4 e4' : Int} {i : Nat} {DA DS : List Dat} (n : Nat) : (rhoP L k n2 t1 e4 i DA DS).val (n + 6) = (rhoP L k n2 t1 e4' i DA DS).val (n + 6) := by
  have b1 : Nat.blt (n + 6) 6 = false := by
    rw [Bool.eq_false_iff]; intro h; rw [Nat.blt_eq] at h; omega
  show (bif Nat.blt (n + 6) 6 then _ else _) = (bif Nat.blt (n + 6) 6 then _ else _)
  simp only [b1, cond_false]
/-- An information's length. -/
def pI (L : List (List Dat)) (i : Nat) : Nat := ((L.getD i []).getD 7 (.dI 0)).asS.length
theorem envP_ok {ρ : Rho} (hf : ρ.fn = fnOf mSid) {a b : LpG} (h1 : GOk ρ fPly 0 a) (h2 : GOk ρ fPly 1 b) : @EnvOK ρ Try.prog (envP a b) := by
  refine ⟨(envL_ok hf).fn, fun f fn cd q1 q2 => ?_⟩
  simp only [envP, lpP]
  cases e1 : Nat.beq f fPly with
  | true =>
    obtain rfl := Nat.eq_of_beq_eq_true e1
    exact lf2_ok keyP1 keyP2 h1 h2 q1 q2
  | false => exact lf0_ok
theorem cfL (ρ : Rho) (hf : ρ.fn = fnOf mSid) : @CfOK ρ (AX × Option Eqs) Try.prog (evFun Try.prog envL 1000) := by
  letI : Rho := ρ
  exact evFun_ok noCount (envL_ok hf) 1000
theorem addB {i : Nat} (h : i < 9223372036854775807) {ρ' : Rho} {DA DS : List Dat} {j : Nat} (e : (ρ'.val 4).asI = ((i + 1 : Nat) : Int)) : (@Tm.den ρ' (vt 4)).asI = (@Tm.den (rhoP L k n2 t1 (i : Nat) j DA DS) (.ib .add .i64 (vt 4) (.ci 1))).asI := by
  show (ρ'.val 4).asI = IntKind.i64.wrap ((i : Int) + 1)
  rw [e, i64wrap (by omega) (by omega)]
  omega
section
variable {j : Nat} {DA DS : List Dat} (hM : L.length ≤ 9223372036854775807)
include hM
theorem len_at {i : Nat} (hi : i < L.length) : (@Tm.den (rhoP L k n2 t1 (i : Nat) j DA DS) (.ib .lss .i64 (vt 4) (.llen (vt 0)))).asB = true ∧ (@Tm.den (rhoP L k n2 t1 (i : Nat) j DA DS) rt1P_0).asB = true := by
  have e1 : (@Tm.den (rhoP L k n2 t1 (i : Nat) j DA DS) (.ib .lss .i64 (vt 4) (.llen (vt 0)))).asB = true := decide_eq_true (by show (i : Int) < (L.length : Int); omega)
  refine ⟨e1, ?_⟩
  rw [and_t]
  exact ⟨(by show decide ((0 : Int) ≤ (i : Int)) = true; exact decide_eq_true (by omega)), e1⟩
theorem g1P_ok (hg : ∀ i, i < L.length → pI L i ≤ 60) : GOk (rhoP L k n2 t1 L.length j DA DS) fPly 0 g1P := by
  refine loopN_ok noCount (rhoP L k n2 t1 L.length j DA DS) (fun i => rhoP L k n2 t1 (i : Nat) j DA DS) L.length (fuel := 1000000) (cf := evFun Try.prog envL 1000) (lf := fun _ => none) (by simp) rfl (fun i _ => cfL _ rfl) (fun i _ => by letI : Rho := rhoP L k n2 t1 (i : Nat) j DA DS; exact lf0_ok) (fun i _ => ⟨fun n hn => ?_, rfl⟩) (fun i hi => ?_) ?_ (fun n => ?_)
  · match n, hn with
    | 0, _ => (show _ = _; kernel_rfl)
    | 1, _ => (show _ = _; kernel_rfl)
    | 2, _ => (show _ = _; kernel_rfl)
    | 3, _ => (show _ = _; kernel_rfl)
  · rw [rt1P_eq]
    obtain ⟨e1, e2⟩ := len_at hM (k := k) (n2 := n2) (t1 := t1) (j := j) (DA := DA) (DS := DS) hi
    refine nxT e1 (nxT e2 (nxF ?_ (nxL ((eI _ _ _ _).2 ⟨addB (by omega) (by kernel_rfl), trivial⟩))))
    have := hg i hi
    exact decide_eq_false (by show ¬ ((pI L i : Nat) : Int) > 60; omega)
  · rw [rt1P_eq]
    refine ⟨[], ?_, trivial⟩
    have e : (@Tm.den (rhoP L k n2 t1 L.length j DA DS) (.ib .lss .i64 (vt 4) (.llen (vt 0)))).asB = false := decide_eq_false (by show ¬ (L.length : Int) < (L.length : Int); omega)
    unfold rt1P
    exact sel_F e
  · match n with
    | 0 => (show _ = _; kernel_rfl)
    | 1 => (show _ = _; kernel_rfl)
    | 2 => (show _ = _; kernel_rfl)
    | 3 => (show _ = _; kernel_rfl)
    | 4 => (show _ = _; kernel_rfl)
    | 5 => (show _ = _; kernel_rfl)
    | n + 6 => exact val_6 n
theorem g1Q_ok {m : Nat} (hm : m < L.length) (hb : ¬ pI L m ≤ 60) (hg : ∀ i, i < m → pI L i ≤ 60) : GOk (rhoP L k n2 t1 m j DA DS) fPly 0 g1Q := by
  refine loopN_ok noCount (rhoP L k n2 t1 m j DA DS) (fun i => rhoP L k n2 t1 (i : Nat) j DA DS) m (fuel := 1000000) (cf := evFun Try.prog envL 1000) (lf := fun _ => none) (by simp) rfl (fun i _ => cfL _ rfl) (fun i _ => by letI : Rho := rhoP L k n2 t1 (i : Nat) j DA DS; exact lf0_ok) (fun i _ => ⟨fun n hn => ?_, rfl⟩) (fun i hi => ?_) ?_ (fun n => ?_)
  · match n, hn with
    | 0, _ => (show _ = _; kernel_rfl)
    | 1, _ => (show _ = _; kernel_rfl)
    | 2, _ => (show _ = _; kernel_rfl)
    | 3, _ => (show _ = _; kernel_rfl)
  · rw [rt1Q_eq]
    obtain ⟨e1, e2⟩ := len_at hM (k := k) (n2 := n2) (t1 := t1) (j := j) (DA := DA) (DS := DS) (show i < L.length by omega)
    refine nxT e1 (nxT e2 (nxF ?_ (nxL ((eI _ _ _ _).2 ⟨addB (by omega) (by kernel_rfl), trivial⟩))))
    have := hg i hi
    exact decide_eq_false (by show ¬ ((pI L i : Nat) : Int) > 60; omega)
  · rw [rt1Q_eq]
    refine ⟨[], ?_, trivial⟩
    obtain ⟨e1, e2⟩ := len_at hM (k := k) (n2 := n2) (t1 := t1) (j := j) (DA := DA) (DS := DS) hm
    unfold rt1Q
    have e3 : (@Tm.den (rhoP L k n2 t1 m j DA DS) (.ib .gtr .i64 (.len (.lget (vt 0) (vt 4) 7)) (.ci 60))).asB = true := decide_eq_true (by show ((pI L m : Nat) : Int) > 60; omega)
    exact (sel_T e1).trans ((sel_T e2).trans (sel_T e3))
  · match n with
    | 0 => (show _ = _; kernel_rfl)
    | 1 => (show _ = _; kernel_rfl)
    | 2 => (show _ = _; kernel_rfl)
    | 3 => (show _ = _; kernel_rfl)
    | 4 => (show _ = _; kernel_rfl)
    | 5 => (show _ = _; kernel_rfl)
    | n + 6 => exact val_6 n
end
theorem g2P_ok (hL : RowsC L) (hN : L.length ≤ 120) (h1 : 1 ≤ k) (h2 : k ≤ 7) (h3 : 0 ≤ n2) (h4 : n2 ≤ 255) (h5 : 1 ≤ t1) (h6 : t1 ≤ 255) : GOk (rhoE L k n2 t1 L.length L.length) fPly 1 g2P := by
  refine loopN_ok noCount (rhoE L k n2 t1 L.length L.length) (fun i => rhoE L k n2 t1 L.length i) L.length (fuel := 1000000) (cf := evFun Try.prog envL 1000) (lf := fun _ => none) (by simp) rfl (fun i _ => cfL _ rfl) (fun i _ => by letI : Rho := rhoE L k n2 t1 L.length i; exact lf0_ok) (fun i _ => ⟨fun n hn => ?_, rfl⟩) (fun i hi => ?_) ?_ (fun n => ?_)
  · match n, hn with
    | 0, _ => (show _ = _; kernel_rfl)
    | 1, _ => (show _ = _; kernel_rfl)
    | 2, _ => (show _ = _; kernel_rfl)
    | 3, _ => (show _ = _; kernel_rfl)
    | 4, _ => (show _ = _; kernel_rfl)
  · rw [rt2P_eq]
    exact round_nx (seqP_rel h1 h2 h3 h4 h5 h6 i) (by omega) hL hi (by omega)
  · rw [rt2P_eq]
    refine ⟨[], ?_, trivial⟩
    have e : (@Tm.den (rhoE L k n2 t1 L.length L.length) (.ib .lss .i64 (vt 5) (.llen (vt 0)))).asB = false := decide_eq_false (by show ¬ (L.length : Int) < (L.length : Int); omega)
    unfold rt2P
    exact sel_F e
  · match n with
    | 0 => (show _ = _; kernel_rfl)
    | 1 => (show _ = _; kernel_rfl)
    | 2 => (show _ = _; kernel_rfl)
    | 3 => (show _ = _; kernel_rfl)
    | 4 => (show _ = _; kernel_rfl)
    | 5 => (show _ = _; kernel_rfl)
    | 6 => (show _ = _; kernel_rfl)
    | 7 => (show _ = _; kernel_rfl)
    | 8 => (show _ = _; kernel_rfl)
    | 9 => (show _ = _; kernel_rfl)
    | 10 => (show _ = _; kernel_rfl)
    | 11 => (show _ = _; kernel_rfl)
    | 12 => (show _ = _; kernel_rfl)
    | 13 => (show _ = _; kernel_rfl)
    | 14 => (show _ = _; kernel_rfl)
    | 15 => (show _ = _; kernel_rfl)
    | 16 => (show _ = _; kernel_rfl)
    | 17 => (show _ = _; kernel_rfl)
    | 18 => (show _ = _; kernel_rfl)
    | 19 => (show _ = _; kernel_rfl)
    | 20 => (show _ = _; kernel_rfl)
    | 21 => (show _ = _; kernel_rfl)
    | 22 => (show _ = _; kernel_rfl)
    | 23 => (show _ = _; kernel_rfl)
    | 24 => (show _ = _; kernel_rfl)
    | 25 => (show _ = _; kernel_rfl)
    | 26 => (show _ = _; kernel_rfl)
    | 27 => (show _ = _; kernel_rfl)
    | 28 => (show _ = _; kernel_rfl)
    | 29 => (show _ = _; kernel_rfl)
    | 30 => (show _ = _; kernel_rfl)
    | 31 => (show _ = _; kernel_rfl)
    | 32 => (show _ = _; kernel_rfl)
    | 33 => (show _ = _; kernel_rfl)
    | 34 => (show _ = _; kernel_rfl)
    | 35 => (show _ = _; kernel_rfl)
    | 36 => (show _ = _; kernel_rfl)
    | 37 => (show _ = _; kernel_rfl)
    | 38 => (show _ = _; kernel_rfl)
    | 39 => (show _ = _; kernel_rfl)
    | 40 => (show _ = _; kernel_rfl)
    | 41 => (show _ = _; kernel_rfl)
    | 42 => (show _ = _; kernel_rfl)
    | 43 => (show _ = _; kernel_rfl)
    | 44 => (show _ = _; kernel_rfl)
    | 45 => (show _ = _; kernel_rfl)
    | 46 => (show _ = _; kernel_rfl)
    | 47 => (show _ = _; kernel_rfl)
    | 48 => (show _ = _; kernel_rfl)
    | 49 => (show _ = _; kernel_rfl)
    | 50 => (show _ = _; kernel_rfl)
    | 51 => (show _ = _; kernel_rfl)
    | n + 52 => exact val_hi (seqP_len _).2 (seqP_len _).2 n
theorem okT [Rho] {c : Tm} {x y : Tree AV} (h : c.den.asB = true) (hx : x.ok) : (Tree.fork c x y).ok := ⟨fun _ => hx, fun k => absurd (h.symm.trans k) (by simp)⟩
theorem okF [Rho] {c : Tm} {x y : Tree AV} (h : c.den.asB = false) (hy : y.ok) : (Tree.fork c x y).ok := ⟨fun k => absurd (h.symm.trans k) (by simp), fun _ => hy⟩
theorem okL1 [Rho] : (Tree.leaf (AV.bool true)).ok := ⟨.cb true, rfl, rfl⟩
theorem lawC_ok {e4 : Int} {j : Nat} {DA DS : List Dat} (h : ¬ (L.length ≤ 120 ∧ 1 ≤ k ∧ k ≤ 7 ∧ 0 ≤ n2 ∧ n2 ≤ 255 ∧ 1 ≤ t1 ∧ t1 ≤ 255)) : @Tree.ok (rhoP L k n2 t1 e4 j DA DS) lawCt := by
  letI ρ : Rho := rhoP L k n2 t1 e4 j DA DS
  have d0 : (Tm.llen (vt 0)).den.asI = (L.length : Int) := rfl
  have d1 : (vt 1).den.asI = k := rfl
  have d2 : (vt 2).den.asI = n2 := rfl
  have d3 : (vt 3).den.asI = t1 := rfl
  refine ⟨fun _ => okL1, fun q1 => ⟨fun q2 => ⟨fun _ => okL1, fun q3 => ⟨fun q4 => ⟨fun _ => okL1, fun q5 => ⟨fun q6 => ⟨fun _ => okL1, fun q7 => ?_⟩, fun _ => okL1⟩⟩, fun _ => okL1⟩⟩, fun _ => okL1⟩⟩
  simp only [gtr_f, geq_t, d0, d1, d2, d3, d_ci] at q1 q2 q3 q4 q5 q6 q7
  exact absurd ⟨by omega, by omega, by omega, by omega, by omega, by omega, by omega⟩ h
set_option maxRecDepth 100000 in
theorem lawA_ok (ρ : Rho) : @Tree.ok ρ (lawP g1P g2P) := by
  letI : Rho := ρ
  exact Tree.allT_ok (lawP g1P g2P) lawA_all
set_option maxRecDepth 100000 in
theorem lawB_ok (ρ : Rho) : @Tree.ok ρ (lawP g1Q dead) := by
  letI : Rho := ρ
  exact Tree.allT_ok (lawP g1Q dead) lawB_all
set_option maxRecDepth 100000 in
/-- The law holds of any rows. -/
theorem law_plays (hL : RowsC L) (hM : L.length ≤ 9223372036854775807) : ∃ (ρ : Rho) (a b : LpG), ρ.val 0 = .dL L ∧ ρ.val 1 = .dI k ∧ ρ.val 2 = .dI n2 ∧ ρ.val 3 = .dI t1 ∧ @EnvOK ρ Try.prog (envP a b) ∧ @Tree.ok ρ (lawP a b) := by
  rcases first_not (fun i => pI L i ≤ 60) L.length with hg | ⟨m, hm, hb, hg⟩
  · by_cases h : L.length ≤ 120 ∧ 1 ≤ k ∧ k ≤ 7 ∧ 0 ≤ n2 ∧ n2 ≤ 255 ∧ 1 ≤ t1 ∧ t1 ≤ 255
    · obtain ⟨h0, h1, h2, h3, h4, h5, h6⟩ := h
      refine ⟨rhoE L k n2 t1 L.length L.length, g1P, g2P, rfl, rfl, rfl, rfl, envP_ok rfl (g1P_ok hM hg) (g2P_ok hL h0 h1 h2 h3 h4 h5 h6), ?_⟩
      exact lawA_ok _
    · refine ⟨rhoP L k n2 t1 L.length 0 [] [], g1P, dead, rfl, rfl, rfl, rfl, envP_ok rfl (g1P_ok hM hg) (dead_ok _ _ _), ?_⟩
      rw [lawC_eq]
      exact lawC_ok h
  · refine ⟨rhoP L k n2 t1 m 0 [] [], g1Q, dead, rfl, rfl, rfl, rfl, envP_ok rfl (g1Q_ok hM hm hb hg) (dead_ok _ _ _), ?_⟩
    exact lawB_ok _
end
set_option maxRecDepth 100000 in
theorem nilP_all : Tree.allT (evFun Try.prog envL 1000 fPly [iv 1, iv 2, iv 3, .nilSlice] heap0 fun v _ => .leaf v) = true := by kernel_rfl
end
set_option maxRecDepth 100000 in
theorem arqPlays_w (k n2 t1 : Int) (v : Value) (w : World) (h : v = .slice none 0 0 ∨ ∃ a len cap rows, v = .slice (some a) len cap ∧ len ≤ maxLen ∧ SliceAt w a len cap shC rows) :
    Calls Try.prog 5 #[.int .i64 k, .int .i64 n2, .int .i64 t1, v] w fun e w' => e = .returned (.bool true) ∧ RowKit.Below w.heap.size w w' := by
  rcases h with rfl | ⟨a, len, cap, L, rfl, hmx, hs⟩
  · letI ρ : Rho := rhoP [] k n2 t1 0 0 [] []
    exact call_true (evFun_ok noCount (envL_ok rfl) 1000) (args := [iv 1, iv 2, iv 3, .nilSlice]) (Tree.allT_ok _ nilP_all) (cargs := [.int .i64 k, .int .i64 n2, .int .i64 t1, .slice none 0 0]) ⟨_, _, rfl, ⟨_, _, rfl, ⟨_, _, rfl, ⟨_, _, rfl, rfl, rfl⟩, rfl⟩, rfl⟩, rfl⟩ w
  · have hR : RowsC L := fun i hi => by
      rw [hs.n] at hi
      have u8 : ∀ j, shC[j]? = some (.ki .u8) → 0 ≤ gI (L.getD i []) j ∧ gI (L.getD i []) j ≤ 255 := fun j hj => by
        obtain ⟨n, h1, h2⟩ := hs.ok i hi j _ hj
        unfold gI
        rw [h1]
        simp [Lit.wf, IntKind.min, IntKind.max, IntKind.signed, IntKind.bits] at h2
        show 0 ≤ n ∧ n ≤ 255
        omega
      exact ⟨u8 0 rfl, u8 5 rfl, u8 6 rfl⟩
    have hM : L.length ≤ 9223372036854775807 := by
      rw [hs.n]
      exact Nat.le_trans hmx (by decide)
    obtain ⟨ρ, g1, g2, h0, h1, h2, h3, hE, hT⟩ := law_plays (k := k) (n2 := n2) (t1 := t1) hR hM
    letI := ρ
    have ht : (vt 0).den.asL = L := by
      show (ρ.val 0).asL = L
      rw [h0]; rfl
    have e1 : (vt 1).den.asI = k := by
      show (ρ.val 1).asI = k
      rw [h1]; rfl
    have e2 : (vt 2).den.asI = n2 := by
      show (ρ.val 2).asI = n2
      rw [h2]; rfl
    have e3 : (vt 3).den.asI = t1 := by
      show (ρ.val 3).asI = t1
      rw [h3]; rfl
    have hm : (fun id => if id = 0 then some (⟨a.block, a.off, cap, shC.length, len * shC.length, false⟩ : Loc) else none) 0 = some ⟨a.block, a.off, cap, shC.length, len * shC.length, false⟩ := rfl
    have hobj : ∀ id o, H0P.get id = some o → id = 0 ∧ o = .seq shC (vt 0) false := fun id o hg => by
      have hg' : look [(0, AObj.seq shC (vt 0) false)] id = some o := hg
      rw [look_cons'] at hg'
      split at hg'
      · rename_i e; cases hg'; exact ⟨e, rfl⟩
      · cases hg'
    refine call_true_at (evFun_ok noCount hE 1000) (args := argsP) (H := H0P) rfl (fun id o hg => ?_) hT (μ := fun id => if id = 0 then some (⟨a.block, a.off, cap, shC.length, len * shC.length, false⟩ : Loc) else none) (cargs := [.int .i64 k, .int .i64 n2, .int .i64 t1, .slice (some a) len cap]) ?_ ⟨fun id o hg => ?_, fun i j oi oj li lj h1 h2 hij _ _ _ => ?_⟩ (fun id hid => ?_)
    · obtain ⟨_, rfl⟩ := hobj id o hg; rfl
    · exact ⟨_, _, (by rw [← e1]; exact rfl), ⟨_, _, (by rw [← e2]; exact rfl), ⟨_, _, (by rw [← e3]; exact rfl), ⟨_, _, hs.val (by decide) ht hm, rfl, rfl⟩, rfl⟩, rfl⟩, rfl⟩
    · obtain ⟨rfl, rfl⟩ := hobj id o hg
      exact hs.rep ht hm
    · obtain ⟨rfl, _⟩ := hobj i oi h1
      obtain ⟨rfl, _⟩ := hobj j oj h2
      exact absurd rfl hij
    · have : id ≠ 0 := by
        have h1 : 1 ≤ id := hid
        omega
      exact if_neg this
end Go.Proofs.Ytlbkficdelepeaa.Ab.Pl
namespace Go.Proofs.Ytlbkficdelepeaa
open Go Go.Proofs.Ytlbkficdelepeaa.Ab Go.Proofs.Ytlbkficdelepeaa.Ab.Pl
theorem arqPlays_walk (k : Int) (_ : (Lit.int .i64 k).wf = true) (n2 : Int) (_ : (Lit.int .i64 n2).wf = true) (t1 : Int) (_ : (Lit.int .i64 t1).wf = true) (v : Value) (w : World) (h : v = .slice none 0 0 ∨ ∃ a len cap rows, v = .slice (some a) len cap ∧ len ≤ maxLen ∧ SliceAt w a len cap shC rows) :
    Calls Try.prog 5 #[.int .i64 k, .int .i64 n2, .int .i64 t1, v] w fun e w' => e = .returned (.bool true) ∧ RowKit.Below w.heap.size w w' := arqPlays_w k n2 t1 v w h
end Go.Proofs.Ytlbkficdelepeaa
