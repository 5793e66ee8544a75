/-
  TablesLink, called: it returns true and makes at most new blocks.
  Conditions: arguments as the model reads them.
-/
import Derived.Test.YtlbkficdelepeaaTlX
import Derived.Test.YtlbkficdelepeaaBase
namespace Go.Proofs.Ytlbkficdelepeaa.Ab
set_option linter.unusedSimpArgs false
set_option linter.unusedVariables false
open Go
set_option linter.unusedSectionVars false
noncomputable section
theorem eqW {α : Type} {x y u v : α} (h : u = v) (h1 : x = u) (h2 : y = v) : x = y := h1.trans (h.trans h2.symm)
theorem first_not (p : Nat → Prop) (n : Nat) : (∀ i, i < n → p i) ∨ ∃ m, m < n ∧ ¬ p m ∧ ∀ i, i < m → p i := by
  induction n with
  | zero => exact .inl fun i hi => by omega
  | succ n ih =>
    rcases ih with h | ⟨m, h1, h2, h3⟩
    · by_cases hp : p n
      · refine .inl fun i hi => ?_
        rcases Nat.lt_or_ge i n with h4 | h4
        · exact h i h4
        · obtain rfl : i = n := by omega
          exact hp
      · exact .inr ⟨n, by omega, hp, h⟩
    · exact .inr ⟨m, by omega, h2, h3⟩
/-- The letters: v those of run, then the loops over the trace, then the lengths'. -/
abbrev rhoK (v : Nat → Dat) (k2 : Nat) (c2 : List Dat) (k3 : Nat) (c3 : List Dat) (k0 : Nat) : Rho := ⟨fun j => bif Nat.blt j 44 then v j else bif Nat.blt j 45 then .dI k2 else bif Nat.blt j 54 then c2.getD (j - 45) (.dI 0) else bif Nat.blt j 55 then .dI k3 else bif Nat.blt j 64 then c3.getD (j - 55) (.dI 0) else bif Nat.blt j 65 then .dI k0 else .dI 0, fnU⟩
def V0 (L : List (List Dat)) (n2 : Int) (n : Nat) : Dat := [.dL L, .dI n2, .dI 0, .dI 0, .dI 1, .dB false, .dI 0, moD n2, .dI 0, .dI 0, .dI 0, .dI 0, .dI 0, .dI 0, .dI 0, .dB false, .dB false, .dB false, .dB false, .dB false, .dB false, .dI 2, .dI 3, .dI 2, .dI 0, .dI 0, .dB false, .dI 0, .dB false, .dB false, .dB false, .dB false, .dI 0, .dB false, .dB false, .dI 0, .dI 0, .dI 0, .dB false, .dB false, .dI 0, .dI 0, .dB false, .dB false].getD n (.dI 0)
section
variable {L : List (List Dat)} {n2 : Int}
theorem addK {t : Nat} {ρ ρ' : Rho} {i : Nat} (h : i < 9223372036854775807) (e : (ρ.val t).asI = (i : Int)) (e' : (ρ'.val t).asI = ((i + 1 : Nat) : Int)) : (@Tm.den ρ' (vt t)).asI = (@Tm.den ρ (.ib .add .i64 (vt t) (.ci 1))).asI := by
  show (ρ'.val t).asI = IntKind.i64.wrap ((ρ.val t).asI + 1)
  rw [e, e', i64wrap (by omega) (by omega)]
  omega
theorem insideK {t : Nat} {ρ : Rho} {i n : Nat} {l : Tm} (e : (ρ.val t).asI = (i : Int)) (el : (@Tm.den ρ (.llen l)).asI = (n : Int)) (h : i < n) : (@Tm.den ρ (.ib .lss .i64 (vt t) (.llen l))).asB = true ∧ (@Tm.den ρ (.and (.ib .leq .i64 (.ci 0) (vt t)) (.ib .lss .i64 (vt t) (.llen l)))).asB = true := by
  have e1 : (@Tm.den ρ (.ib .lss .i64 (vt t) (.llen l))).asB = true := by
    rw [lss_t, el]
    show (ρ.val t).asI < _ ∧ ¬ _ ≤ (ρ.val t).asI
    rw [e]; omega
  refine ⟨e1, ?_⟩
  rw [and_t]
  refine ⟨?_, e1⟩
  rw [leq_t]
  show (0 : Int) ≤ (ρ.val t).asI ∧ ¬ (ρ.val t).asI < 0
  rw [e]; omega
theorem outsK {t : Nat} {ρ : Rho} {i n : Nat} {l : Tm} (e : (ρ.val t).asI = (i : Int)) (el : (@Tm.den ρ (.llen l)).asI = (n : Int)) (h : n ≤ i) : (@Tm.den ρ (.ib .lss .i64 (vt t) (.llen l))).asB = false := by
  rw [lss_f, el]
  show _ ≤ (ρ.val t).asI ∧ ¬ (ρ.val t).asI < _
  rw [e]; omega
theorem valK {v v' : Nat → Dat} {k2 k3 k2' k3' k0 : Nat} {c2 c3 c2' c3' : List Dat} (n : Nat) : (rhoK v k2 c2 k3 c3 k0).val (n + 65) = (rhoK v' k2' c2' k3' c3' k0).val (n + 65) := by
  have b : ∀ m : Nat, m ≤ 65 → Nat.blt (n + 65) m = false := fun m hm => by
    rw [Bool.eq_false_iff]; intro h; rw [Nat.blt_eq] at h; omega
  show (bif Nat.blt (n + 65) 44 then _ else bif Nat.blt (n + 65) 45 then _ else bif Nat.blt (n + 65) 54 then _ else bif Nat.blt (n + 65) 55 then _ else bif Nat.blt (n + 65) 64 then _ else bif Nat.blt (n + 65) 65 then _ else Dat.dI 0) = (bif Nat.blt (n + 65) 44 then _ else bif Nat.blt (n + 65) 45 then _ else bif Nat.blt (n + 65) 54 then _ else bif Nat.blt (n + 65) 55 then _ else bif Nat.blt (n + 65) 64 then _ else bif Nat.blt (n + 65) 65 then _ else Dat.dI 0)
  simp only [b 44 (by omega), b 45 (by omega), b 54 (by omega), b 55 (by omega), b 64 (by omega), b 65 (by omega), cond_false]
theorem valK0 {v : Nat → Dat} {k2 k3 k0 k0' : Nat} {c2 c3 : List Dat} (n : Nat) : (rhoK v k2 c2 k3 c3 k0).val (n + 65) = (rhoK v k2 c2 k3 c3 k0').val (n + 65) := by
  have b : Nat.blt (n + 65) 65 = false := by
    rw [Bool.eq_false_iff]; intro h; rw [Nat.blt_eq] at h; omega
  show (bif Nat.blt (n + 65) 44 then _ else bif Nat.blt (n + 65) 45 then _ else bif Nat.blt (n + 65) 54 then _ else bif Nat.blt (n + 65) 55 then _ else bif Nat.blt (n + 65) 64 then _ else bif Nat.blt (n + 65) 65 then _ else Dat.dI 0) = (bif Nat.blt (n + 65) 44 then _ else bif Nat.blt (n + 65) 45 then _ else bif Nat.blt (n + 65) 54 then _ else bif Nat.blt (n + 65) 55 then _ else bif Nat.blt (n + 65) 64 then _ else bif Nat.blt (n + 65) 65 then _ else Dat.dI 0)
  simp only [b, cond_false]
theorem moT_den {ρ : Rho} (h : ρ.val 1 = .dI n2) : @Tm.den ρ moT = moD n2 := den_agr (m := 2) (B := 0) (ρ' := ⟨fun _ => .dI n2, fnT⟩) (ρ := ⟨fun n => bif Nat.beq n 0 then .dI n2 else ρ.val n, ρ.fn⟩) ⟨fun n hn => by
    match n, hn with
    | 0, _ => rfl
    | 1, _ => exact h, fun _ _ hk => absurd hk (Nat.not_lt_zero _)⟩ moT (by decide)
/-! ### run -/
theorem irun0 : IRun L n2 0 (V0 L n2) [] := by
  have hm := moD_ok n2
  have hc : moD n2 = .dI (moD n2).asI := by
    have e1 : ∀ c x y : Tm, ∀ ρ : Rho, @Tm.den ρ x = .dI (@Tm.den ρ x).asI → @Tm.den ρ y = .dI (@Tm.den ρ y).asI → @Tm.den ρ (.ite c x y) = .dI (@Tm.den ρ (.ite c x y)).asI := fun c x y ρ h1 h2 => by
      show (bif (@Tm.den ρ c).asB then @Tm.den ρ x else @Tm.den ρ y) = .dI (bif (@Tm.den ρ c).asB then @Tm.den ρ x else @Tm.den ρ y).asI
      cases (@Tm.den ρ c).asB
      · exact h2
      · exact h1
    unfold moD
    exact e1 _ _ _ _ (e1 _ _ _ _ rfl rfl) rfl
  refine ⟨rfl, rfl, rfl, ⟨sNil, relNil 0 (Int.le_refl _)⟩, rfl, Nat.le_refl _, (fun i hi => by cases hi), (fun j hj => by cases hj), rfl, rfl, rfl, rfl, rfl, rfl, rfl, rfl, rfl, rfl, rfl, rfl, hc, rfl, rfl, rfl, rfl, .inl rfl, .inl rfl, (fun h => by cases h), (fun h => by cases h)⟩
def ovr (v w : Nat → Dat) : Nat → Dat := fun n => bif Nat.blt n 44 then v n else w n
theorem agr_ovr (v w : Nat → Dat) : Agr 44 2048 ⟨v, fnU⟩ ⟨ovr v w, fnU⟩ := ⟨fun n hn => by
  show v n = (bif Nat.blt n 44 then v n else w n)
  rw [show Nat.blt n 44 = true by rw [Nat.blt_eq]; exact hn]; rfl, fun _ _ _ => rfl⟩
theorem selR {ρ ρ' : Rho} (h : Agr 44 2048 ρ ρ') : ∀ (t : Tree (AX × Option Eqs)), cloR t = true → @Tree.sel _ ρ t = @Tree.sel _ ρ' t
  | .fail, _ => rfl
  | .leaf _, _ => rfl
  | .fork c x y, hw => by
    simp only [cloR, Bool.and_eq_true] at hw
    simp only [Tree.sel, den_agr h c hw.1, selR h x hw.2.1, selR h y hw.2.2]
theorem selQ {ρ : Rho} {x : AX} {es : Eqs} : ∀ (t : Tree (AX × Option Eqs)), cloR t = true → @Tree.sel _ ρ t = some (x, some es) → cloQ es = true
  | .fail, _, h => by cases h
  | .leaf (a, none), _, h => by
    simp only [Tree.sel, Option.some.injEq, Prod.mk.injEq] at h
    cases h.2
  | .leaf (a, some e), hw, h => by
    simp only [Tree.sel, Option.some.injEq, Prod.mk.injEq] at h
    obtain ⟨_, rfl⟩ := h
    exact hw
  | .fork c x y, hw, h => by
    simp only [cloR, Bool.and_eq_true] at hw
    simp only [Tree.sel] at h
    cases hc : (@Tm.den ρ c).asB with
    | true => rw [hc] at h; exact selQ x hw.2.1 h
    | false => rw [hc] at h; exact selQ y hw.2.2 h
theorem eqsQ {a a' b b' : Rho} (h : Agr 44 2048 a a') (k : Agr 44 2048 b b') : ∀ {es : Eqs}, cloQ es = true → EqsOk a b es → EqsOk a' b' es
  | [], _, _ => trivial
  | (s, x, t) :: l, hc, he => by
    simp only [cloQ, Bool.and_eq_true] at hc
    refine ⟨?_, eqsQ h k hc.2 he.2⟩
    have := he.1
    simp only at this ⊢
    rw [← den_agr h x hc.1.1, ← den_agr k t hc.1.2]
    exact this
theorem idEqs_ok {ρ : Rho} : ∀ {es : Eqs}, idEqs es = true → EqsOk ρ ρ es
  | [], _ => trivial
  | (s, x, t) :: l, h => by
    simp only [idEqs, Bool.and_eq_true] at h
    obtain rfl := @Tm.eqv_eq rho0 _ _ h.1
    refine ⟨?_, idEqs_ok h.2⟩
    show eqSr s _ _
    cases s <;> rfl
set_option maxRecDepth 100000 in
theorem end_ok {ρ : Rho} (h : (@Tm.den ρ (.ib .lss .i64 (vt 3) (.llen (vt 0)))).asB = false) : ∃ es, @Tree.sel _ ρ rtRun = some (.exit 0, some es) ∧ EqsOk ρ ρ es := by
  letI : Rho := ρ
  have f : Fc.Ok Fend := by
    refine ⟨fun p hp => (by cases hp), fun p hp => (by cases hp), fun p hp => ?_, fun p hp => (by cases hp), fun p hp => (by cases hp), rfl⟩
    rcases List.mem_cons.1 hp with rfl | hp
    · exact h
    · cases hp
  obtain ⟨p, F', sl, ok', hp⟩ := chkT_ok rtRun end_chk f
  obtain ⟨x, o⟩ := p
  cases x with
  | ret => cases hp
  | normal => cases hp
  | exit n =>
    cases o with
    | none => cases hp
    | some es =>
      have hp' : (Nat.beq n 0 && idEqs es) = true := hp
      rw [Bool.and_eq_true] at hp'
      obtain rfl := Nat.eq_of_beq_eq_true hp'.1
      exact ⟨es, sl, idEqs_ok hp'.2⟩
theorem sgRun (n : Nat) : 44 ≤ n → sRun n = none := fun h => by
  unfold sRun
  have b1 : Nat.ble n 2 = false := by
    rw [Bool.eq_false_iff]; intro h; have := Nat.le_of_ble_eq_true h; omega
  have b2 : Nat.ble 44 n = true := Nat.ble_eq_true_of_le h
  rw [b1, b2]; rfl
set_option maxRecDepth 100000 in
/-- Run, whatever happens. -/
theorem run_ex (hF : RowsF L) (hN : L.length ≤ 400) : ∃ v TR, IRun L n2 L.length v TR ∧ ∀ w : Nat → Dat, GOk ⟨ovr v w, fnU⟩ fRun 0 gRun := by
  obtain ⟨g, g0, g1, g2⟩ := seq_exists (fun i v => (∃ TR, IRun L n2 i v TR) ∧ v 2 = .dI 0) (fun _ v v' => ∃ es, @Tree.sel _ ⟨v, fnU⟩ rtRun = some (AX.normal, some es) ∧ EqsOk ⟨v', fnU⟩ ⟨v, fnU⟩ es) (V0 L n2) ⟨⟨[], irun0⟩, rfl⟩ L.length (fun i hi v hv => by
    obtain ⟨⟨TR, I⟩, h2⟩ := hv
    obtain ⟨v', TR', I', e2, hs⟩ := roundRun I hi (by omega) hF
    exact ⟨v', ⟨⟨TR', I'⟩, e2.trans h2⟩, hs⟩)
  obtain ⟨⟨TR, I⟩, h2⟩ := g1 L.length (Nat.le_refl _)
  refine ⟨g L.length, TR, I, fun w => ?_⟩
  refine loopN_ok noCount ⟨ovr (g L.length) w, fnU⟩ (fun i => ⟨ovr (g i) w, fnU⟩) L.length (fuel := 1000000) (cf := evFun Try.prog envR 1000) (lf := fun _ => none) (by simp) rfl (fun i _ => by letI : Rho := ⟨ovr (g i) w, fnU⟩; exact evFun_ok noCount (envR_ok rfl) 1000) (fun i _ => by letI : Rho := ⟨ovr (g i) w, fnU⟩; exact lf0_ok) (fun i hi => ⟨fun n hn => ?_, rfl⟩) (fun i hi => ?_) ?_ (fun n => ?_)
  · obtain ⟨⟨TR', I'⟩, h2'⟩ := g1 i hi
    match n, hn with
    | 0, _ => exact I'.v0.trans I.v0.symm
    | 1, _ => exact I'.v1.trans I.v1.symm
    | 2, _ => exact h2'.trans h2.symm
  · obtain ⟨es, s1, s2⟩ := g2 i hi
    have c := selQ rtRun rtRun_clo s1
    exact ⟨es, (selR (agr_ovr _ w) rtRun rtRun_clo).symm.trans s1, eqsQ (agr_ovr _ w) (agr_ovr _ w) c s2⟩
  · refine end_ok ?_
    refine outsK (i := L.length) (n := L.length) ?_ ?_ (Nat.le_refl _)
    · show (g L.length 3).asI = _
      rw [I.v3]; rfl
    · show (((g L.length 0).asL.length : Nat) : Int) = _
      rw [I.v0]; rfl
  · show (ovr (g 0) w) n = _
    rw [g0]
    match n with
    | 0 => exact I.v0.symm
    | 1 => exact I.v1.symm
    | 2 => exact h2.symm
    | 3 => (show _ = _; kernel_rfl)
    | 4 => (show _ = _; kernel_rfl)
    | 5 => (show _ = _; kernel_rfl)
    | 6 => (show _ = _; kernel_rfl)
    | 7 => exact (moT_den (ρ := ⟨ovr (g L.length) w, fnU⟩) I.v1).symm
    | 8 => (show _ = _; kernel_rfl)
    | 9 => (show _ = _; kernel_rfl)
    | 10 => (show _ = _; kernel_rfl)
    | 11 => (show _ = _; kernel_rfl)
    | 12 => (show _ = _; kernel_rfl)
    | 13 => (show _ = _; kernel_rfl)
    | 14 => (show _ = _; kernel_rfl)
    | 15 => (show _ = _; kernel_rfl)
    | 16 => (show _ = _; kernel_rfl)
    | 17 => (show _ = _; kernel_rfl)
    | 18 => (show _ = _; kernel_rfl)
    | 19 => (show _ = _; kernel_rfl)
    | 20 => (show _ = _; kernel_rfl)
    | 21 => (show _ = _; kernel_rfl)
    | 22 => (show _ = _; kernel_rfl)
    | 23 => (show _ = _; kernel_rfl)
    | 24 => (show _ = _; kernel_rfl)
    | 25 => (show _ = _; kernel_rfl)
    | 26 => (show _ = _; kernel_rfl)
    | 27 => (show _ = _; kernel_rfl)
    | 28 => (show _ = _; kernel_rfl)
    | 29 => (show _ = _; kernel_rfl)
    | 30 => (show _ = _; kernel_rfl)
    | 31 => (show _ = _; kernel_rfl)
    | 32 => (show _ = _; kernel_rfl)
    | 33 => (show _ = _; kernel_rfl)
    | 34 => (show _ = _; kernel_rfl)
    | 35 => (show _ = _; kernel_rfl)
    | 36 => (show _ = _; kernel_rfl)
    | 37 => (show _ = _; kernel_rfl)
    | 38 => (show _ = _; kernel_rfl)
    | 39 => (show _ = _; kernel_rfl)
    | 40 => (show _ = _; kernel_rfl)
    | 41 => (show _ = _; kernel_rfl)
    | 42 => (show _ = _; kernel_rfl)
    | 43 => (show _ = _; kernel_rfl)
    | n + 44 =>
      rw [sgRun (n + 44) (by omega)]
      show ovr (V0 L n2) w (n + 44) = ovr (g L.length) w (n + 44)
      unfold ovr
      rw [show Nat.blt (n + 44) 44 = false by rw [Bool.eq_false_iff]; intro h; rw [Nat.blt_eq] at h; omega]
      rfl
/-! ### the lengths -/
def pI (L : List (List Dat)) (i : Nat) : Nat := ((L.getD i []).getD 7 (.dI 0)).asS.length
section
variable {v : Nat → Dat} {k2 k3 : Nat} {c2 c3 : List Dat} (h0 : v 0 = .dL L) (hM : L.length ≤ 9223372036854775807)
include h0 hM
theorem few_at {k : Nat} (hk : k < L.length) : (@Tm.den (rhoK v k2 c2 k3 c3 k) (.ib .lss .i64 (vt 64) (.llen (vt 0)))).asB = true ∧ (@Tm.den (rhoK v k2 c2 k3 c3 k) rtFewA_0).asB = true ∧ (@Tm.den (rhoK v k2 c2 k3 c3 k) (.len (.lget (vt 0) (vt 64) 7))).asI = (pI L k : Int) := by
  obtain ⟨i1, i2⟩ := insideK (t := 64) (ρ := rhoK v k2 c2 k3 c3 k) (i := k) (n := L.length) (l := vt 0) rfl (by
    show (((v 0).asL.length : Nat) : Int) = _
    rw [h0]; rfl) hk
  refine ⟨i1, i2, ?_⟩
  show ((((v 0).asL.getD k []).getD 7 (.dI 0)).asS.length : Int) = _
  rw [h0]; rfl
theorem gFewA_ok (hg : ∀ k, k < L.length → pI L k ≤ 100) : GOk (rhoK v k2 c2 k3 c3 L.length) fFew 0 gFewA := by
  refine loopN_ok noCount (rhoK v k2 c2 k3 c3 L.length) (fun k => rhoK v k2 c2 k3 c3 k) (L.length) (fuel := 1000000) (cf := evFun Try.prog envU 1000) (lf := fun _ => none) (by simp) rfl (fun k _ => by letI : Rho := rhoK v k2 c2 k3 c3 k; exact evFun_ok noCount (envU_ok rfl) 1000) (fun k _ => by letI : Rho := rhoK v k2 c2 k3 c3 k; exact lf0_ok) (fun k _ => ⟨fun n hn => ?_, rfl⟩) (fun k hk => ?_) ?_ (fun n => ?_)
  · match n, hn with
    | 0, _ => (show _ = _; kernel_rfl)
    | 1, _ => (show _ = _; kernel_rfl)
    | 2, _ => (show _ = _; kernel_rfl)
    | 3, _ => (show _ = _; kernel_rfl)
    | 4, _ => (show _ = _; kernel_rfl)
    | 5, _ => (show _ = _; kernel_rfl)
    | 6, _ => (show _ = _; kernel_rfl)
    | 7, _ => (show _ = _; kernel_rfl)
    | 8, _ => (show _ = _; kernel_rfl)
    | 9, _ => (show _ = _; kernel_rfl)
    | 10, _ => (show _ = _; kernel_rfl)
    | 11, _ => (show _ = _; kernel_rfl)
    | 12, _ => (show _ = _; kernel_rfl)
    | 13, _ => (show _ = _; kernel_rfl)
    | 14, _ => (show _ = _; kernel_rfl)
    | 15, _ => (show _ = _; kernel_rfl)
    | 16, _ => (show _ = _; kernel_rfl)
    | 17, _ => (show _ = _; kernel_rfl)
    | 18, _ => (show _ = _; kernel_rfl)
    | 19, _ => (show _ = _; kernel_rfl)
    | 20, _ => (show _ = _; kernel_rfl)
    | 21, _ => (show _ = _; kernel_rfl)
    | 22, _ => (show _ = _; kernel_rfl)
    | 23, _ => (show _ = _; kernel_rfl)
    | 24, _ => (show _ = _; kernel_rfl)
    | 25, _ => (show _ = _; kernel_rfl)
    | 26, _ => (show _ = _; kernel_rfl)
    | 27, _ => (show _ = _; kernel_rfl)
    | 28, _ => (show _ = _; kernel_rfl)
    | 29, _ => (show _ = _; kernel_rfl)
    | 30, _ => (show _ = _; kernel_rfl)
    | 31, _ => (show _ = _; kernel_rfl)
    | 32, _ => (show _ = _; kernel_rfl)
    | 33, _ => (show _ = _; kernel_rfl)
    | 34, _ => (show _ = _; kernel_rfl)
    | 35, _ => (show _ = _; kernel_rfl)
    | 36, _ => (show _ = _; kernel_rfl)
    | 37, _ => (show _ = _; kernel_rfl)
    | 38, _ => (show _ = _; kernel_rfl)
    | 39, _ => (show _ = _; kernel_rfl)
    | 40, _ => (show _ = _; kernel_rfl)
    | 41, _ => (show _ = _; kernel_rfl)
    | 42, _ => (show _ = _; kernel_rfl)
    | 43, _ => (show _ = _; kernel_rfl)
    | 44, _ => (show _ = _; kernel_rfl)
    | 45, _ => (show _ = _; kernel_rfl)
    | 46, _ => (show _ = _; kernel_rfl)
    | 47, _ => (show _ = _; kernel_rfl)
    | 48, _ => (show _ = _; kernel_rfl)
    | 49, _ => (show _ = _; kernel_rfl)
    | 50, _ => (show _ = _; kernel_rfl)
    | 51, _ => (show _ = _; kernel_rfl)
    | 52, _ => (show _ = _; kernel_rfl)
    | 53, _ => (show _ = _; kernel_rfl)
    | 54, _ => (show _ = _; kernel_rfl)
    | 55, _ => (show _ = _; kernel_rfl)
    | 56, _ => (show _ = _; kernel_rfl)
    | 57, _ => (show _ = _; kernel_rfl)
    | 58, _ => (show _ = _; kernel_rfl)
    | 59, _ => (show _ = _; kernel_rfl)
    | 60, _ => (show _ = _; kernel_rfl)
    | 61, _ => (show _ = _; kernel_rfl)
    | 62, _ => (show _ = _; kernel_rfl)
    | 63, _ => (show _ = _; kernel_rfl)
    | n + 64, hn => exact absurd hn (by omega)
  · rw [rtFewA_eq]
    obtain ⟨i1, i2, i3⟩ := few_at (k2 := k2) (k3 := k3) (c2 := c2) (c3 := c3) h0 hM (show k < L.length by omega)
    refine nxT i1 (nxT i2 (nxF ?_ (nxL ((eI _ _ _ _).2 ⟨addK (t := 64) (i := k) (by omega) rfl rfl, trivial⟩))))
    have := hg k hk
    rw [gtr_f, i3, d_ci]; omega
  · rw [rtFewA_eq]
    exact ⟨[], sel_F (outsK (t := 64) (i := L.length) (n := L.length) (l := vt 0) rfl (by
      show (((v 0).asL.length : Nat) : Int) = _
      rw [h0]; rfl) (Nat.le_refl _)), trivial⟩
  · match n with
    | 0 => (show _ = _; kernel_rfl)
    | 1 => (show _ = _; kernel_rfl)
    | 2 => (show _ = _; kernel_rfl)
    | 3 => (show _ = _; kernel_rfl)
    | 4 => (show _ = _; kernel_rfl)
    | 5 => (show _ = _; kernel_rfl)
    | 6 => (show _ = _; kernel_rfl)
    | 7 => (show _ = _; kernel_rfl)
    | 8 => (show _ = _; kernel_rfl)
    | 9 => (show _ = _; kernel_rfl)
    | 10 => (show _ = _; kernel_rfl)
    | 11 => (show _ = _; kernel_rfl)
    | 12 => (show _ = _; kernel_rfl)
    | 13 => (show _ = _; kernel_rfl)
    | 14 => (show _ = _; kernel_rfl)
    | 15 => (show _ = _; kernel_rfl)
    | 16 => (show _ = _; kernel_rfl)
    | 17 => (show _ = _; kernel_rfl)
    | 18 => (show _ = _; kernel_rfl)
    | 19 => (show _ = _; kernel_rfl)
    | 20 => (show _ = _; kernel_rfl)
    | 21 => (show _ = _; kernel_rfl)
    | 22 => (show _ = _; kernel_rfl)
    | 23 => (show _ = _; kernel_rfl)
    | 24 => (show _ = _; kernel_rfl)
    | 25 => (show _ = _; kernel_rfl)
    | 26 => (show _ = _; kernel_rfl)
    | 27 => (show _ = _; kernel_rfl)
    | 28 => (show _ = _; kernel_rfl)
    | 29 => (show _ = _; kernel_rfl)
    | 30 => (show _ = _; kernel_rfl)
    | 31 => (show _ = _; kernel_rfl)
    | 32 => (show _ = _; kernel_rfl)
    | 33 => (show _ = _; kernel_rfl)
    | 34 => (show _ = _; kernel_rfl)
    | 35 => (show _ = _; kernel_rfl)
    | 36 => (show _ = _; kernel_rfl)
    | 37 => (show _ = _; kernel_rfl)
    | 38 => (show _ = _; kernel_rfl)
    | 39 => (show _ = _; kernel_rfl)
    | 40 => (show _ = _; kernel_rfl)
    | 41 => (show _ = _; kernel_rfl)
    | 42 => (show _ = _; kernel_rfl)
    | 43 => (show _ = _; kernel_rfl)
    | 44 => (show _ = _; kernel_rfl)
    | 45 => (show _ = _; kernel_rfl)
    | 46 => (show _ = _; kernel_rfl)
    | 47 => (show _ = _; kernel_rfl)
    | 48 => (show _ = _; kernel_rfl)
    | 49 => (show _ = _; kernel_rfl)
    | 50 => (show _ = _; kernel_rfl)
    | 51 => (show _ = _; kernel_rfl)
    | 52 => (show _ = _; kernel_rfl)
    | 53 => (show _ = _; kernel_rfl)
    | 54 => (show _ = _; kernel_rfl)
    | 55 => (show _ = _; kernel_rfl)
    | 56 => (show _ = _; kernel_rfl)
    | 57 => (show _ = _; kernel_rfl)
    | 58 => (show _ = _; kernel_rfl)
    | 59 => (show _ = _; kernel_rfl)
    | 60 => (show _ = _; kernel_rfl)
    | 61 => (show _ = _; kernel_rfl)
    | 62 => (show _ = _; kernel_rfl)
    | 63 => (show _ = _; kernel_rfl)
    | 64 => (show _ = _; kernel_rfl)
    | n + 65 => exact valK0 n
theorem gFewB_ok {m : Nat} (hm : m < L.length) (hb : ¬ pI L m ≤ 100) (hg : ∀ k, k < m → pI L k ≤ 100) : GOk (rhoK v k2 c2 k3 c3 m) fFew 0 gFewB := by
  refine loopN_ok noCount (rhoK v k2 c2 k3 c3 m) (fun k => rhoK v k2 c2 k3 c3 k) (m) (fuel := 1000000) (cf := evFun Try.prog envU 1000) (lf := fun _ => none) (by simp) rfl (fun k _ => by letI : Rho := rhoK v k2 c2 k3 c3 k; exact evFun_ok noCount (envU_ok rfl) 1000) (fun k _ => by letI : Rho := rhoK v k2 c2 k3 c3 k; exact lf0_ok) (fun k _ => ⟨fun n hn => ?_, rfl⟩) (fun k hk => ?_) ?_ (fun n => ?_)
  · match n, hn with
    | 0, _ => (show _ = _; kernel_rfl)
    | 1, _ => (show _ = _; kernel_rfl)
    | 2, _ => (show _ = _; kernel_rfl)
    | 3, _ => (show _ = _; kernel_rfl)
    | 4, _ => (show _ = _; kernel_rfl)
    | 5, _ => (show _ = _; kernel_rfl)
    | 6, _ => (show _ = _; kernel_rfl)
    | 7, _ => (show _ = _; kernel_rfl)
    | 8, _ => (show _ = _; kernel_rfl)
    | 9, _ => (show _ = _; kernel_rfl)
    | 10, _ => (show _ = _; kernel_rfl)
    | 11, _ => (show _ = _; kernel_rfl)
    | 12, _ => (show _ = _; kernel_rfl)
    | 13, _ => (show _ = _; kernel_rfl)
    | 14, _ => (show _ = _; kernel_rfl)
    | 15, _ => (show _ = _; kernel_rfl)
    | 16, _ => (show _ = _; kernel_rfl)
    | 17, _ => (show _ = _; kernel_rfl)
    | 18, _ => (show _ = _; kernel_rfl)
    | 19, _ => (show _ = _; kernel_rfl)
    | 20, _ => (show _ = _; kernel_rfl)
    | 21, _ => (show _ = _; kernel_rfl)
    | 22, _ => (show _ = _; kernel_rfl)
    | 23, _ => (show _ = _; kernel_rfl)
    | 24, _ => (show _ = _; kernel_rfl)
    | 25, _ => (show _ = _; kernel_rfl)
    | 26, _ => (show _ = _; kernel_rfl)
    | 27, _ => (show _ = _; kernel_rfl)
    | 28, _ => (show _ = _; kernel_rfl)
    | 29, _ => (show _ = _; kernel_rfl)
    | 30, _ => (show _ = _; kernel_rfl)
    | 31, _ => (show _ = _; kernel_rfl)
    | 32, _ => (show _ = _; kernel_rfl)
    | 33, _ => (show _ = _; kernel_rfl)
    | 34, _ => (show _ = _; kernel_rfl)
    | 35, _ => (show _ = _; kernel_rfl)
    | 36, _ => (show _ = _; kernel_rfl)
    | 37, _ => (show _ = _; kernel_rfl)
    | 38, _ => (show _ = _; kernel_rfl)
    | 39, _ => (show _ = _; kernel_rfl)
    | 40, _ => (show _ = _; kernel_rfl)
    | 41, _ => (show _ = _; kernel_rfl)
    | 42, _ => (show _ = _; kernel_rfl)
    | 43, _ => (show _ = _; kernel_rfl)
    | 44, _ => (show _ = _; kernel_rfl)
    | 45, _ => (show _ = _; kernel_rfl)
    | 46, _ => (show _ = _; kernel_rfl)
    | 47, _ => (show _ = _; kernel_rfl)
    | 48, _ => (show _ = _; kernel_rfl)
    | 49, _ => (show _ = _; kernel_rfl)
    | 50, _ => (show _ = _; kernel_rfl)
    | 51, _ => (show _ = _; kernel_rfl)
    | 52, _ => (show _ = _; kernel_rfl)
    | 53, _ => (show _ = _; kernel_rfl)
    | 54, _ => (show _ = _; kernel_rfl)
    | 55, _ => (show _ = _; kernel_rfl)
    | 56, _ => (show _ = _; kernel_rfl)
    | 57, _ => (show _ = _; kernel_rfl)
    | 58, _ => (show _ = _; kernel_rfl)
    | 59, _ => (show _ = _; kernel_rfl)
    | 60, _ => (show _ = _; kernel_rfl)
    | 61, _ => (show _ = _; kernel_rfl)
    | 62, _ => (show _ = _; kernel_rfl)
    | 63, _ => (show _ = _; kernel_rfl)
    | n + 64, hn => exact absurd hn (by omega)
  · rw [rtFewB_eq]
    obtain ⟨i1, i2, i3⟩ := few_at (k2 := k2) (k3 := k3) (c2 := c2) (c3 := c3) h0 hM (show k < L.length by omega)
    refine nxT i1 (nxT i2 (nxF ?_ (nxL ((eI _ _ _ _).2 ⟨addK (t := 64) (i := k) (by omega) rfl rfl, trivial⟩))))
    have := hg k hk
    rw [gtr_f, i3, d_ci]; omega
  · rw [rtFewB_eq]
    obtain ⟨i1, i2, i3⟩ := few_at (k2 := k2) (k3 := k3) (c2 := c2) (c3 := c3) h0 hM hm
    exact ⟨[], (sel_T i1).trans ((sel_T i2).trans (sel_T (by rw [gtr_t, i3, d_ci]; omega))), trivial⟩
  · match n with
    | 0 => (show _ = _; kernel_rfl)
    | 1 => (show _ = _; kernel_rfl)
    | 2 => (show _ = _; kernel_rfl)
    | 3 => (show _ = _; kernel_rfl)
    | 4 => (show _ = _; kernel_rfl)
    | 5 => (show _ = _; kernel_rfl)
    | 6 => (show _ = _; kernel_rfl)
    | 7 => (show _ = _; kernel_rfl)
    | 8 => (show _ = _; kernel_rfl)
    | 9 => (show _ = _; kernel_rfl)
    | 10 => (show _ = _; kernel_rfl)
    | 11 => (show _ = _; kernel_rfl)
    | 12 => (show _ = _; kernel_rfl)
    | 13 => (show _ = _; kernel_rfl)
    | 14 => (show _ = _; kernel_rfl)
    | 15 => (show _ = _; kernel_rfl)
    | 16 => (show _ = _; kernel_rfl)
    | 17 => (show _ = _; kernel_rfl)
    | 18 => (show _ = _; kernel_rfl)
    | 19 => (show _ = _; kernel_rfl)
    | 20 => (show _ = _; kernel_rfl)
    | 21 => (show _ = _; kernel_rfl)
    | 22 => (show _ = _; kernel_rfl)
    | 23 => (show _ = _; kernel_rfl)
    | 24 => (show _ = _; kernel_rfl)
    | 25 => (show _ = _; kernel_rfl)
    | 26 => (show _ = _; kernel_rfl)
    | 27 => (show _ = _; kernel_rfl)
    | 28 => (show _ = _; kernel_rfl)
    | 29 => (show _ = _; kernel_rfl)
    | 30 => (show _ = _; kernel_rfl)
    | 31 => (show _ = _; kernel_rfl)
    | 32 => (show _ = _; kernel_rfl)
    | 33 => (show _ = _; kernel_rfl)
    | 34 => (show _ = _; kernel_rfl)
    | 35 => (show _ = _; kernel_rfl)
    | 36 => (show _ = _; kernel_rfl)
    | 37 => (show _ = _; kernel_rfl)
    | 38 => (show _ = _; kernel_rfl)
    | 39 => (show _ = _; kernel_rfl)
    | 40 => (show _ = _; kernel_rfl)
    | 41 => (show _ = _; kernel_rfl)
    | 42 => (show _ = _; kernel_rfl)
    | 43 => (show _ = _; kernel_rfl)
    | 44 => (show _ = _; kernel_rfl)
    | 45 => (show _ = _; kernel_rfl)
    | 46 => (show _ = _; kernel_rfl)
    | 47 => (show _ = _; kernel_rfl)
    | 48 => (show _ = _; kernel_rfl)
    | 49 => (show _ = _; kernel_rfl)
    | 50 => (show _ = _; kernel_rfl)
    | 51 => (show _ = _; kernel_rfl)
    | 52 => (show _ = _; kernel_rfl)
    | 53 => (show _ = _; kernel_rfl)
    | 54 => (show _ = _; kernel_rfl)
    | 55 => (show _ = _; kernel_rfl)
    | 56 => (show _ = _; kernel_rfl)
    | 57 => (show _ = _; kernel_rfl)
    | 58 => (show _ = _; kernel_rfl)
    | 59 => (show _ = _; kernel_rfl)
    | 60 => (show _ = _; kernel_rfl)
    | 61 => (show _ = _; kernel_rfl)
    | 62 => (show _ = _; kernel_rfl)
    | 63 => (show _ = _; kernel_rfl)
    | 64 => (show _ = _; kernel_rfl)
    | n + 65 => exact valK0 n
end
section
variable {v : Nat → Dat} {k3 k0 : Nat} {c3 : List Dat}
theorem roundAcc (hL : RowsE (v 42).asL) (hN : (v 42).asL.length ≤ 1000) (ha : ∀ j, j < (v 42).asL.length → (Jm (seqC (v 42).asL n2 j) ((v 42).asL.getD j []) 0).asB = true) {k : Nat} (hk : k < (v 42).asL.length) : Nx (rhoK v (k) (seqC (v 42).asL n2 (k)) k3 c3 k0) (rhoK v (k + 1) (seqC (v 42).asL n2 (k + 1)) k3 c3 k0) rtAcc := by
  have E := ev_at (n2 := n2) hL hk []
  obtain ⟨i1, i2⟩ := insideK (t := 44) (ρ := rhoK v (k) (seqC (v 42).asL n2 (k)) k3 c3 k0) (i := k) (n := (v 42).asL.length) (l := vt 42) rfl rfl hk
  refine nxT i1 (nxT i2 (nxT (eqW (congrArg Dat.asB E.dJ) (by kernel_rfl) (by kernel_rfl)) (nxF ?_ (nxL ?_))))
  · rw [not_f]
    exact eqW (ha k hk) (by kernel_rfl) rfl
  · exact (eI _ _ _ _).2 ⟨addK (t := 44) (i := k) (by omega) rfl rfl, (eI _ _ _ _).2 ⟨(by kernel_rfl), (eB _ _ _ _).2 ⟨(by kernel_rfl), (eI _ _ _ _).2 ⟨(by kernel_rfl), (eI _ _ _ _).2 ⟨(by kernel_rfl), (eI _ _ _ _).2 ⟨(by kernel_rfl), (eB _ _ _ _).2 ⟨(by kernel_rfl), (eI _ _ _ _).2 ⟨(by kernel_rfl), (eB _ _ _ _).2 ⟨(by kernel_rfl), (eB _ _ _ _).2 ⟨(by kernel_rfl), trivial⟩⟩⟩⟩⟩⟩⟩⟩⟩⟩
theorem gAcc_ok (h1 : v 1 = .dI n2) (hL : RowsE (v 42).asL) (hN : (v 42).asL.length ≤ 1000) (ha : ∀ j, j < (v 42).asL.length → (Jm (seqC (v 42).asL n2 j) ((v 42).asL.getD j []) 0).asB = true) : GOk (rhoK v ((v 42).asL.length) (seqC (v 42).asL n2 ((v 42).asL.length)) k3 c3 k0) fAj 0 gAcc := by
  refine loopN_ok noCount (rhoK v ((v 42).asL.length) (seqC (v 42).asL n2 ((v 42).asL.length)) k3 c3 k0) (fun k => rhoK v (k) (seqC (v 42).asL n2 (k)) k3 c3 k0) ((v 42).asL.length) (fuel := 1000000) (cf := evFun Try.prog envU 1000) (lf := fun _ => none) (by simp) rfl (fun k _ => by letI : Rho := rhoK v (k) (seqC (v 42).asL n2 (k)) k3 c3 k0; exact evFun_ok noCount (envU_ok rfl) 1000) (fun k _ => by letI : Rho := rhoK v (k) (seqC (v 42).asL n2 (k)) k3 c3 k0; exact lf0_ok) (fun k _ => ⟨fun n hn => ?_, rfl⟩) (fun k hk => ?_) ?_ (fun n => ?_)
  · match n, hn with
    | 0, _ => (show _ = _; kernel_rfl)
    | 1, _ => (show _ = _; kernel_rfl)
    | 2, _ => (show _ = _; kernel_rfl)
    | 3, _ => (show _ = _; kernel_rfl)
    | 4, _ => (show _ = _; kernel_rfl)
    | 5, _ => (show _ = _; kernel_rfl)
    | 6, _ => (show _ = _; kernel_rfl)
    | 7, _ => (show _ = _; kernel_rfl)
    | 8, _ => (show _ = _; kernel_rfl)
    | 9, _ => (show _ = _; kernel_rfl)
    | 10, _ => (show _ = _; kernel_rfl)
    | 11, _ => (show _ = _; kernel_rfl)
    | 12, _ => (show _ = _; kernel_rfl)
    | 13, _ => (show _ = _; kernel_rfl)
    | 14, _ => (show _ = _; kernel_rfl)
    | 15, _ => (show _ = _; kernel_rfl)
    | 16, _ => (show _ = _; kernel_rfl)
    | 17, _ => (show _ = _; kernel_rfl)
    | 18, _ => (show _ = _; kernel_rfl)
    | 19, _ => (show _ = _; kernel_rfl)
    | 20, _ => (show _ = _; kernel_rfl)
    | 21, _ => (show _ = _; kernel_rfl)
    | 22, _ => (show _ = _; kernel_rfl)
    | 23, _ => (show _ = _; kernel_rfl)
    | 24, _ => (show _ = _; kernel_rfl)
    | 25, _ => (show _ = _; kernel_rfl)
    | 26, _ => (show _ = _; kernel_rfl)
    | 27, _ => (show _ = _; kernel_rfl)
    | 28, _ => (show _ = _; kernel_rfl)
    | 29, _ => (show _ = _; kernel_rfl)
    | 30, _ => (show _ = _; kernel_rfl)
    | 31, _ => (show _ = _; kernel_rfl)
    | 32, _ => (show _ = _; kernel_rfl)
    | 33, _ => (show _ = _; kernel_rfl)
    | 34, _ => (show _ = _; kernel_rfl)
    | 35, _ => (show _ = _; kernel_rfl)
    | 36, _ => (show _ = _; kernel_rfl)
    | 37, _ => (show _ = _; kernel_rfl)
    | 38, _ => (show _ = _; kernel_rfl)
    | 39, _ => (show _ = _; kernel_rfl)
    | 40, _ => (show _ = _; kernel_rfl)
    | 41, _ => (show _ = _; kernel_rfl)
    | 42, _ => (show _ = _; kernel_rfl)
    | 43, _ => (show _ = _; kernel_rfl)
    | n + 44, hn => exact absurd hn (by omega)
  · rw [rtAcc_eq]; exact roundAcc hL hN ha hk
  · rw [rtAcc_eq]
    exact ⟨[], sel_F (outsK (t := 44) (i := (v 42).asL.length) (n := (v 42).asL.length) (l := vt 42) rfl rfl (Nat.le_refl _)), trivial⟩
  · match n with
    | 0 => (show _ = _; kernel_rfl)
    | 1 => (show _ = _; kernel_rfl)
    | 2 => (show _ = _; kernel_rfl)
    | 3 => (show _ = _; kernel_rfl)
    | 4 => (show _ = _; kernel_rfl)
    | 5 => (show _ = _; kernel_rfl)
    | 6 => (show _ = _; kernel_rfl)
    | 7 => (show _ = _; kernel_rfl)
    | 8 => (show _ = _; kernel_rfl)
    | 9 => (show _ = _; kernel_rfl)
    | 10 => (show _ = _; kernel_rfl)
    | 11 => (show _ = _; kernel_rfl)
    | 12 => (show _ = _; kernel_rfl)
    | 13 => (show _ = _; kernel_rfl)
    | 14 => (show _ = _; kernel_rfl)
    | 15 => (show _ = _; kernel_rfl)
    | 16 => (show _ = _; kernel_rfl)
    | 17 => (show _ = _; kernel_rfl)
    | 18 => (show _ = _; kernel_rfl)
    | 19 => (show _ = _; kernel_rfl)
    | 20 => (show _ = _; kernel_rfl)
    | 21 => (show _ = _; kernel_rfl)
    | 22 => (show _ = _; kernel_rfl)
    | 23 => (show _ = _; kernel_rfl)
    | 24 => (show _ = _; kernel_rfl)
    | 25 => (show _ = _; kernel_rfl)
    | 26 => (show _ = _; kernel_rfl)
    | 27 => (show _ = _; kernel_rfl)
    | 28 => (show _ = _; kernel_rfl)
    | 29 => (show _ = _; kernel_rfl)
    | 30 => (show _ = _; kernel_rfl)
    | 31 => (show _ = _; kernel_rfl)
    | 32 => (show _ = _; kernel_rfl)
    | 33 => (show _ = _; kernel_rfl)
    | 34 => (show _ = _; kernel_rfl)
    | 35 => (show _ = _; kernel_rfl)
    | 36 => (show _ = _; kernel_rfl)
    | 37 => (show _ = _; kernel_rfl)
    | 38 => (show _ = _; kernel_rfl)
    | 39 => (show _ = _; kernel_rfl)
    | 40 => (show _ = _; kernel_rfl)
    | 41 => (show _ = _; kernel_rfl)
    | 42 => (show _ = _; kernel_rfl)
    | 43 => (show _ = _; kernel_rfl)
    | 44 => (show _ = _; kernel_rfl)
    | 45 => (show _ = _; kernel_rfl)
    | 46 => (show _ = _; kernel_rfl)
    | 47 => (show _ = _; kernel_rfl)
    | 48 => exact (moT_den (ρ := rhoK v ((v 42).asL.length) (seqC (v 42).asL n2 ((v 42).asL.length)) k3 c3 k0) h1).symm
    | 49 => (show _ = _; kernel_rfl)
    | 50 => (show _ = _; kernel_rfl)
    | 51 => (show _ = _; kernel_rfl)
    | 52 => (show _ = _; kernel_rfl)
    | 53 => (show _ = _; kernel_rfl)
    | 54 => (show _ = _; kernel_rfl)
    | 55 => (show _ = _; kernel_rfl)
    | 56 => (show _ = _; kernel_rfl)
    | 57 => (show _ = _; kernel_rfl)
    | 58 => (show _ = _; kernel_rfl)
    | 59 => (show _ = _; kernel_rfl)
    | 60 => (show _ = _; kernel_rfl)
    | 61 => (show _ = _; kernel_rfl)
    | 62 => (show _ = _; kernel_rfl)
    | 63 => (show _ = _; kernel_rfl)
    | 64 => (show _ = _; kernel_rfl)
    | n + 65 => exact valK n
end
section
variable {v : Nat → Dat} {k2 k0 : Nat} {c2 : List Dat}
theorem roundJdg (hL : RowsE (v 42).asL) (hN : (v 42).asL.length ≤ 1000)  {k : Nat} (hk : k < (v 42).asL.length) : Nx (rhoK v k2 c2 (k) (seqC (v 42).asL n2 (k)) k0) (rhoK v k2 c2 (k + 1) (seqC (v 42).asL n2 (k + 1)) k0) rtJdg := by
  have E := ev_at (n2 := n2) hL hk []
  obtain ⟨i1, i2⟩ := insideK (t := 54) (ρ := rhoK v k2 c2 (k) (seqC (v 42).asL n2 (k)) k0) (i := k) (n := (v 42).asL.length) (l := vt 42) rfl rfl hk
  refine nxT i1 (nxT i2 (nxT (eqW (congrArg Dat.asB E.dJ) (by kernel_rfl) (by kernel_rfl)) (nxL ?_)))
  exact (eI _ _ _ _).2 ⟨addK (t := 54) (i := k) (by omega) rfl rfl, (eI _ _ _ _).2 ⟨(by kernel_rfl), (eB _ _ _ _).2 ⟨(by kernel_rfl), (eI _ _ _ _).2 ⟨(by kernel_rfl), (eI _ _ _ _).2 ⟨(by kernel_rfl), (eI _ _ _ _).2 ⟨(by kernel_rfl), (eB _ _ _ _).2 ⟨(by kernel_rfl), (eI _ _ _ _).2 ⟨(by kernel_rfl), (eB _ _ _ _).2 ⟨(by kernel_rfl), (eB _ _ _ _).2 ⟨(by kernel_rfl), trivial⟩⟩⟩⟩⟩⟩⟩⟩⟩⟩
theorem gJdg_ok (h1 : v 1 = .dI n2) (hL : RowsE (v 42).asL) (hN : (v 42).asL.length ≤ 1000)  : GOk (rhoK v k2 c2 ((v 42).asL.length) (seqC (v 42).asL n2 ((v 42).asL.length)) k0) fTk 0 gJdg := by
  refine loopN_ok noCount (rhoK v k2 c2 ((v 42).asL.length) (seqC (v 42).asL n2 ((v 42).asL.length)) k0) (fun k => rhoK v k2 c2 (k) (seqC (v 42).asL n2 (k)) k0) ((v 42).asL.length) (fuel := 1000000) (cf := evFun Try.prog envU 1000) (lf := fun _ => none) (by simp) rfl (fun k _ => by letI : Rho := rhoK v k2 c2 (k) (seqC (v 42).asL n2 (k)) k0; exact evFun_ok noCount (envU_ok rfl) 1000) (fun k _ => by letI : Rho := rhoK v k2 c2 (k) (seqC (v 42).asL n2 (k)) k0; exact lf0_ok) (fun k _ => ⟨fun n hn => ?_, rfl⟩) (fun k hk => ?_) ?_ (fun n => ?_)
  · match n, hn with
    | 0, _ => (show _ = _; kernel_rfl)
    | 1, _ => (show _ = _; kernel_rfl)
    | 2, _ => (show _ = _; kernel_rfl)
    | 3, _ => (show _ = _; kernel_rfl)
    | 4, _ => (show _ = _; kernel_rfl)
    | 5, _ => (show _ = _; kernel_rfl)
    | 6, _ => (show _ = _; kernel_rfl)
    | 7, _ => (show _ = _; kernel_rfl)
    | 8, _ => (show _ = _; kernel_rfl)
    | 9, _ => (show _ = _; kernel_rfl)
    | 10, _ => (show _ = _; kernel_rfl)
    | 11, _ => (show _ = _; kernel_rfl)
    | 12, _ => (show _ = _; kernel_rfl)
    | 13, _ => (show _ = _; kernel_rfl)
    | 14, _ => (show _ = _; kernel_rfl)
    | 15, _ => (show _ = _; kernel_rfl)
    | 16, _ => (show _ = _; kernel_rfl)
    | 17, _ => (show _ = _; kernel_rfl)
    | 18, _ => (show _ = _; kernel_rfl)
    | 19, _ => (show _ = _; kernel_rfl)
    | 20, _ => (show _ = _; kernel_rfl)
    | 21, _ => (show _ = _; kernel_rfl)
    | 22, _ => (show _ = _; kernel_rfl)
    | 23, _ => (show _ = _; kernel_rfl)
    | 24, _ => (show _ = _; kernel_rfl)
    | 25, _ => (show _ = _; kernel_rfl)
    | 26, _ => (show _ = _; kernel_rfl)
    | 27, _ => (show _ = _; kernel_rfl)
    | 28, _ => (show _ = _; kernel_rfl)
    | 29, _ => (show _ = _; kernel_rfl)
    | 30, _ => (show _ = _; kernel_rfl)
    | 31, _ => (show _ = _; kernel_rfl)
    | 32, _ => (show _ = _; kernel_rfl)
    | 33, _ => (show _ = _; kernel_rfl)
    | 34, _ => (show _ = _; kernel_rfl)
    | 35, _ => (show _ = _; kernel_rfl)
    | 36, _ => (show _ = _; kernel_rfl)
    | 37, _ => (show _ = _; kernel_rfl)
    | 38, _ => (show _ = _; kernel_rfl)
    | 39, _ => (show _ = _; kernel_rfl)
    | 40, _ => (show _ = _; kernel_rfl)
    | 41, _ => (show _ = _; kernel_rfl)
    | 42, _ => (show _ = _; kernel_rfl)
    | 43, _ => (show _ = _; kernel_rfl)
    | 44, _ => (show _ = _; kernel_rfl)
    | 45, _ => (show _ = _; kernel_rfl)
    | 46, _ => (show _ = _; kernel_rfl)
    | 47, _ => (show _ = _; kernel_rfl)
    | 48, _ => (show _ = _; kernel_rfl)
    | 49, _ => (show _ = _; kernel_rfl)
    | 50, _ => (show _ = _; kernel_rfl)
    | 51, _ => (show _ = _; kernel_rfl)
    | 52, _ => (show _ = _; kernel_rfl)
    | 53, _ => (show _ = _; kernel_rfl)
    | n + 54, hn => exact absurd hn (by omega)
  · rw [rtJdg_eq]; exact roundJdg hL hN hk
  · rw [rtJdg_eq]
    refine ⟨_, sel_F (outsK (t := 54) (i := (v 42).asL.length) (n := (v 42).asL.length) (l := vt 42) rfl rfl (Nat.le_refl _)), ?_⟩
    exact ⟨rfl, rfl, rfl, rfl, rfl, rfl, rfl, rfl, rfl, trivial⟩
  · match n with
    | 0 => (show _ = _; kernel_rfl)
    | 1 => (show _ = _; kernel_rfl)
    | 2 => (show _ = _; kernel_rfl)
    | 3 => (show _ = _; kernel_rfl)
    | 4 => (show _ = _; kernel_rfl)
    | 5 => (show _ = _; kernel_rfl)
    | 6 => (show _ = _; kernel_rfl)
    | 7 => (show _ = _; kernel_rfl)
    | 8 => (show _ = _; kernel_rfl)
    | 9 => (show _ = _; kernel_rfl)
    | 10 => (show _ = _; kernel_rfl)
    | 11 => (show _ = _; kernel_rfl)
    | 12 => (show _ = _; kernel_rfl)
    | 13 => (show _ = _; kernel_rfl)
    | 14 => (show _ = _; kernel_rfl)
    | 15 => (show _ = _; kernel_rfl)
    | 16 => (show _ = _; kernel_rfl)
    | 17 => (show _ = _; kernel_rfl)
    | 18 => (show _ = _; kernel_rfl)
    | 19 => (show _ = _; kernel_rfl)
    | 20 => (show _ = _; kernel_rfl)
    | 21 => (show _ = _; kernel_rfl)
    | 22 => (show _ = _; kernel_rfl)
    | 23 => (show _ = _; kernel_rfl)
    | 24 => (show _ = _; kernel_rfl)
    | 25 => (show _ = _; kernel_rfl)
    | 26 => (show _ = _; kernel_rfl)
    | 27 => (show _ = _; kernel_rfl)
    | 28 => (show _ = _; kernel_rfl)
    | 29 => (show _ = _; kernel_rfl)
    | 30 => (show _ = _; kernel_rfl)
    | 31 => (show _ = _; kernel_rfl)
    | 32 => (show _ = _; kernel_rfl)
    | 33 => (show _ = _; kernel_rfl)
    | 34 => (show _ = _; kernel_rfl)
    | 35 => (show _ = _; kernel_rfl)
    | 36 => (show _ = _; kernel_rfl)
    | 37 => (show _ = _; kernel_rfl)
    | 38 => (show _ = _; kernel_rfl)
    | 39 => (show _ = _; kernel_rfl)
    | 40 => (show _ = _; kernel_rfl)
    | 41 => (show _ = _; kernel_rfl)
    | 42 => (show _ = _; kernel_rfl)
    | 43 => (show _ = _; kernel_rfl)
    | 44 => (show _ = _; kernel_rfl)
    | 45 => (show _ = _; kernel_rfl)
    | 46 => (show _ = _; kernel_rfl)
    | 47 => (show _ = _; kernel_rfl)
    | 48 => (show _ = _; kernel_rfl)
    | 49 => (show _ = _; kernel_rfl)
    | 50 => (show _ = _; kernel_rfl)
    | 51 => (show _ = _; kernel_rfl)
    | 52 => (show _ = _; kernel_rfl)
    | 53 => (show _ = _; kernel_rfl)
    | 54 => (show _ = _; kernel_rfl)
    | 55 => (show _ = _; kernel_rfl)
    | 56 => (show _ = _; kernel_rfl)
    | 57 => (show _ = _; kernel_rfl)
    | 58 => exact (moT_den (ρ := rhoK v k2 c2 ((v 42).asL.length) (seqC (v 42).asL n2 ((v 42).asL.length)) k0) h1).symm
    | 59 => (show _ = _; kernel_rfl)
    | 60 => (show _ = _; kernel_rfl)
    | 61 => (show _ = _; kernel_rfl)
    | 62 => (show _ = _; kernel_rfl)
    | 63 => (show _ = _; kernel_rfl)
    | 64 => (show _ = _; kernel_rfl)
    | n + 65 => exact valK n
end
theorem envTk_ok {ρ : Rho} (hf : ρ.fn = fnU) {a b c d : LpG} (h1 : GOk ρ fFew 0 a) (h2 : GOk ρ fRun 0 b) (h3 : GOk ρ fAj 0 c) (h4 : GOk ρ fTk 0 d) : @EnvOK ρ Try.prog (envTk a b c d) := by
  refine ⟨(envU_ok hf).fn, fun f fn cd q1 q2 => ?_⟩
  simp only [envTk, lpU]
  cases e1 : Nat.beq f fFew with
  | true =>
    obtain rfl := Nat.eq_of_beq_eq_true e1
    exact lf1_ok keyFew h1 q1 q2
  | false =>
    simp only [cond_false]
    cases e2 : Nat.beq f fRun with
    | true =>
      obtain rfl := Nat.eq_of_beq_eq_true e2
      exact lf1_ok keyRun h2 q1 q2
    | false =>
      simp only [cond_false]
      cases e3 : Nat.beq f fAj with
      | true =>
        obtain rfl := Nat.eq_of_beq_eq_true e3
        exact lf1_ok keyT2 h3 q1 q2
      | false =>
        simp only [cond_false]
        cases e4 : Nat.beq f fTk with
        | true =>
          obtain rfl := Nat.eq_of_beq_eq_true e4
          exact lf1_ok keyTk h4 q1 q2
        | false => exact lf0_ok
theorem okT [Rho] {c : Tm} {x y : Tree AV} (h : c.den.asB = true) (hx : x.ok) : (Tree.fork c x y).ok := ⟨fun _ => hx, fun k => absurd (h.symm.trans k) (by simp)⟩
theorem okF [Rho] {c : Tm} {x y : Tree AV} (h : c.den.asB = false) (hy : y.ok) : (Tree.fork c x y).ok := ⟨fun k => absurd (h.symm.trans k) (by simp), fun _ => hy⟩
theorem okL1 [Rho] : (Tree.leaf (AV.bool true)).ok := ⟨.cb true, rfl, rfl⟩
set_option maxRecDepth 100000 in
theorem lawUB_ok (ρ : Rho) : @Tree.ok ρ (lawU gFewB dead dead dead) := by
  letI : Rho := ρ
  exact Tree.allT_ok (lawU gFewB dead dead dead) lawUB_all
theorem ovr_rhoK (v : Nat → Dat) (k2 : Nat) (c2 : List Dat) (k3 : Nat) (c3 : List Dat) (k0 : Nat) : (⟨ovr v (rhoK v k2 c2 k3 c3 k0).val, fnU⟩ : Rho) = rhoK v k2 c2 k3 c3 k0 := by
  have : ovr v (rhoK v k2 c2 k3 c3 k0).val = (rhoK v k2 c2 k3 c3 k0).val := by
    funext n
    unfold ovr
    cases h : Nat.blt n 44 with
    | false => rfl
    | true =>
      show v n = (bif Nat.blt n 44 then v n else _)
      rw [h]; rfl
  rw [this]
  rfl
set_option maxRecDepth 100000 in
/-- The law holds of any rows. -/
theorem law_link (hF : RowsF L) (hM : L.length ≤ 9223372036854775807) : ∃ (ρ : Rho) (a b c d : LpG), ρ.val 0 = .dL L ∧ ρ.val 1 = .dI n2 ∧ @EnvOK ρ Try.prog (envTk a b c d) ∧ @Tree.ok ρ (lawU a b c d) := by
  rcases first_not (fun i => pI L i ≤ 100) L.length with hg | ⟨m, hm, hb, hg⟩
  · by_cases hN : L.length ≤ 200
    · obtain ⟨v, TR, I, hrun⟩ := run_ex (n2 := n2) hF (by omega)
      have etr := I.tr
      have hR : RowsE (v 42).asL := by rw [etr]; exact I.rows
      have hl : (v 42).asL.length ≤ 1000 := by rw [etr]; have := I.len; omega
      have ha : ∀ j, j < (v 42).asL.length → (Jm (seqC (v 42).asL n2 j) ((v 42).asL.getD j []) 0).asB = true := by rw [etr]; exact I.acc
      refine ⟨rhoK v (v 42).asL.length (seqC (v 42).asL n2 (v 42).asL.length) (v 42).asL.length (seqC (v 42).asL n2 (v 42).asL.length) L.length, gFewA, gRun, gAcc, gJdg, I.v0, I.v1, envTk_ok rfl (gFewA_ok I.v0 hM hg) ?_ (gAcc_ok I.v1 hR hl ha) (gJdg_ok I.v1 hR hl), ?_⟩
      · have := hrun (rhoK v (v 42).asL.length (seqC (v 42).asL n2 (v 42).asL.length) (v 42).asL.length (seqC (v 42).asL n2 (v 42).asL.length) L.length).val
        rw [ovr_rhoK] at this
        exact this
      · rw [lawUA_eq]
        letI ρ : Rho := rhoK v (v 42).asL.length (seqC (v 42).asL n2 (v 42).asL.length) (v 42).asL.length (seqC (v 42).asL n2 (v 42).asL.length) L.length
        refine okF ?_ (okT rfl (okT ?_ okL1))
        · rw [gtr_f]
          show (((v 0).asL.length : Nat) : Int) ≤ 200 ∧ ¬ (200 : Int) < (((v 0).asL.length : Nat) : Int)
          rw [I.v0]
          show (L.length : Int) ≤ 200 ∧ ¬ (200 : Int) < (L.length : Int)
          omega
        · rw [eql_t]
          show ((seqC (v 42).asL n2 (v 42).asL.length).getD 0 (.dI 0)).asI = (v 4).asI
          rw [etr, I.e0]
    · refine ⟨rhoK (V0 L n2) 0 [] 0 [] 0, dead, dead, dead, dead, rfl, rfl, envTk_ok rfl (dead_ok _ _ _) (dead_ok _ _ _) (dead_ok _ _ _) (dead_ok _ _ _), ?_⟩
      rw [lawUD_eq]
      letI : Rho := rhoK (V0 L n2) 0 [] 0 [] 0
      exact okT (by rw [gtr_t]; show (200 : Int) < (L.length : Int) ∧ ¬ (L.length : Int) ≤ 200; omega) okL1
  · refine ⟨rhoK (V0 L n2) 0 [] 0 [] m, gFewB, dead, dead, dead, rfl, rfl, envTk_ok rfl (gFewB_ok (v := V0 L n2) rfl hM hm hb hg) (dead_ok _ _ _) (dead_ok _ _ _) (dead_ok _ _ _), ?_⟩
    exact lawUB_ok _
end
end
set_option maxRecDepth 100000 in
theorem tablesLink_w (n2 : Int) (v : Value) (w : World) (h : v = .slice none 0 0 ∨ ∃ a len cap rows, v = .slice (some a) len cap ∧ len ≤ maxLen ∧ SliceAt w a len cap shD rows) :
    Calls Try.prog 8 #[.int .i64 n2, v] w fun e w' => e = .returned (.bool true) ∧ RowKit.Below w.heap.size w w' := by
  rcases h with rfl | ⟨a, len, cap, L, rfl, hmx, hs⟩
  · letI ρ : Rho := rhoK (V0 [] n2) 0 [] 0 [] 0
    exact call_true (evFun_ok noCount (envU_ok rfl) 1000) (args := [iv 1, .nilSlice]) (Tree.allT_ok _ lawUN_all) (cargs := [.int .i64 n2, .slice none 0 0]) ⟨_, _, rfl, ⟨_, _, rfl, rfl, rfl⟩, rfl⟩ w
  · have hF : RowsF L := fun i hi => by
      rw [hs.n] at hi
      obtain ⟨n, h1, h2⟩ := hs.ok i hi 3 _ rfl
      rw [h1]
      simp [Lit.wf, IntKind.min, IntKind.max, IntKind.signed, IntKind.bits] at h2
      show 0 ≤ n ∧ n ≤ 255
      omega
    have hM : L.length ≤ 9223372036854775807 := by
      rw [hs.n]
      exact Nat.le_trans hmx (by decide)
    obtain ⟨ρ, g1, g2, g3, g4, h0, h1, hE, hT⟩ := law_link (n2 := n2) hF hM
    letI := ρ
    have ht : (vt 0).den.asL = L := by
      show (ρ.val 0).asL = L
      rw [h0]; rfl
    have e1 : (vt 1).den.asI = n2 := by
      show (ρ.val 1).asI = n2
      rw [h1]; rfl
    have hm : (fun id => if id = 0 then some (⟨a.block, a.off, cap, shD.length, len * shD.length, false⟩ : Loc) else none) 0 = some ⟨a.block, a.off, cap, shD.length, len * shD.length, false⟩ := rfl
    have hobj : ∀ id o, H0U.get id = some o → id = 0 ∧ o = .seq shD (vt 0) false := fun id o hg => by
      have hg' : look [(0, AObj.seq shD (vt 0) false)] id = some o := hg
      rw [look_cons'] at hg'
      split at hg'
      · rename_i e; cases hg'; exact ⟨e, rfl⟩
      · cases hg'
    refine call_true_at (evFun_ok noCount hE 1000) (args := [iv 1, argD]) (H := H0U) rfl (fun id o hg => ?_) hT (μ := fun id => if id = 0 then some (⟨a.block, a.off, cap, shD.length, len * shD.length, false⟩ : Loc) else none) (cargs := [.int .i64 n2, .slice (some a) len cap]) ?_ ⟨fun id o hg => ?_, fun i j oi oj li lj h1 h2 hij _ _ _ => ?_⟩ (fun id hid => ?_)
    · obtain ⟨_, rfl⟩ := hobj id o hg; rfl
    · exact ⟨_, _, (by rw [← e1]; exact rfl), ⟨_, _, hs.val (by decide) ht hm, rfl, rfl⟩, rfl⟩
    · obtain ⟨rfl, rfl⟩ := hobj id o hg
      exact hs.rep ht hm
    · obtain ⟨rfl, _⟩ := hobj i oi h1
      obtain ⟨rfl, _⟩ := hobj j oj h2
      exact absurd rfl hij
    · have : id ≠ 0 := by
        have h1 : 1 ≤ id := hid
        omega
      exact if_neg this
end Go.Proofs.Ytlbkficdelepeaa.Ab
namespace Go.Proofs.Ytlbkficdelepeaa
open Go Go.Proofs.Ytlbkficdelepeaa.Ab
theorem tablesLink_walk (n2 : Int) (_ : (Lit.int .i64 n2).wf = true) (v : Value) (w : World) (h : v = .slice none 0 0 ∨ ∃ a len cap rows, v = .slice (some a) len cap ∧ len ≤ maxLen ∧ SliceAt w a len cap shD rows) :
    Calls Try.prog 8 #[.int .i64 n2, v] w fun e w' => e = .returned (.bool true) ∧ RowKit.Below w.heap.size w w' := tablesLink_w n2 v w h
end Go.Proofs.Ytlbkficdelepeaa
