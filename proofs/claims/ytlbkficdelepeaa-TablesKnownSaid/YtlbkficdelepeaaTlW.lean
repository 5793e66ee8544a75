/-
  Chapter 24, a side to which things happen: each round of run keeps the invariant.
  Conditions: as each theorem tells.
-/
import Derived.Test.YtlbkficdelepeaaTlU
namespace Go.Proofs.Ytlbkficdelepeaa.Ab
set_option linter.unusedSimpArgs false
set_option linter.unusedVariables false
open Go
set_option linter.unusedSectionVars false
noncomputable section
section
variable {L : List (List Dat)} {n2 : Int} {i : Nat} {v : Nat → Dat} {TR : List (List Dat)}
/-- What every round does, whatever happens. -/
theorem base_next {es : Eqs} {po : Dat} {F : Fc} (I : IRun L n2 i v TR) (h4 : i ≤ 400) (h2 : idxOk es = true) (h3 : (isFr es 8 soA frSame || isFr es 8 soA frHear || isFr es 8 soA frNext || isFr es 8 soA frTick || isFr es 8 soA frNew) = true) :
    (nxtR ⟨v, fnU⟩ es po).val 0 = .dL L ∧ (nxtR ⟨v, fnU⟩ es po).val 1 = .dI n2 ∧ (nxtR ⟨v, fnU⟩ es po).val 3 = .dI ((i + 1 : Nat) : Int) ∧ ∃ s, Rel ((i + 1 : Nat) : Int) (aAt (nxtR ⟨v, fnU⟩ es po)) s := by
  refine ⟨I.v0, I.v1, ?_, ?_⟩
  · unfold idxOk at h2
    split at h2
    · rename_i t ho
      obtain rfl := @Tm.eqv_eq rho0 _ _ h2
      rw [nxtR_out (by omega) (by omega) ho]
      show Dat.dI (IntKind.i64.wrap ((v 3).asI + 1)) = _
      rw [I.v3]
      show Dat.dI (IntKind.i64.wrap ((i : Int) + 1)) = _
      rw [i64wrap (by omega) (by omega)]
      simp
    · cases h2
  · obtain ⟨s, hs⟩ := relNext (v := v) (es := es) (po := po) (i := (i : Int)) (by omega) I.side h3
    exact ⟨s, by rw [show ((i + 1 : Nat) : Int) = (i : Int) + 1 by omega]; exact hs⟩
theorem nxt_43 {ρ : Rho} {es : Eqs} {po : Dat} : (nxtR ρ es po).val 43 = po := rfl
theorem nxt_fn {ρ : Rho} {es : Eqs} {po : Dat} : (nxtR ρ es po).fn = ρ.fn := rfl
/-- Nothing is said. -/
theorem no_next {es : Eqs} {F : Fc} (I : IRun L n2 i v TR) (h4 : i ≤ 400) (h2 : idxOk es = true) (h3 : (isFr es 8 soA frSame || isFr es 8 soA frHear || isFr es 8 soA frNext || isFr es 8 soA frTick || isFr es 8 soA frNew) = true)
    (ok : @Fc.Ok ⟨v, fnU⟩ F) (h42 : outE es 42 = some (.sL, .var 42)) (hp : pNo es F = true) : IRun L n2 (i + 1) (nxtR ⟨v, fnU⟩ es (v 43)).val TR := by
  obtain ⟨b0, b1, b3, bs⟩ := base_next (po := v 43) (F := F) I h4 h2 h3
  unfold pNo at hp
  simp only [Bool.and_eq_true] at hp
  obtain ⟨⟨⟨⟨⟨⟨⟨⟨p1, p2⟩, p3⟩, p4⟩, p5⟩, p6⟩, p7⟩, p8⟩, p9⟩ := hp
  have q4 := (keepI_nxt (po := v 43) ok p1 (by omega) (by omega)).trans I.c4.symm
  have q5 := (keepB_nxt (po := v 43) ok p2 (by omega) (by omega)).trans I.c5.symm
  have q6 := (keepI_nxt (po := v 43) ok p3 (by omega) (by omega)).trans I.c6.symm
  have q7 := (keepI_nxt (po := v 43) ok p4 (by omega) (by omega)).trans I.c7.symm
  have q32 := (keepI_nxt (po := v 43) ok p5 (by omega) (by omega)).trans I.c32.symm
  have q34 := (keepB_nxt (po := v 43) ok p6 (by omega) (by omega)).trans I.c34.symm
  have q37 := (keepI_nxt (po := v 43) ok p7 (by omega) (by omega)).trans I.c37.symm
  have q39 := (keepB_nxt (po := v 43) ok p8 (by omega) (by omega)).trans I.c39.symm
  refine ⟨b0, b1, b3, bs, ?_, by have := I.len; omega, I.rows, I.acc, I.e0.trans q4.symm, I.e1.trans q5.symm, I.e2.trans q6.symm, I.e3.trans q7.symm, I.e4.trans q32.symm, I.e5.trans q34.symm, I.e6.trans q37.symm, I.e7.trans q39.symm, I.e8, ?_, ?_, ?_, ?_, ?_, ?_, ?_, ?_, ?_, ?_, ?_, ?_⟩
  · rw [nxtR_out (by omega) (by omega) h42]
    exact I.tr
  · rw [q4]; exact I.c4
  · rw [q5]; exact I.c5
  · rw [q6]; exact I.c6
  · rw [q7]; exact I.c7
  · rw [q32]; exact I.c32
  · rw [q34]; exact I.c34
  · rw [q37]; exact I.c37
  · rw [q39]; exact I.c39
  · rw [q32]; exact I.rk
  · rw [q37]; exact I.ck
  · rw [q4]; exact I.po
  · intro hf
    exact fin_nxt ok p9 hf
theorem seqC_mo (L : List (List Dat)) (n2 : Int) : ∀ k, (seqC L n2 k).getD 3 (.dI 0) = moD n2
  | 0 => rfl
  | k + 1 => seqC_mo L n2 k
set_option maxRecDepth 100000 in
/-- Something is said or heard. -/
theorem ev_next {es : Eqs} {F : Fc} {c : Tm} (I : IRun L n2 i v TR) (h4 : i ≤ 400) (h2 : idxOk es = true) (h3 : (isFr es 8 soA frSame || isFr es 8 soA frHear || isFr es 8 soA frNext || isFr es 8 soA frTick || isFr es 8 soA frNew) = true)
    (ok : @Fc.Ok ⟨v, fnU⟩ F) (h42 : outE es 42 = some (.sL, .lapp (.var 42) (.row c))) (hc : chainT c = true) (hl : (cellsT c).length = 8) (hz : rowZ F (cellsT c) = true) (hp : chkT (pJ es) (subT (sgE (cellsT c)) tJ) F = true) :
    ∃ po r, IRun L n2 (i + 1) (nxtR ⟨v, fnU⟩ es po).val (TR ++ [r]) := by
  letI ρ : Rho := ⟨v, fnU⟩
  obtain ⟨t0, t1, t2, t3, t4, t5, t6, t7, ht⟩ := len8 hl
  have hr : cellsD (@Tm.den ρ c) = (cellsT c).map (@Tm.den ρ) := cells_chain c hc
  generalize hrr : cellsD (@Tm.den ρ c) = r at *
  rw [ht] at hr hz hp
  obtain ⟨o2, F2, s2, ok2, p2⟩ := chkT_ok _ hp ok
  obtain ⟨o', so, rfl⟩ := sub_sel tJ s2
  cases o' with
  | none => cases p2
  | some es' =>
    generalize hcore : seqC TR n2 TR.length = core at *
    have hagr : ∀ n, n < 17 → (rhoU ρ (sgE [t0, t1, t2, t3, t4, t5, t6, t7])).val n = (l17 core r).getD n (.dI 0) := fun n hn => by
      subst hr
      have E0 := I.e0; have E1 := I.e1; have E2 := I.e2; have E3 := I.e3; have E4 := I.e4; have E5 := I.e5; have E6 := I.e6; have E7 := I.e7; have E8 := I.e8
      rw [hcore] at E0 E1 E2 E3 E4 E5 E6 E7 E8
      match n, hn with
      | 0, _ => exact E0.symm
      | 1, _ => exact E1.symm
      | 2, _ => exact E2.symm
      | 3, _ => exact E3.symm
      | 4, _ => exact E4.symm
      | 5, _ => exact E5.symm
      | 6, _ => exact E6.symm
      | 7, _ => exact E7.symm
      | 8, _ => exact E8.symm
      | 9, _ => rfl
      | 10, _ => rfl
      | 11, _ => rfl
      | 12, _ => rfl
      | 13, _ => rfl
      | 14, _ => rfl
      | 15, _ => rfl
      | 16, _ => rfl
      | n + 17, hn => exact absurd hn (by omega)
    have J : ∀ j, j < 10 → Jm core r j = outD ρ (subE (sgE [t0, t1, t2, t3, t4, t5, t6, t7]) es') (17 + j) := fun j hj => by
      rw [ev_sub hagr so hj, sub_outD]
    have p2' : pJ es (some (subE (sgE [t0, t1, t2, t3, t4, t5, t6, t7]) es')) F2 = true := p2
    generalize subE (sgE [t0, t1, t2, t3, t4, t5, t6, t7]) es' = es2 at J p2'
    unfold pJ at p2'
    simp only [Bool.and_eq_true] at p2'
    obtain ⟨⟨⟨⟨⟨⟨⟨⟨⟨⟨⟨p1, p2⟩, p3⟩, p4⟩, p5⟩, p6⟩, p7⟩, p8⟩, p9⟩, p10⟩, p11⟩, p12⟩ := p2'
    let po : Dat := Jm core r 9
    obtain ⟨b0, b1, b3, bs⟩ := base_next (po := po) (F := F) I h4 h2 h3
    obtain ⟨q4, k4⟩ := samI_nxt (po := po) ok2 p2 (by omega) (by omega)
    obtain ⟨q5, k5⟩ := samB_nxt (po := po) ok2 p3 (by omega) (by omega)
    obtain ⟨q6, k6⟩ := samI_nxt (po := po) ok2 p4 (by omega) (by omega)
    have q7 := (keepI_nxt (po := po) ok2 p5 (by omega) (by omega)).trans I.c7.symm
    obtain ⟨q32, k32⟩ := samI_nxt (po := po) ok2 p6 (by omega) (by omega)
    obtain ⟨q34, k34⟩ := samB_nxt (po := po) ok2 p7 (by omega) (by omega)
    obtain ⟨q37, k37⟩ := samI_nxt (po := po) ok2 p8 (by omega) (by omega)
    obtain ⟨q39, k39⟩ := samB_nxt (po := po) ok2 p9 (by omega) (by omega)
    have E3 := I.e3
    rw [hcore] at E3
    have hfp : ∃ t, outE es2 26 = some (.sB, t) ∧ finB F2 es t = true ∧ polB F2 t es = true := by
      split at p12
      · rename_i t ho
        rw [Bool.and_eq_true] at p12
        exact ⟨t, ho, p12.1, p12.2⟩
      · cases p12
    obtain ⟨tp', ho26, hfin, hpol⟩ := hfp
    have ePo : po = .dB (@Tm.den ρ tp').asB := by
      show Jm core r 9 = _
      rw [J 9 (by omega)]
      unfold outD
      rw [ho26]; rfl
    have ans : (Jm core r 0).asB = true := by
      rw [J 0 (by omega)]
      unfold outD
      split at p1
      · rename_i t ho
        rw [ho]
        show (@Tm.den ρ t).asB = true
        rw [sameB_ok ok2 p1]; rfl
      · cases p1
    have hlen : (TR ++ [r]).length = TR.length + 1 := by simp
    have hnew : seqC (TR ++ [r]) n2 (TR ++ [r]).length = cNext core r := by rw [seqC_last, hcore]
    have r0 : r.length = 8 := by rw [hr]; rfl
    have rE : RowE r := by
      have hz' : inZ F t0 0 255 = true ∧ inZ F t3 0 255 = true := by
        have : (inZ F t0 0 255 && inZ F t3 0 255) = true := hz
        rwa [Bool.and_eq_true] at this
      have z0 := inZ_ok ok hz'.1
      have z3 := inZ_ok ok hz'.2
      refine ⟨?_, ?_⟩
      · rw [hr]; exact z0
      · rw [hr]; exact z3
    refine ⟨po, r, b0, b1, b3, bs, ?_, by rw [hlen]; have := I.len; omega, fun j hj => ?_, fun j hj => ?_, ?_, ?_, ?_, ?_, ?_, ?_, ?_, ?_, ?_, k4, k5, k6, ?_, k32, k34, k37, k39, ?_, ?_, ?_, ?_⟩
    · rw [nxtR_out (by omega) (by omega) h42]
      show (v 42).asL ++ [cellsD (@Tm.den ρ c)] = _
      rw [I.tr, hrr]
    · rw [hlen] at hj
      by_cases hjj : j < TR.length
      · rw [List.getD_eq_getElem?_getD, List.getElem?_append_left hjj, ← List.getD_eq_getElem?_getD]
        exact I.rows j hjj
      · obtain rfl : j = TR.length := by omega
        rw [List.getD_eq_getElem?_getD, List.getElem?_append_right (Nat.le_refl _), Nat.sub_self]
        exact ⟨rE, r0⟩
    · rw [hlen] at hj
      by_cases hjj : j < TR.length
      · rw [seqC_app TR r n2 j (by omega), List.getD_eq_getElem?_getD, List.getElem?_append_left hjj, ← List.getD_eq_getElem?_getD]
        exact I.acc j hjj
      · obtain rfl : j = TR.length := by omega
        rw [seqC_app TR r n2 _ (Nat.le_refl _), hcore, List.getD_eq_getElem?_getD, List.getElem?_append_right (Nat.le_refl _), Nat.sub_self]
        exact ans
    · rw [hnew]; exact (J 1 (by omega)).trans q4
    · rw [hnew]; exact (J 2 (by omega)).trans q5
    · rw [hnew]; exact (J 3 (by omega)).trans q6
    · rw [hnew]; exact E3.trans q7.symm
    · rw [hnew]; exact (J 5 (by omega)).trans q32
    · rw [hnew]; exact (J 6 (by omega)).trans q34
    · rw [hnew]; exact (J 7 (by omega)).trans q37
    · rw [hnew]; exact (J 8 (by omega)).trans q39
    · rw [hnew]; rfl
    · rw [q7]; exact I.c7
    · have := oneOf_ok ok2 p10
      rw [← nxt_outD (po := po) (n := 32) (by omega) (by omega) (p := ((outE es 32).getD (.sI, .ci 0))) (by
        unfold oneOf at p10
        split at p10
        · rename_i t ho; rw [ho]; rfl
        · cases p10)] at this
      have rk := I.rk
      rcases this with h | h
      · rw [h]; exact rk
      · simp only [List.mem_cons, List.not_mem_nil, or_false] at h
        exact h
    · have := oneOf_ok ok2 p11
      rw [← nxt_outD (po := po) (n := 37) (by omega) (by omega) (p := ((outE es 37).getD (.sI, .ci 0))) (by
        unfold oneOf at p11
        split at p11
        · rename_i t ho; rw [ho]; rfl
        · cases p11)] at this
      have ck := I.ck
      rcases this with h | h
      · rw [h]; exact ck
      · simp only [List.mem_cons, List.not_mem_nil, or_false] at h
        exact h
    · intro hpo
      have hpo : po.asB = true := hpo
      rw [ePo] at hpo
      have := polB_ok ok2 hpol hpo
      have e4 : outD ρ es 4 = (nxtR ρ es po).val 4 := (samI_eq ok2 p2).symm.trans q4
      rw [← e4]; exact this
    · intro hf
      show po.asB = true
      rw [ePo]
      exact fin_nxt ok2 hfin hf
set_option maxRecDepth 100000 in
/-- A ROUND. -/
theorem roundRun (I : IRun L n2 i v TR) (hi : i < L.length) (h4 : i ≤ 400) (hF : RowsF L) : ∃ v' TR', IRun L n2 (i + 1) v' TR' ∧ v' 2 = v 2 ∧ ∃ es, @Tree.sel _ ⟨v, fnU⟩ rtRun = some (AX.normal, some es) ∧ EqsOk ⟨v', fnU⟩ ⟨v, fnU⟩ es := by
  obtain ⟨s, b, d, hs, ok⟩ := F0L_ok I hi h4 hF
  letI ρ : Rho := ⟨v, fnU⟩
  obtain ⟨p, F', sl, ok', hp⟩ := chkT_ok rtRun (rk_any hs b d) ok
  obtain ⟨x, o⟩ := p
  cases x with
  | ret => cases hp
  | exit n => cases hp
  | normal =>
    cases o with
    | none => cases hp
    | some es =>
      have hp' : (eqOk F' es es && idxOk es && (isFr es 8 soA frSame || isFr es 8 soA frHear || isFr es 8 soA frNext || isFr es 8 soA frTick || isFr es 8 soA frNew) && (lrnL (factOf es) true F').all (pEv es)) = true := hp
      simp only [Bool.and_eq_true] at hp'
      obtain ⟨⟨⟨h1, h2⟩, h3⟩, h5⟩ := hp'
      rw [List.all_eq_true] at h5
      obtain ⟨F1, m1, ok1⟩ := lrnL_ok (factOf es) ok' (b := true) fact_ok
      have h6 := h5 F1 m1
      unfold pEv at h6
      split at h6
      · rename_i n ho
        rw [Bool.and_eq_true] at h6
        obtain rfl := Nat.eq_of_beq_eq_true h6.1
        exact ⟨_, _, no_next I h4 h2 h3 ok1 ho h6.2, rfl, es, sl, eqOk_ok h1⟩
      · rename_i n c ho
        simp only [Bool.and_eq_true] at h6
        obtain ⟨⟨⟨⟨g1, g2⟩, g3⟩, g4⟩, g5⟩ := h6
        obtain rfl := Nat.eq_of_beq_eq_true g1
        obtain ⟨po, r, hI⟩ := ev_next I h4 h2 h3 ok1 ho g2 (Nat.eq_of_beq_eq_true g3) g4 g5
        exact ⟨_, _, hI, rfl, es, sl, eqOk_ok h1⟩
      · cases h6
end
end
end Go.Proofs.Ytlbkficdelepeaa.Ab
