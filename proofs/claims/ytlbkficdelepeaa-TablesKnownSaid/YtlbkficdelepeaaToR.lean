/-
  TablesOther, in plain terms: a frame that is not due is refused; one that is said once more; one with another bit.
  Conditions: as each theorem tells.
-/
import Derived.Test.YtlbkficdelepeaaToF
import Derived.Test.YtlbkficdelepeaaTlW
namespace Go.Proofs.Ytlbkficdelepeaa.Ab
set_option linter.unusedSimpArgs false
set_option linter.unusedVariables false
open Go
set_option linter.unusedSectionVars false
noncomputable section
theorem ansF_ok {ρ : Rho} {es : Eqs} {F : Fc} (h : @Fc.Ok ρ F) (e : ansF (some es) F = true) : (outD ρ es 17).asB = false := by
  unfold ansF at e
  unfold outD
  simp only at e
  split at e
  · rename_i t ho
    rw [ho]
    show (@Tm.den ρ t).asB = false
    rw [@sameB_ok ρ F h t _ e]; rfl
  · cases e
theorem ansT_ok {ρ : Rho} {es : Eqs} (ho : outsOk es = true) (h : (outD ρ es 17).asB = true) : (@Tm.den ρ (ansT es)).asB = true := by
  unfold outsOk at ho
  simp only [Bool.and_eq_true] at ho
  have h17 := ho.1.1.1.1.1.1.1.1
  unfold ansT
  unfold outD at h
  split at h17
  · rename_i t e
    rw [e] at h ⊢
    exact h
  · cases h17
theorem mem4 {l : List Int} {p : Int → Bool} (h : l.all p = true) {k : Int} (hk : k ∈ l) : p k = true := by
  rw [List.all_eq_true] at h
  exact h k hk
/-- The frame that is said. -/
def oddR (c p : Bool) (k : Int) : List Dat := [.dI 8, .dI 0, .dB c, .dI k, .dB p, .dI 0, .dI 0, .dS []]
section
variable {c r : List Dat}
theorem odd_no (hc : CoreOk c) {k : Int} (h1 : 1 ≤ k) (h4 : k ≤ 4) (hr : (c.getD 4 (.dI 0)).asI ≠ k) (hm : (c.getD 6 (.dI 0)).asI ≠ k) (a b : Bool) : (Jm c (oddR a b k) 0).asB = false := by
  letI ρ : Rho := autR zF (l17 c (oddR a b k))
  have ok : Fc.Ok (F1O k) := by
    refine ⟨fun p hp => ?_, fun p hp => (by cases hp), fun p hp => (by cases hp), fun p hp => ?_, fun p hp => ?_, rfl⟩
    · rcases List.mem_cons.1 hp with rfl | hp
      · rfl
      · cases hp
    · rcases List.mem_cons.1 hp with rfl | hp
      · exact hc.st
      · cases hp
    · have hp' : p ∈ [(vt 4, k), (vt 6, k)] := hp
      simp only [List.mem_cons, List.not_mem_nil, or_false] at hp'
      rcases hp' with rfl | rfl
      · exact hr
      · exact hm
  have hk : k ∈ [(1 : Int), 2, 3, 4] := by
    simp only [List.mem_cons, List.not_mem_nil, or_false]; omega
  obtain ⟨o, F', sl, ok', hp⟩ := chkT_ok _ (mem4 odd_chk hk) ok
  obtain ⟨o', so, rfl⟩ := sub_sel tJ sl
  cases o' with
  | none => cases hp
  | some es =>
    have e := ev_sub (c := c) (r := oddR a b k) (ρ' := rhoU ρ (nthT oddT)) (fun n hn => by
      match n, hn with
      | 0, _ => rfl
      | 1, _ => rfl
      | 2, _ => rfl
      | 3, _ => rfl
      | 4, _ => rfl
      | 5, _ => rfl
      | 6, _ => rfl
      | 7, _ => rfl
      | 8, _ => rfl
      | 9, _ => rfl
      | 10, _ => rfl
      | 11, _ => rfl
      | 12, _ => rfl
      | 13, _ => rfl
      | 14, _ => rfl
      | 15, _ => rfl
      | 16, _ => rfl
      | n + 17, hn => exact absurd hn (by omega)) so (j := 0) (by omega)
    rw [e, ← sub_outD]
    exact ansF_ok ok' hp
theorem F2O_ok (hc : CoreOk c) {k : Int} {b : Bool} (h0 : (r.getD 0 (.dI 0)).asI = 8) (h3 : (r.getD 3 (.dI 0)).asI = k) (h4 : (r.getD 4 (.dI 0)).asB = b) : @Fc.Ok (autR zF (l17 c r)) (F2O k b) := by
  letI : Rho := autR zF (l17 c r)
  refine ⟨fun p hp => ?_, fun p hp => ?_, fun p hp => (by cases hp), fun p hp => ?_, fun p hp => (by cases hp), rfl⟩
  · have hp' : p ∈ [(9, (8 : Int)), (12, k)] := hp
    simp only [List.mem_cons, List.not_mem_nil, or_false] at hp'
    rcases hp' with rfl | rfl
    · exact h0
    · exact h3
  · rcases List.mem_cons.1 hp with rfl | hp
    · exact h4
    · cases hp
  · rcases List.mem_cons.1 hp with rfl | hp
    · exact hc.st
    · cases hp
set_option maxRecDepth 100000 in
theorem self_sub {es : Eqs} (hs : @Tree.sel _ (autR zF (l17 c r)) tJ = some (some es)) {j : Nat} (hj : j < 10) : Jm c r j = outD (autR zF (l17 c r)) es (17 + j) := ev_sub (fun _ _ => rfl) hs hj
set_option maxRecDepth 100000 in
/-- Said once more, it is refused. -/
theorem twice_no (hc : CoreOk c) (hr : RowE r) (h0 : (r.getD 0 (.dI 0)).asI = 8) (h3 : (r.getD 3 (.dI 0)).asI ≤ 4) (ha : (Jm c r 0).asB = true) : (Jm (cNext c r) r 0).asB = false := by
  have hf := hr.f
  generalize hk : (r.getD 3 (.dI 0)).asI = k at *
  have hm : k ∈ [(0 : Int), 1, 2, 3, 4] := by
    simp only [List.mem_cons, List.not_mem_nil, or_false]; omega
  have hc2 := (evRel hc hr []).ok
  letI ρ : Rho := autR zF (l17 c r)
  have chk : chkT (clrP k) tJ (F2O k (r.getD 4 (.dI 0)).asB) = true := by
    have := mem4 clr_chk hm
    rw [Bool.and_eq_true] at this
    cases (r.getD 4 (.dI 0)).asB
    · exact this.2
    · exact this.1
  obtain ⟨o, F', sl, ok', hp⟩ := chkT_ok tJ chk (F2O_ok hc h0 hk rfl)
  cases o with
  | none => cases hp
  | some es =>
    have hp' : (outsOk es && (lrnL (ansT es) true F').all fun F' => match outE es (bif eqZ k 2 || eqZ k 3 then 22 else 24) with
      | some (.sI, t) => sameI F' t (.ci 0)
      | _ => false) = true := hp
    rw [Bool.and_eq_true, List.all_eq_true] at hp'
    have ht := ansT_ok (ρ := ρ) hp'.1 (by rw [← self_sub sl (j := 0) (by omega)]; exact ha)
    obtain ⟨F1, m1, ok1⟩ := lrnL_ok (ansT es) ok' ht
    have h1 := hp'.2 F1 m1
    have hz : (outD ρ es (bif eqZ k 2 || eqZ k 3 then 22 else 24)).asI = 0 := by
      unfold outD
      split at h1
      · rename_i t ho
        rw [ho]
        show (@Tm.den ρ t).asI = 0
        rw [sameI_ok ok1 h1]; rfl
      · cases h1
    by_cases hk0 : k = 0
    · subst hk0
      letI ρ2 : Rho := autR zF (l17 (cNext c r) r)
      have ok2 : @Fc.Ok ρ2 ⟨[(9, 8), (12, 0)], [], [], [(vt 0, 1, 5)], [], false⟩ := by
        refine ⟨fun p hp => ?_, fun p hp => (by cases hp), fun p hp => (by cases hp), fun p hp => ?_, fun p hp => (by cases hp), rfl⟩
        · have hp' : p ∈ [(9, (8 : Int)), (12, 0)] := hp
          simp only [List.mem_cons, List.not_mem_nil, or_false] at hp'
          rcases hp' with rfl | rfl
          · exact h0
          · exact hk
        · rcases List.mem_cons.1 hp with rfl | hp
          · exact hc2.st
          · cases hp
      obtain ⟨o2, F2, sl2, ok2', hp2⟩ := @chkT_ok ρ2 _ _ tJ _ zero_chk ok2
      cases o2 with
      | none => cases hp2
      | some es2 =>
        rw [self_sub sl2 (j := 0) (by omega)]
        exact ansF_ok ok2' hp2
    · letI ρ2 : Rho := autR zF (l17 (cNext c r) r)
      have hm2 : k ∈ [(1 : Int), 2, 3, 4] := by
        simp only [List.mem_cons, List.not_mem_nil, or_false]; omega
      have ok2 : @Fc.Ok ρ2 (F3O k) := by
        refine ⟨fun p hp => ?_, fun p hp => (by cases hp), fun p hp => (by cases hp), fun p hp => ?_, fun p hp => (by cases hp), rfl⟩
        · have hp' : p ∈ [(9, (8 : Int)), (12, k), (bif eqZ k 2 || eqZ k 3 then 4 else 6, 0)] := hp
          simp only [List.mem_cons, List.not_mem_nil, or_false] at hp'
          rcases hp' with rfl | rfl | rfl
          · exact h0
          · exact hk
          · cases hb : eqZ k 2 || eqZ k 3 with
            | true =>
              rw [hb] at hz
              show (Jm c r 5).asI = 0
              rw [self_sub sl (j := 5) (by omega)]; exact hz
            | false =>
              rw [hb] at hz
              show (Jm c r 7).asI = 0
              rw [self_sub sl (j := 7) (by omega)]; exact hz
        · rcases List.mem_cons.1 hp with rfl | hp
          · exact hc2.st
          · cases hp
      obtain ⟨o2, F2, sl2, ok2', hp2⟩ := @chkT_ok ρ2 _ _ tJ _ (mem4 free_chk hm2) ok2
      cases o2 with
      | none => cases hp2
      | some es2 =>
        rw [self_sub sl2 (j := 0) (by omega)]
        exact ansF_ok ok2' hp2
/-- The row with the other bit. -/
def turnR (r : List Dat) : List Dat := [r.getD 0 (.dI 0), r.getD 1 (.dI 0), r.getD 2 (.dI 0), r.getD 3 (.dI 0), .dB (!(r.getD 4 (.dI 0)).asB), r.getD 5 (.dI 0), r.getD 6 (.dI 0), r.getD 7 (.dI 0)]
set_option maxRecDepth 100000 in
/-- With the other bit it is refused. -/
theorem turn_no (hc : CoreOk c) (hr : RowE r) (h0 : (r.getD 0 (.dI 0)).asI = 8) (h3 : (r.getD 3 (.dI 0)).asI ≤ 4) (ha : (Jm c r 0).asB = true) : (Jm c (turnR r) 0).asB = false := by
  have hf := hr.f
  generalize hk : (r.getD 3 (.dI 0)).asI = k at *
  have hm : k ∈ [(0 : Int), 1, 2, 3, 4] := by
    simp only [List.mem_cons, List.not_mem_nil, or_false]; omega
  letI ρ : Rho := autR zF (l17 c r)
  have chk : chkT turnP tJ (F2O k (r.getD 4 (.dI 0)).asB) = true := by
    have := mem4 turn_chk hm
    rw [Bool.and_eq_true] at this
    cases (r.getD 4 (.dI 0)).asB
    · exact this.2
    · exact this.1
  obtain ⟨o, F', sl, ok', hp⟩ := chkT_ok tJ chk (F2O_ok hc h0 hk rfl)
  cases o with
  | none => cases hp
  | some es =>
    have hp' : (outsOk es && (lrnL (ansT es) true F').all fun F' => chkT ansF (subT (nthT bitT) tJ) F') = true := hp
    rw [Bool.and_eq_true, List.all_eq_true] at hp'
    have ht := ansT_ok (ρ := ρ) hp'.1 (by rw [← self_sub sl (j := 0) (by omega)]; exact ha)
    obtain ⟨F1, m1, ok1⟩ := lrnL_ok (ansT es) ok' ht
    obtain ⟨o2, F2, sl2, ok2, hp2⟩ := chkT_ok _ (hp'.2 F1 m1) ok1
    obtain ⟨o', so, rfl⟩ := sub_sel tJ sl2
    cases o' with
    | none => cases hp2
    | some es2 =>
      have e := ev_sub (c := c) (r := turnR r) (ρ' := rhoU ρ (nthT bitT)) (fun n hn => by
        match n, hn with
        | 0, _ => rfl
        | 1, _ => rfl
        | 2, _ => rfl
        | 3, _ => rfl
        | 4, _ => rfl
        | 5, _ => rfl
        | 6, _ => rfl
        | 7, _ => rfl
        | 8, _ => rfl
        | 9, _ => rfl
        | 10, _ => rfl
        | 11, _ => rfl
        | 12, _ => rfl
        | 13, _ => rfl
        | 14, _ => rfl
        | 15, _ => rfl
        | 16, _ => rfl
        | n + 17, hn => exact absurd hn (by omega)) so (j := 0) (by omega)
      rw [e, ← sub_outD]
      exact ansF_ok ok2 hp2
end
end
end Go.Proofs.Ytlbkficdelepeaa.Ab
