/-
  TablesKnown: the chapter's laws as contracts; its loops as states with letters.
  Conditions: as each theorem tells.
-/
import Derived.Test.YtlbkficdelepeaaLaw
import Derived.Test.YtlbkficdelepeaaToV
import Derived.Test.YtlbkficdelepeaaTjV
import Derived.Test.YtlbkficdelepeaaTabN
namespace Go.Proofs.Ytlbkficdelepeaa.Ab
set_option linter.unusedSimpArgs false
set_option linter.unusedVariables false
open Go
set_option linter.unusedSectionVars false
noncomputable section
/-! ### the laws -/
def jdgC : CtrG
  | [x, s], H => match tmI x, rowsArg shE 0 s H with
    | some (.i64, _), some q => some (q, .bool true, H)
    | _, _ => none
  | _, _ => none
def lnkC : CtrG
  | [x, s], H => match tmI x, rowsArg shD 1 s H with
    | some (.i64, _), some q => some (q, .bool true, H)
    | _, _ => none
  | _, _ => none
def othC : CtrG
  | [x, s, a, b], H => match tmI x, rowsArg shD 1 s H, tmI a, tmI b with
    | some (.i64, _), some q, some (.i64, ta), some (.u8, tb) => some (andT q (andT (rngT (.ki .i64) ta) (rngT (.ki .u8) tb)), .bool true, H)
    | _, _, _, _ => none
  | _, _ => none
def nonC : CtrG
  | [x], H => match x with
    | .agg vs => match kindsT shE vs with
      | some r => some (debW shE r, .bool true, H)
      | none => none
    | _ => none
  | _, _ => none
/-- Which rows may be. -/
def fnK : Nat → Dat → Dat := fun k d => bif Nat.beq k 0 then .dB (rngL shE d.asL) else .dB (rngL shD d.asL)
section
variable {ρ : Rho}
theorem tmI_val {μ : Mu} {x : AV} {k : IntKind} {t : Tm} (h : tmI x = some (k, t)) {c : Value} (hv : @VR ρ μ x c) : c = .int k (@Tm.den ρ t).asI := by
  cases x <;> simp [tmI] at h
  · obtain ⟨rfl, rfl⟩ := h; exact hv
  · obtain ⟨rfl, rfl⟩ := h; exact hv
theorem jdgC_ok (hf : ρ.fn = fnK) : CG ρ 3 jdgC := fun args H o v H' _ hg ho => by
  unfold jdgC at hg
  split at hg
  · rename_i x s H
    split at hg
    · rename_i t q hx hs
      cases hg
      refine ⟨fun μ w cargs hv r d => ?_, LG.refl _⟩
      obtain ⟨c1, _, hv1, ⟨c2, _, hv2, rfl, rfl⟩, rfl⟩ := hv
      obtain rfl := tmI_val hx hv1
      have hr := @rowsArg_ok ρ shE (by decide) 0 (fun d => by rw [hf]; rfl) _ _ _ hs ho _ _ _ hv2 r
      refine (Tj.tablesJudge_w _ _ w hr).mono fun e w' he => ?_
      exact ⟨μ, _, he.1, rfl, @evo_below ρ _ _ _ _ r d he.2⟩
    · cases hg
  · cases hg
theorem lnkC_ok (hf : ρ.fn = fnK) : CG ρ 8 lnkC := fun args H o v H' _ hg ho => by
  unfold lnkC at hg
  split at hg
  · rename_i x s H
    split at hg
    · rename_i t q hx hs
      cases hg
      refine ⟨fun μ w cargs hv r d => ?_, LG.refl _⟩
      obtain ⟨c1, _, hv1, ⟨c2, _, hv2, rfl, rfl⟩, rfl⟩ := hv
      obtain rfl := tmI_val hx hv1
      have hr := @rowsArg_ok ρ shD (by decide) 1 (fun d => by rw [hf]; rfl) _ _ _ hs ho _ _ _ hv2 r
      refine (tablesLink_w _ _ w hr).mono fun e w' he => ?_
      exact ⟨μ, _, he.1, rfl, @evo_below ρ _ _ _ _ r d he.2⟩
    · cases hg
  · cases hg
theorem othC_ok (hf : ρ.fn = fnK) : CG ρ 9 othC := fun args H o v H' _ hg ho => by
  unfold othC at hg
  split at hg
  · rename_i x s a b H
    split at hg
    · rename_i t q ta tb hx hs ha hb
      cases hg
      rw [@andT_den ρ, @andT_den ρ, Bool.and_eq_true, Bool.and_eq_true] at ho
      obtain ⟨o1, o2, o3⟩ := ho
      refine ⟨fun μ w cargs hv r d => ?_, LG.refl _⟩
      obtain ⟨c1, _, hv1, ⟨c2, _, hv2, ⟨c3, _, hv3, ⟨c4, _, hv4, rfl, rfl⟩, rfl⟩, rfl⟩, rfl⟩ := hv
      obtain rfl := tmI_val hx hv1
      obtain rfl := tmI_val ha hv3
      obtain rfl := tmI_val hb hv4
      have hr := @rowsArg_ok ρ shD (by decide) 1 (fun d => by rw [hf]; rfl) _ _ _ hs o1 _ _ _ hv2 r
      have w1 : (Lit.int .i64 (@Tm.den ρ ta).asI).wf = true := @rngT_ok ρ _ _ o2
      have w2 : (Lit.int .u8 (@Tm.den ρ tb).asI).wf = true := @rngT_ok ρ _ _ o3
      refine (tablesOther_w _ _ _ _ ?_ ?_ w hr).mono fun e w' he => ?_
      · simp [Lit.wf, IntKind.min, IntKind.max, IntKind.signed, IntKind.bits] at w1
        omega
      · simp [Lit.wf, IntKind.min, IntKind.max, IntKind.signed, IntKind.bits] at w2
        omega
      · exact ⟨μ, _, he.1, rfl, @evo_below ρ _ _ _ _ r d he.2⟩
    · cases hg
  · cases hg
theorem nonC_ok : CG ρ 52 nonC := fun args H o v H' _ hg ho => by
  letI := ρ
  unfold nonC at hg
  split at hg
  · rename_i x H
    split at hg
    · rename_i vs
      split at hg
      · rename_i r hr
        cases hg
        refine ⟨callS_new fun μ cargs w hv => ?_, LG.refl _⟩
        obtain ⟨_, _, ⟨cs, hcs, rfl⟩, rfl, rfl⟩ := hv
        have hl : cs.length = 8 := by rw [hcs.length, kindsT_len hr]; rfl
        have sp := kindsT_spec hr hcs
        have ok := debW_ok shE r ho
        generalize cellsD r.den = d at sp ok
        have e : cs = [.int .u8 (d.getD 0 (.dI 0)).asI, .int .u8 (d.getD 1 (.dI 0)).asI, .bool (d.getD 2 (.dI 0)).asB, .int .u8 (d.getD 3 (.dI 0)).asI, .bool (d.getD 4 (.dI 0)).asB, .int .u8 (d.getD 5 (.dI 0)).asI, .int .u8 (d.getD 6 (.dI 0)).asI, .string ⟨(d.getD 7 (.dI 0)).asS.toArray⟩] := by
          refine List.ext_getElem? fun j => ?_
          match j with
          | 0 => exact sp 0 _ rfl
          | 1 => exact sp 1 _ rfl
          | 2 => exact sp 2 _ rfl
          | 3 => exact sp 3 _ rfl
          | 4 => exact sp 4 _ rfl
          | 5 => exact sp 5 _ rfl
          | 6 => exact sp 6 _ rfl
          | 7 => exact sp 7 _ rfl
          | j + 8 => rw [List.getElem?_eq_none (by omega), List.getElem?_eq_none (by simp)]
        rw [e]
        have k := fun j kd hj => rngR_ok ok j kd hj
        obtain ⟨n0, e0, k0⟩ := k 0 _ rfl
        obtain ⟨n1, e1, k1⟩ := k 1 _ rfl
        obtain ⟨n3, e3, k3⟩ := k 3 _ rfl
        obtain ⟨n5, e5, k5⟩ := k 5 _ rfl
        obtain ⟨n6, e6, k6⟩ := k 6 _ rfl
        obtain ⟨s7, e7, k7⟩ := k 7 _ rfl
        cases e0; cases e1; cases e3; cases e5; cases e6; cases e7
        exact (tablesNone_walk _ k0 _ k1 _ _ k3 _ _ k5 _ k6 _ k7 w).mono fun e w' he => ⟨_, he.1, rfl, he.2⟩
      · cases hg
    · cases hg
  · cases hg
end
def tabK : List (Nat × CtrG) := [(11, trueC), (3, jdgC), (8, lnkC), (9, othC), (52, nonC)]
theorem tabK_ok {ρ : Rho} (hf : ρ.fn = fnK) : TabOK ρ tabK := ⟨true_CG (@works24 ρ), jdgC_ok hf, lnkC_ok hf, othC_ok hf, nonC_ok, trivial⟩
def envK0 : Env := ⟨tabGet tabK, fun _ _ => none⟩
abbrev fTk0 : FuncId := 10
end
end Go.Proofs.Ytlbkficdelepeaa.Ab
