/-
  ArqKnown: the chapter's laws as contracts; its loops as states with letters.
  Conditions: as each theorem tells.
-/
import Derived.Test.YtlbkficdelepeaaEnW
import Derived.Test.YtlbkficdelepeaaPlyV
import Derived.Test.YtlbkficdelepeaaArqL
namespace Go.Proofs.Ytlbkficdelepeaa.Ab
set_option linter.unusedSimpArgs false
set_option linter.unusedVariables false
open Go
set_option linter.unusedSectionVars false
noncomputable section
abbrev shCl : List Kd := shC
def plyC : CtrG
  | [x, a, b, s], H => match tmI x, tmI a, tmI b, rowsArg shPl 3904 s H with
    | some (.i64, _), some (.i64, _), some (.i64, _), some q => some (q, .bool true, H)
    | _, _, _, _ => none
  | _, _ => none
def prC : CtrG
  | [x, a, b, s], H => match tmI x, tmI a, tmI b, rowsArg shPr 3968 s H with
    | some (.i64, _), some (.i64, _), some (.i64, _), some q => some (q, .bool true, H)
    | _, _, _, _ => none
  | _, _ => none
def enC : CtrG
  | [x, a, b, .sslice id k off len], H => match tmI x, tmI a, tmI b, H.get id with
    | some (.i64, tx), some (.i64, ta), some (.i64, tb), some (.seq sh t _) => bif eqSh shPr sh && Nat.beq k 3 && off.eqv (.ci 0) && len.eqv (.llen t) then some (.and (.app 3968 t) (.app 3840 (tp [t, tx, ta, tb])), .bool true, H) else none
    | _, _, _, _ => none
  | _, _ => none
def flC : CtrG
  | [a, b], H => match tmI a, tmI b with
    | some (.u8, ta), some (.u8, tb) => some (andT (rngT (.ki .u8) ta) (rngT (.ki .u8) tb), .bool true, H)
    | _, _ => none
  | _, _ => none
section
variable {ρ : Rho}
theorem tmI_val {μ : Mu} {x : AV} {k : IntKind} {t : Tm} (h : tmI x = some (k, t)) {c : Value} (hv : @VR ρ μ x c) : c = .int k (@Tm.den ρ t).asI := by
  cases x <;> simp [tmI] at h
  · obtain ⟨rfl, rfl⟩ := h; exact hv
  · obtain ⟨rfl, rfl⟩ := h; exact hv
theorem fnE_61 (d : Dat) : fnE 3904 d = .dB (rngL shPl d.asL) := fnE_at (b := 61) (j := 0) (by omega) (by omega) rfl
theorem fnE_62 (d : Dat) : fnE 3968 d = .dB (rngL shPr d.asL) := fnE_at (b := 62) (j := 0) (by omega) (by omega) rfl
theorem fnE_60 (d : Dat) : fnE 3840 d = .dB (endsN (cellsD d)) := fnE_at (b := 60) (j := 0) (by omega) (by omega) rfl
theorem plyC_ok (hf : ρ.fn = fnE) : CG ρ 5 plyC := fun args H o v H' _ hg ho => by
  unfold plyC at hg
  split at hg
  · rename_i x a b s H
    split at hg
    · rename_i tx ta tb q hx ha hb hs
      cases hg
      refine ⟨fun μ w cargs hv r d => ?_, LG.refl _⟩
      obtain ⟨c1, _, hv1, ⟨c2, _, hv2, ⟨c3, _, hv3, ⟨c4, _, hv4, rfl, rfl⟩, rfl⟩, rfl⟩, rfl⟩ := hv
      obtain rfl := tmI_val hx hv1
      obtain rfl := tmI_val ha hv2
      obtain rfl := tmI_val hb hv3
      have hr := @rowsArg_ok ρ shPl (by decide) 3904 (fun d => by rw [hf]; exact fnE_61 d) _ _ _ hs ho _ _ _ hv4 r
      refine (Pl.arqPlays_w _ _ _ _ w hr).mono fun e w' he => ?_
      exact ⟨μ, _, he.1, rfl, @evo_below ρ _ _ _ _ r d he.2⟩
    · cases hg
  · cases hg
theorem prC_ok (hf : ρ.fn = fnE) : CG ρ 4 prC := fun args H o v H' _ hg ho => by
  unfold prC at hg
  split at hg
  · rename_i x a b s H
    split at hg
    · rename_i tx ta tb q hx ha hb hs
      cases hg
      refine ⟨fun μ w cargs hv r d => ?_, LG.refl _⟩
      obtain ⟨c1, _, hv1, ⟨c2, _, hv2, ⟨c3, _, hv3, ⟨c4, _, hv4, rfl, rfl⟩, rfl⟩, rfl⟩, rfl⟩ := hv
      obtain rfl := tmI_val hx hv1
      obtain rfl := tmI_val ha hv2
      obtain rfl := tmI_val hb hv3
      have hr := @rowsArg_ok ρ shPr (by decide) 3968 (fun d => by rw [hf]; exact fnE_62 d) _ _ _ hs ho _ _ _ hv4 r
      refine (arqPair_w _ _ _ _ w hr).mono fun e w' he => ?_
      exact ⟨μ, _, he.1, rfl, @evo_below ρ _ _ _ _ r d he.2⟩
    · cases hg
  · cases hg
theorem enC_ok (hf : ρ.fn = fnE) : CG ρ fEn enC := fun args H o v H' _ hg ho => by
  unfold enC at hg
  split at hg
  · rename_i x a b H id k off len
    split at hg
    · rename_i tx ta tb sh t own hx ha hb hget
      cases hc : (eqSh shPr sh && Nat.beq k 3 && off.eqv (.ci 0) && len.eqv (.llen t)) with
      | false => rw [hc] at hg; cases hg
      | true =>
        rw [hc] at hg
        cases hg
        simp only [Bool.and_eq_true] at hc
        obtain ⟨⟨⟨h1, h2⟩, h3⟩, h4⟩ := hc
        obtain rfl := eqSh_eq h1
        obtain rfl := Nat.eq_of_beq_eq_true h2
        obtain rfl := @Tm.eqv_eq ρ _ _ h3
        obtain rfl := @Tm.eqv_eq ρ _ _ h4
        rw [and_t] at ho
        obtain ⟨o1, o2⟩ := ho
        have o1 : (ρ.fn 3968 (@Tm.den ρ t)).asB = true := o1
        have o2 : (ρ.fn 3840 (@Tm.den ρ (tp [t, tx, ta, tb]))).asB = true := o2
        rw [hf, fnE_62] at o1
        rw [hf, fnE_60] at o2
        refine ⟨fun μ w cargs hv r d => ?_, LG.refl _⟩
        obtain ⟨c1, _, hv1, ⟨c2, _, hv2, ⟨c3, _, hv3, ⟨c4, _, hv4, rfl, rfl⟩, rfl⟩, rfl⟩, rfl⟩ := hv
        obtain rfl := tmI_val hx hv1
        obtain rfl := tmI_val ha hv2
        obtain rfl := tmI_val hb hv3
        have hr := @seqArg_ok ρ shPr t id own μ w c4 hv4 (@Rep.obj ρ _ _ _ r id _ hget) o1
        refine (arqEnds_w _ _ _ _ w (normL shPr (@Tm.den ρ t).asL) (hr.imp (fun h => ⟨h.1, by rw [h.2]; rfl⟩) fun h => h) o2).mono fun e w' he => ?_
        exact ⟨μ, _, he.1, rfl, @evo_below ρ _ _ _ _ r d he.2⟩
    · cases hg
  · cases hg
theorem flC_ok : CG ρ 39 flC := fun args H o v H' _ hg ho => by
  unfold flC at hg
  split at hg
  · rename_i a b H
    split at hg
    · rename_i ta tb ha hb
      cases hg
      rw [@andT_den ρ, Bool.and_eq_true] at ho
      refine ⟨fun μ w cargs hv r d => ?_, LG.refl _⟩
      obtain ⟨c1, _, hv1, ⟨c2, _, hv2, rfl, rfl⟩, rfl⟩ := hv
      obtain rfl := tmI_val ha hv1
      obtain rfl := tmI_val hb hv2
      refine (arqFails_walk _ (@rngT_ok ρ (.ki .u8) _ ho.1) _ (@rngT_ok ρ (.ki .u8) _ ho.2) w).mono fun e w' he => ?_
      exact ⟨μ, _, he.1, rfl, @evo_below ρ _ _ _ _ r d he.2⟩
    · cases hg
  · cases hg
end
def tabKn : List (Nat × CtrG) := [(22, trueC), (5, plyC), (4, prC), (fEn, enC), (39, flC)]
theorem tabKn_ok {ρ : Rho} (hf : ρ.fn = fnE) : TabOK ρ tabKn := ⟨true_CG (@works15 ρ), plyC_ok hf, prC_ok hf, enC_ok hf, flC_ok, trivial⟩
def envKn0 : Env := ⟨tabGet tabKn, fun _ _ => none⟩
/-! ### its loops: 0 the number, 1 the call's, 2 the calls, 3 the steps -/
abbrev fAk : FuncId := 6
def TAk : St := ⟨185, [(1, iv 0)], ⟨0, [], [], []⟩, []⟩
def FAk : St := ⟨185, [], ⟨0, [], [], []⟩, []⟩
def HBk : Heap := ⟨2, [(1, .seq shPr (vt 3) true), (0, .seq shPl (vt 2) true)], [], []⟩
def TBk : St := ⟨185, [(4, iv 1), (2, .sslice 0 8 (.ci 0) (.llen (vt 2))), (3, .sslice 1 3 (.ci 0) (.llen (vt 3))), (1, iv 0)], HBk, []⟩
def FBk : St := ⟨185, [(2, .sslice 0 8 (.ci 0) (.llen (vt 2))), (3, .sslice 1 3 (.ci 0) (.llen (vt 3))), (1, iv 0)], HBk, []⟩
def sBk (i : Nat) : Option Tm := bif Nat.beq i 1 then some (.ci 0) else bif Nat.beq i 2 then some (.cb false) else bif Nat.beq i 3 then some (.cb false) else none
def sAk (i : Nat) : Option Tm := bif Nat.beq i 0 then some (.ci 0) else none
def gBk : LpG := loopM 0 1 4 TBk FBk sBk (.exit 2)
def gAk : LpG := loopM 0 0 1 TAk FAk sAk (.exit 0)
def rBk : Tree (AX × Option Eqs) := evCode Try.prog (evFun Try.prog envKn0 1000) (fun _ => none) 1000000 (lpBody Try.prog fAk 1) TBk (outN 0 1 TBk FBk)
def rAk : Tree (AX × Option Eqs) := evCode Try.prog (evFun Try.prog envKn0 1000) (lf1 7 gBk) 1000000 (lpBody Try.prog fAk 0) TAk (outN 0 0 TAk FAk)
def envAk : Env := ⟨tabGet tabKn, lpOne fAk 2 gAk⟩
def lawAk : Tree AV := evFun Try.prog envAk 1000 fAk [] heap0 fun v _ => .leaf v
end
end Go.Proofs.Ytlbkficdelepeaa.Ab
