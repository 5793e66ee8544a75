/-
  Chapter 24: both judges, event by event, in plain terms: they answer alike and know the same.
  Conditions: as each theorem tells.
-/
import Derived.Test.YtlbkficdelepeaaTjL
import Derived.Test.YtlbkficdelepeaaTjC
namespace Go.Proofs.Ytlbkficdelepeaa.Ab
set_option linter.unusedSimpArgs false
set_option linter.unusedVariables false
open Go
set_option linter.unusedSectionVars false
noncomputable section
theorem outE_clo {m B cnt : Nat} {all : Eqs} {k : Nat} (hk : m ≤ k) : ∀ {l : Eqs} {s : Sr} {t : Tm}, wfE m B cnt all l = true → outE l k = some (s, t) → clo m B t = true
  | [], _, _, _, h => by cases h
  | (s, x, u) :: l, s', t, hw, h => by
    cases x with
    | var n =>
      simp only [wfE, Bool.and_eq_true] at hw
      simp only [outE] at h
      cases e : Nat.beq n k with
      | true =>
        rw [e] at h
        simp only [cond_true, Option.some.injEq, Prod.mk.injEq] at h
        obtain ⟨_, rfl⟩ := h
        obtain rfl := Nat.eq_of_beq_eq_true e
        have hn : Nat.blt n m = false := by
          rw [Bool.eq_false_iff]; intro h; rw [Nat.blt_eq] at h; omega
        have := hw.1
        rw [hn] at this
        simp only [cond_false, Bool.and_eq_true] at this
        exact this.1.2
      | false =>
        rw [e] at h
        exact outE_clo hk hw.2 h
    | _ => simp only [wfE] at hw; cases hw
theorem autF_agr {fl : Nat → Dat → Dat} {t : Tree (Option Eqs)} {m B cnt : Nat} {l l' : List Dat} (hw : wfT m B cnt t = true) (h : Agr m B (autR fl l) (autR fl l')) (j : Nat) : autF fl t m cnt l j = autF fl t m cnt l' j := by
  unfold autF
  rw [← sel_agr h t hw]
  split
  · rename_i es he
    cases Nat.blt j cnt with
    | false => rfl
    | true =>
      show outD _ es (m + j) = outD _ es (m + j)
      unfold outD
      split
      · rename_i s u ho
        rw [den_agr h u (outE_clo (Nat.le_add_right m j) (sel_wf t hw he) ho)]
      · rfl
  · rfl
section
variable {ρ : Rho} {F : Fc} {es1 es2 : Eqs} {i j : Nat}
theorem outB_eq (h : @Fc.Ok ρ F) (e : outB F es1 es2 i j = true) : outD ρ es1 i = outD ρ es2 j := by
  unfold outB at e
  unfold outD
  split at e
  · rename_i t u h1 h2
    rw [h1, h2]
    show Dat.dB _ = Dat.dB _
    rw [@sameB_ok ρ F h t u e]
  · cases e
theorem outI_eq (h : @Fc.Ok ρ F) (e : outI F es1 es2 i j = true) : outD ρ es1 i = outD ρ es2 j := by
  unfold outI at e
  unfold outD
  split at e
  · rename_i t u h1 h2
    rw [h1, h2]
    show Dat.dI _ = Dat.dI _
    rw [@sameI_ok ρ F h t u e]
  · cases e
theorem selfI_eq (h : @Fc.Ok ρ F) {n : Nat} (e : selfI F es2 i n = true) : outD ρ es2 i = .dI (ρ.val n).asI := by
  unfold selfI at e
  unfold outD
  split at e
  · rename_i t h1
    rw [h1]
    show Dat.dI _ = Dat.dI _
    rw [@sameI_ok ρ F h t (.var n) e]
    rfl
  · cases e
theorem cmdOk_eq (h : @Fc.Ok ρ F) (e : cmdOk F es1 = true) : (outD ρ es1 24).asI = 0 ∨ (outD ρ es1 25).asB = true := by
  unfold cmdOk at e
  rw [Bool.or_eq_true] at e
  rcases e with e | e
  · left
    unfold outD
    split at e
    · rename_i t h1
      rw [h1]
      show (@Tm.den ρ t).asI = 0
      rw [@sameI_ok ρ F h t _ e]
      rfl
    · cases e
  · right
    unfold outD
    split at e
    · rename_i t h1
      rw [h1]
      show (@Tm.den ρ t).asB = true
      rw [@sameB_ok ρ F h t _ e]
      rfl
    · cases e
theorem stOk_eq (h : @Fc.Ok ρ F) (e : stOk F es1 = true) : 1 ≤ (outD ρ es1 18).asI ∧ (outD ρ es1 18).asI ≤ 5 := by
  unfold stOk at e
  unfold outD
  split at e
  · rename_i t h1
    rw [h1]
    exact @inZ_ok ρ F h t 1 5 e
  · cases e
end
theorem F0_ok {ρ : Rho} {s : Int} {b : Bool} (h0 : (ρ.val 0).asI = s) (h1 : 1 ≤ s ∧ s ≤ 5) (h3 : 0 ≤ (ρ.val 3).asI ∧ (ρ.val 3).asI ≤ 255) (h9 : 0 ≤ (ρ.val 9).asI ∧ (ρ.val 9).asI ≤ 255) (h12 : 0 ≤ (ρ.val 12).asI ∧ (ρ.val 12).asI ≤ 255)
    (hb : bif b then (ρ.val 7).asB = true else (ρ.val 6).asI = 0) : @Fc.Ok ρ (F0 s b) := by
  refine ⟨fun p hp => ?_, fun p hp => ?_, (fun p hp => by cases hp), fun p hp => ?_, (fun p hp => by cases hp), rfl⟩
  · rcases List.mem_cons.1 hp with rfl | hp
    · exact h0
    · cases b with
      | true => cases hp
      | false =>
        rcases List.mem_cons.1 hp with rfl | hp
        · exact hb
        · cases hp
  · cases b with
    | true =>
      rcases List.mem_cons.1 hp with rfl | hp
      · exact hb
      · cases hp
    | false => cases hp
  · have hp' : p ∈ [(vt 0, 1, 5), (vt 3, (0 : Int), (255 : Int)), (vt 9, 0, 255), (vt 12, 0, 255)] := hp
    simp only [List.mem_cons, List.not_mem_nil, or_false] at hp'
    rcases hp' with rfl | rfl | rfl | rfl
    · show 1 ≤ (ρ.val 0).asI ∧ (ρ.val 0).asI ≤ 5
      rw [h0]; exact h1
    · exact h3
    · exact h9
    · exact h12
theorem ck_any {s : Int} (h : 1 ≤ s ∧ s ≤ 5) (b : Bool) : chkT relJ tJ (F0 s b) = true := by
  have : s = 1 ∨ s = 2 ∨ s = 3 ∨ s = 4 ∨ s = 5 := by omega
  rcases this with rfl | rfl | rfl | rfl | rfl <;> cases b
  · exact ck_1_false
  · exact ck_1_true
  · exact ck_2_false
  · exact ck_2_true
  · exact ck_3_false
  · exact ck_3_true
  · exact ck_4_false
  · exact ck_4_true
  · exact ck_5_false
  · exact ck_5_true
def zd : Dat := .dI 0
def l17 (c r : List Dat) : List Dat := [c.getD 0 (.dI 0), c.getD 1 (.dI 0), c.getD 2 (.dI 0), c.getD 3 (.dI 0), c.getD 4 (.dI 0), c.getD 5 (.dI 0), c.getD 6 (.dI 0), c.getD 7 (.dI 0), c.getD 8 (.dI 0), r.getD 0 (.dI 0), r.getD 1 (.dI 0), r.getD 2 (.dI 0), r.getD 3 (.dI 0), r.getD 4 (.dI 0), r.getD 5 (.dI 0), r.getD 6 (.dI 0), r.getD 7 (.dI 0)]
def l23 (c r x : List Dat) : List Dat := [c.getD 0 (.dI 0), c.getD 1 (.dI 0), c.getD 2 (.dI 0), c.getD 3 (.dI 0), c.getD 4 (.dI 0), c.getD 5 (.dI 0), c.getD 6 (.dI 0), c.getD 7 (.dI 0), c.getD 8 (.dI 0), r.getD 0 (.dI 0), r.getD 1 (.dI 0), r.getD 2 (.dI 0), r.getD 3 (.dI 0), r.getD 4 (.dI 0), r.getD 5 (.dI 0), r.getD 6 (.dI 0), r.getD 7 (.dI 0), x.getD 0 (.dI 0), x.getD 1 (.dI 0), x.getD 2 (.dI 0), x.getD 3 (.dI 0), x.getD 4 (.dI 0), x.getD 5 (.dI 0)]
def Jm (c r : List Dat) (j : Nat) : Dat := autF zF tJ 17 10 (l17 c r) j
def Rm (c r x : List Dat) (j : Nat) : Dat := autF zF tR 23 16 (l23 c r x) j
def cNext (c r : List Dat) : List Dat := [Jm c r 1, Jm c r 2, Jm c r 3, c.getD 3 (.dI 0), Jm c r 5, Jm c r 6, Jm c r 7, Jm c r 8, Jm c r 9]
def xNext (c r x : List Dat) : List Dat := [Rm c r x 10, Rm c r x 11, Rm c r x 12, Rm c r x 13, Rm c r x 14, Rm c r x 15]
/-- What is always so of a judge. -/
structure CoreOk (c : List Dat) : Prop where
  st : 1 ≤ (c.getD 0 (.dI 0)).asI ∧ (c.getD 0 (.dI 0)).asI ≤ 5
  mo : 0 ≤ (c.getD 3 (.dI 0)).asI ∧ (c.getD 3 (.dI 0)).asI ≤ 255
  cmd : (c.getD 6 (.dI 0)).asI = 0 ∨ (c.getD 7 (.dI 0)).asB = true
structure RowE (r : List Dat) : Prop where
  k : 0 ≤ (r.getD 0 (.dI 0)).asI ∧ (r.getD 0 (.dI 0)).asI ≤ 255
  f : 0 ≤ (r.getD 3 (.dI 0)).asI ∧ (r.getD 3 (.dI 0)).asI ≤ 255
structure EvRel (c r x : List Dat) : Prop where
  dJ : Jm c r 10 = .dB true
  dR : Rm c r x 16 = .dB true
  e0 : Jm c r 0 = Rm c r x 0
  e1 : Jm c r 1 = Rm c r x 1
  e2 : Jm c r 2 = Rm c r x 2
  e3 : Jm c r 3 = Rm c r x 3
  e4 : .dI (c.getD 3 (.dI 0)).asI = Rm c r x 4
  e5 : Jm c r 5 = Rm c r x 5
  e6 : Jm c r 6 = Rm c r x 6
  e7 : Jm c r 7 = Rm c r x 7
  e8 : Jm c r 8 = Rm c r x 8
  e9 : Jm c r 9 = Rm c r x 9
  ok : CoreOk (cNext c r)
theorem Jm_23 (c r x : List Dat) (j : Nat) : Jm c r j = autF zF tJ 17 10 (l23 c r x) j := by
  refine autF_agr (B := 0) tJ_wf ⟨fun n hn => ?_, fun k d hk => absurd hk (Nat.not_lt_zero _)⟩ j
  show (l17 c r).getD n (.dI 0) = (l23 c r x).getD n (.dI 0)
  match n, hn with
  | 0, _ => rfl
  | 1, _ => rfl
  | 2, _ => rfl
  | 3, _ => rfl
  | 4, _ => rfl
  | 5, _ => rfl
  | 6, _ => rfl
  | 7, _ => rfl
  | 8, _ => rfl
  | 9, _ => rfl
  | 10, _ => rfl
  | 11, _ => rfl
  | 12, _ => rfl
  | 13, _ => rfl
  | 14, _ => rfl
  | 15, _ => rfl
  | 16, _ => rfl
  | n + 17, hn => exact absurd hn (by omega)
theorem debt_true {fl : Nat → Dat → Dat} {t : Tree (Option Eqs)} {m cnt : Nat} {l : List Dat} {es : Eqs} (h : @Tree.sel _ (autR fl l) t = some (some es)) : autF fl t m cnt l cnt = .dB true := by
  unfold autF
  rw [h]
  show (bif Nat.blt cnt cnt then _ else _) = _
  rw [show Nat.blt cnt cnt = false by rw [Bool.eq_false_iff]; intro h; rw [Nat.blt_eq] at h; omega]
  rfl
set_option maxRecDepth 100000 in
theorem evRel {c r : List Dat} (hc : CoreOk c) (hr : RowE r) (x : List Dat) : EvRel c r x := by
  have main : ∃ es1 es2 F, @Tree.sel _ (autR zF (l23 c r x)) tJ = some (some es1) ∧ @Tree.sel _ (autR zF (l23 c r x)) tR = some (some es2) ∧ @Fc.Ok (autR zF (l23 c r x)) F ∧ relE es1 es2 F = true := by
    letI ρ : Rho := autR zF (l23 c r x)
    have run : ∀ b : Bool, (bif b then (ρ.val 7).asB = true else (ρ.val 6).asI = 0) → ∃ es1 es2 F, @Tree.sel _ ρ tJ = some (some es1) ∧ @Tree.sel _ ρ tR = some (some es2) ∧ @Fc.Ok ρ F ∧ relE es1 es2 F = true := fun b hb => by
      have f0 : Fc.Ok (F0 (c.getD 0 (.dI 0)).asI b) := F0_ok rfl hc.st hc.mo hr.k hr.f hb
      obtain ⟨o1, F1, s1, k1, p1⟩ := chkT_ok tJ (ck_any hc.st b) f0
      cases o1 with
      | none => cases p1
      | some es1 =>
        obtain ⟨o2, F2, s2, k2, p2⟩ := chkT_ok (p := relR es1) tR p1 k1
        cases o2 with
        | none => cases p2
        | some es2 => exact ⟨es1, es2, F2, s1, s2, k2, p2⟩
    rcases hc.cmd with h | h
    · exact run false h
    · exact run true h
  obtain ⟨es1, es2, F, s1, s2, k, p⟩ := main
  unfold relE at p
  simp only [Bool.and_eq_true] at p
  obtain ⟨⟨⟨⟨⟨⟨⟨⟨⟨⟨⟨p1, p2⟩, p3⟩, p4⟩, p5⟩, p6⟩, p7⟩, p8⟩, p9⟩, p10⟩, p11⟩, p12⟩ := p
  have j : ∀ j, j < 10 → Jm c r j = outD (autR zF (l23 c r x)) es1 (17 + j) := fun j hj => by
    rw [Jm_23 c r x, outD_get s1 hj]
  have q : ∀ j, j < 16 → Rm c r x j = outD (autR zF (l23 c r x)) es2 (23 + j) := fun j hj => outD_get s2 hj
  refine ⟨by rw [Jm_23 c r x]; exact debt_true s1, debt_true s2, ?_, ?_, ?_, ?_, ?_, ?_, ?_, ?_, ?_, ?_, ⟨?_, hc.mo, ?_⟩⟩
  · rw [j 0 (by omega), q 0 (by omega)]; exact outB_eq k p1
  · rw [j 1 (by omega), q 1 (by omega)]; exact outI_eq k p2
  · rw [j 2 (by omega), q 2 (by omega)]; exact outB_eq k p3
  · rw [j 3 (by omega), q 3 (by omega)]; exact outI_eq k p4
  · rw [q 4 (by omega)]; exact (selfI_eq k p5).symm
  · rw [j 5 (by omega), q 5 (by omega)]; exact outI_eq k p6
  · rw [j 6 (by omega), q 6 (by omega)]; exact outB_eq k p7
  · rw [j 7 (by omega), q 7 (by omega)]; exact outI_eq k p8
  · rw [j 8 (by omega), q 8 (by omega)]; exact outB_eq k p9
  · rw [j 9 (by omega), q 9 (by omega)]; exact outB_eq k p10
  · show 1 ≤ (Jm c r 1).asI ∧ (Jm c r 1).asI ≤ 5
    rw [j 1 (by omega)]
    exact stOk_eq k p12
  · show (Jm c r 7).asI = 0 ∨ (Jm c r 8).asB = true
    rw [j 7 (by omega), j 8 (by omega)]
    exact cmdOk_eq k p11
end
end Go.Proofs.Ytlbkficdelepeaa.Ab
