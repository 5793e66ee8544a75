/-
  ArqEnds, called: where what is reckoned ends well it returns true, and makes at most new blocks.
  Conditions: as each theorem tells.
-/
import Derived.Test.YtlbkficdelepeaaEnV
namespace Go.Proofs.Ytlbkficdelepeaa.Ab
set_option linter.unusedSimpArgs false
set_option linter.unusedVariables false
open Go
set_option linter.unusedSectionVars false
noncomputable section
set_option maxRecDepth 100000 in
theorem keyEA : keyAt Try.prog fEn 7 0 = true := by kernel_rfl
set_option maxRecDepth 100000 in
theorem keyEB : keyAt Try.prog fEn 14 1 = true := by kernel_rfl
theorem envEn_ok {ρ : Rho} (hf : ρ.fn = fnE) {a b c : LpG} (h1 : GOk ρ fEn 0 a) (h2 : GOk ρ fEn 1 b) (h3 : GOk ρ fSe 0 c) : @EnvOK ρ Try.prog (envEn a b c) := by
  refine ⟨(envE_ok hf).fn, fun f fn cd q1 q2 => ?_⟩
  simp only [envEn, lpEn]
  cases e1 : Nat.beq f fEn with
  | true =>
    obtain rfl := Nat.eq_of_beq_eq_true e1
    exact lf2_ok keyEA keyEB h1 h2 q1 q2
  | false =>
    simp only [cond_false]
    cases e2 : Nat.beq f fSe with
    | true =>
      obtain rfl := Nat.eq_of_beq_eq_true e2
      exact @lf1_ok Try.prog ρ _ _ _ keyC _ h3 _ _ q1 q2
    | false => exact @lf0_ok Try.prog ρ _
abbrev wE (L : List (List Dat)) (k n2 t1 : Int) (x : List Dat) : Nat → Dat := fun n => bif Nat.blt n 4 then [.dL L, .dI k, .dI n2, .dI t1].getD n (.dI 0) else bif Nat.blt n 128 then x.getD (n - 64) (.dI 0) else .dI 0
abbrev rhoE (L : List (List Dat)) (k n2 t1 : Int) (a x y : List Dat) : Rho := ⟨fun n => bif Nat.blt n 4 then wE L k n2 t1 x n else bif Nat.blt n 64 then a.getD (n - 4) (.dI 0) else bif Nat.blt n 128 then wE L k n2 t1 x n else bif Nat.blt n 192 then y.getD (n - 128) (.dI 0) else wE L k n2 t1 x n, fnE⟩
section
variable {L : List (List Dat)} {k n2 t1 : Int} {a x y : List Dat}
theorem rhoE_a {j : Nat} (hj : j < 60) : (rhoE L k n2 t1 a x y).val (4 + j) = a.getD j (.dI 0) := by
  show (bif Nat.blt (4 + j) 4 then _ else bif Nat.blt (4 + j) 64 then a.getD (4 + j - 4) (.dI 0) else _) = _
  rw [blt_f (by omega), blt_t (by omega), show 4 + j - 4 = j by omega]; rfl
theorem rhoE_x {j : Nat} (hj : j < 64) : (rhoE L k n2 t1 a x y).val (64 + j) = x.getD j (.dI 0) := by
  show (bif Nat.blt (64 + j) 4 then _ else bif Nat.blt (64 + j) 64 then _ else bif Nat.blt (64 + j) 128 then (bif Nat.blt (64 + j) 4 then _ else bif Nat.blt (64 + j) 128 then x.getD (64 + j - 64) (.dI 0) else _) else _) = _
  rw [blt_f (show 4 ≤ 64 + j by omega), blt_f (show 64 ≤ 64 + j by omega), blt_t (show 64 + j < 128 by omega), show 64 + j - 64 = j by omega]; rfl
theorem rhoE_y {j : Nat} (hj : j < 64) : (rhoE L k n2 t1 a x y).val (128 + j) = y.getD j (.dI 0) := by
  show (bif Nat.blt (128 + j) 4 then _ else bif Nat.blt (128 + j) 64 then _ else bif Nat.blt (128 + j) 128 then _ else bif Nat.blt (128 + j) 192 then y.getD (128 + j - 128) (.dI 0) else _) = _
  rw [blt_f (show 4 ≤ 128 + j by omega), blt_f (show 64 ≤ 128 + j by omega), blt_f (show 128 ≤ 128 + j by omega), blt_t (show 128 + j < 192 by omega), show 128 + j - 128 = j by omega]; rfl
set_option maxRecDepth 100000 in
theorem sgA (j : Nat) (hj : j < 60) : (a0E (.dI k) (.dI n2) (.dI t1)).getD j (.dI 0) = (sgR (rhoE L k n2 t1 a x y) sPr).val (4 + j) := by
    match j, hj with
    | 0, _ => (show _ = _; kernel_rfl)
    | 1, _ => (show _ = _; kernel_rfl)
    | 2, _ => (show _ = _; kernel_rfl)
    | 3, _ => (show _ = _; kernel_rfl)
    | 4, _ => (show _ = _; kernel_rfl)
    | 5, _ => (show _ = _; kernel_rfl)
    | 6, _ => (show _ = _; kernel_rfl)
    | 7, _ => (show _ = _; kernel_rfl)
    | 8, _ => (show _ = _; kernel_rfl)
    | 9, _ => (show _ = _; kernel_rfl)
    | 10, _ => (show _ = _; kernel_rfl)
    | 11, _ => (show _ = _; kernel_rfl)
    | 12, _ => (show _ = _; kernel_rfl)
    | 13, _ => (show _ = _; kernel_rfl)
    | 14, _ => (show _ = _; kernel_rfl)
    | 15, _ => (show _ = _; kernel_rfl)
    | 16, _ => (show _ = _; kernel_rfl)
    | 17, _ => (show _ = _; kernel_rfl)
    | 18, _ => (show _ = _; kernel_rfl)
    | 19, _ => (show _ = _; kernel_rfl)
    | 20, _ => (show _ = _; kernel_rfl)
    | 21, _ => (show _ = _; kernel_rfl)
    | 22, _ => (show _ = _; kernel_rfl)
    | 23, _ => (show _ = _; kernel_rfl)
    | 24, _ => (show _ = _; kernel_rfl)
    | 25, _ => (show _ = _; kernel_rfl)
    | 26, _ => (show _ = _; kernel_rfl)
    | 27, _ => (show _ = _; kernel_rfl)
    | 28, _ => (show _ = _; kernel_rfl)
    | 29, _ => (show _ = _; kernel_rfl)
    | 30, _ => (show _ = _; kernel_rfl)
    | 31, _ => (show _ = _; kernel_rfl)
    | 32, _ => (show _ = _; kernel_rfl)
    | 33, _ => (show _ = _; kernel_rfl)
    | 34, _ => (show _ = _; kernel_rfl)
    | 35, _ => (show _ = _; kernel_rfl)
    | 36, _ => (show _ = _; kernel_rfl)
    | 37, _ => (show _ = _; kernel_rfl)
    | 38, _ => (show _ = _; kernel_rfl)
    | 39, _ => (show _ = _; kernel_rfl)
    | 40, _ => (show _ = _; kernel_rfl)
    | 41, _ => (show _ = _; kernel_rfl)
    | 42, _ => (show _ = _; kernel_rfl)
    | 43, _ => (show _ = _; kernel_rfl)
    | 44, _ => (show _ = _; kernel_rfl)
    | 45, _ => (show _ = _; kernel_rfl)
    | 46, _ => (show _ = _; kernel_rfl)
    | 47, _ => (show _ = _; kernel_rfl)
    | 48, _ => (show _ = _; kernel_rfl)
    | 49, _ => (show _ = _; kernel_rfl)
    | 50, _ => (show _ = _; kernel_rfl)
    | 51, _ => (show _ = _; kernel_rfl)
    | 52, _ => (show _ = _; kernel_rfl)
    | 53, _ => (show _ = _; kernel_rfl)
    | 54, _ => (show _ = _; kernel_rfl)
    | 55, _ => (show _ = _; kernel_rfl)
    | 56, _ => (show _ = _; kernel_rfl)
    | 57, _ => (show _ = _; kernel_rfl)
    | 58, _ => (show _ = _; kernel_rfl)
    | 59, _ => (show _ = _; kernel_rfl)
    | j + 60, h => exact absurd h (by omega)
set_option maxRecDepth 100000 in
theorem sgB (j : Nat) (hj : j < 60) : (apF 60 0 a x0F).getD j (.dI 0) = (sgR (rhoE L k n2 t1 a x y) sBe).val (64 + j) := by
    match j, hj with
    | 0, _ => (show _ = _; kernel_rfl)
    | 1, _ => (show _ = _; kernel_rfl)
    | 2, _ => (show _ = _; kernel_rfl)
    | 3, _ => (show _ = _; kernel_rfl)
    | 4, _ => (show _ = _; kernel_rfl)
    | 5, _ => (show _ = _; kernel_rfl)
    | 6, _ => (show _ = _; kernel_rfl)
    | 7, _ => (show _ = _; kernel_rfl)
    | 8, _ => (show _ = _; kernel_rfl)
    | 9, _ => (show _ = _; kernel_rfl)
    | 10, _ => (show _ = _; kernel_rfl)
    | 11, _ => (show _ = _; kernel_rfl)
    | 12, _ => (show _ = _; kernel_rfl)
    | 13, _ => (show _ = _; kernel_rfl)
    | 14, _ => (show _ = _; kernel_rfl)
    | 15, _ => (show _ = _; kernel_rfl)
    | 16, _ => (show _ = _; kernel_rfl)
    | 17, _ => (show _ = _; kernel_rfl)
    | 18, _ => (show _ = _; kernel_rfl)
    | 19, _ => (show _ = _; kernel_rfl)
    | 20, _ => (show _ = _; kernel_rfl)
    | 21, _ => (show _ = _; kernel_rfl)
    | 22, _ => (show _ = _; kernel_rfl)
    | 23, _ => (show _ = _; kernel_rfl)
    | 24, _ => (show _ = _; kernel_rfl)
    | 25, _ => (show _ = _; kernel_rfl)
    | 26, _ => (show _ = _; kernel_rfl)
    | 27, _ => (show _ = _; kernel_rfl)
    | 28, _ => (show _ = _; kernel_rfl)
    | 29, _ => (show _ = _; kernel_rfl)
    | 30, _ => (show _ = _; kernel_rfl)
    | 31, _ => (show _ = _; kernel_rfl)
    | 32, _ => (show _ = _; kernel_rfl)
    | 33, _ => (show _ = _; kernel_rfl)
    | 34, _ => (show _ = _; kernel_rfl)
    | 35, _ => (show _ = _; kernel_rfl)
    | 36, _ => (show _ = _; kernel_rfl)
    | 37, _ => (show _ = _; kernel_rfl)
    | 38, _ => (show _ = _; kernel_rfl)
    | 39, _ => (show _ = _; kernel_rfl)
    | 40, _ => (show _ = _; kernel_rfl)
    | 41, _ => (show _ = _; kernel_rfl)
    | 42, _ => (show _ = _; kernel_rfl)
    | 43, _ => (show _ = _; kernel_rfl)
    | 44, _ => (show _ = _; kernel_rfl)
    | 45, _ => (show _ = _; kernel_rfl)
    | 46, _ => (show _ = _; kernel_rfl)
    | 47, _ => (show _ = _; kernel_rfl)
    | 48, _ => (show _ = _; kernel_rfl)
    | 49, _ => (show _ = _; kernel_rfl)
    | 50, _ => (show _ = _; kernel_rfl)
    | 51, _ => (show _ = _; kernel_rfl)
    | 52, _ => (show _ = _; kernel_rfl)
    | 53, _ => (show _ = _; kernel_rfl)
    | 54, _ => (show _ = _; kernel_rfl)
    | 55, _ => (show _ = _; kernel_rfl)
    | 56, _ => (show _ = _; kernel_rfl)
    | 57, _ => (show _ = _; kernel_rfl)
    | 58, _ => (show _ = _; kernel_rfl)
    | 59, _ => (show _ = _; kernel_rfl)
    | j + 60, h => exact absurd h (by omega)
end
theorem x0_len (a : List Dat) : (apF 60 0 a x0F).length = 60 := by kernel_rfl
set_option maxRecDepth 100000 in
/-- Where it ends well, the law holds. -/
theorem law_ends {L : List (List Dat)} {k n2 t1 : Int} (h : endsB (.dL L) (.dI k) (.dI n2) (.dI t1) = true) : ∃ (ρ : Rho) (a b c : LpG), ρ.val 0 = .dL L ∧ ρ.val 1 = .dI k ∧ ρ.val 2 = .dI n2 ∧ ρ.val 3 = .dI t1 ∧ @EnvOK ρ Try.prog (envEn a b c) ∧ @Tree.ok ρ (lawEn a b c) := by
  unfold endsB at h
  split at h
  · rename_i a ha
    split at h
    · rename_i x hx
      split at h
      · rename_i y hy
        rw [nowF_eq, nowF_eq] at h
        rw [nowF_eq] at hx
        have lx : x.length = 60 := by
          obtain ⟨N, g, hh, _, _, _, gl⟩ := runB_of _ _ hx
          have := nBeF_eq (fun _ => .dI t1) (g N) (hh N)
          rw [gl] at this
          exact stepK_len this
        refine ⟨rhoE L k n2 t1 a x y, gAe, gBe, gCe, rfl, rfl, rfl, rfl, envEn_ok rfl (gAe_ok rfl ha sgA fun j hj => rhoE_a hj) (gBe_ok rfl (x0_len a) hx sgB fun j hj => rhoE_x (by omega)) (envBe_ok rfl lx hy (fun j hj => rhoE_x (by omega)) fun j hj => rhoE_y (by omega)), ?_⟩
        rw [← nEn_eq.symm]
        refine boolK_ok ?_
        rw [nEnF_eq (wE L k n2 t1 x) a y]
        exact h
      · cases h
    · cases h
  · cases h
set_option maxRecDepth 100000 in
theorem arqEnds_w (k n2 t1 : Int) (v : Value) (w : World) (L : List (List Dat)) (h : (v = .slice none 0 0 ∧ L = []) ∨ ∃ a len cap, v = .slice (some a) len cap ∧ len ≤ maxLen ∧ SliceAt w a len cap shPr L) (hb : endsB (.dL L) (.dI k) (.dI n2) (.dI t1) = true) :
    Calls Try.prog fEn #[.int .i64 k, .int .i64 n2, .int .i64 t1, v] w fun e w' => e = .returned (.bool true) ∧ RowKit.Below w.heap.size w w' := by
  obtain ⟨ρ, g1, g2, g3, h0, h1, h2, h3, hE, hT⟩ := law_ends hb
  letI := ρ
  have key : ∀ l : Loc, VR (fun id => if id = 0 then some l else none) argPr v → RepO (fun id => if id = 0 then some l else none) 0 w (.seq shPr (vt 0) false) →
      Calls Try.prog fEn #[.int .i64 k, .int .i64 n2, .int .i64 t1, v] w fun e w' => e = .returned (.bool true) ∧ RowKit.Below w.heap.size w w' := fun l hv1 hv2 => by
    have e1 : (vt 1).den.asI = k := by
      show (ρ.val 1).asI = k
      rw [h1]; rfl
    have e2 : (vt 2).den.asI = n2 := by
      show (ρ.val 2).asI = n2
      rw [h2]; rfl
    have e3 : (vt 3).den.asI = t1 := by
      show (ρ.val 3).asI = t1
      rw [h3]; rfl
    have hobj : ∀ id o, H0Pr.get id = some o → id = 0 ∧ o = .seq shPr (vt 0) false := fun id o hg => by
      have hg' : look [(0, AObj.seq shPr (vt 0) false)] id = some o := hg
      rw [look_cons'] at hg'
      split at hg'
      · rename_i e; cases hg'; exact ⟨e, rfl⟩
      · cases hg'
    refine call_true_at (evFun_ok noCount hE 1000) (args := argsPr) (H := H0Pr) rfl (fun id o hg => ?_) hT (μ := fun id => if id = 0 then some l else none) (cargs := [.int .i64 k, .int .i64 n2, .int .i64 t1, v]) ?_ ⟨fun id o hg => ?_, fun i j oi oj li lj h1 h2 hij _ _ _ => ?_⟩ (fun id hid => ?_)
    · obtain ⟨_, rfl⟩ := hobj id o hg; rfl
    · exact ⟨_, _, (by rw [← e1]; exact rfl), ⟨_, _, (by rw [← e2]; exact rfl), ⟨_, _, (by rw [← e3]; exact rfl), ⟨_, _, hv1, rfl, rfl⟩, rfl⟩, rfl⟩, rfl⟩
    · obtain ⟨rfl, rfl⟩ := hobj id o hg
      exact hv2
    · obtain ⟨rfl, _⟩ := hobj i oi h1
      obtain ⟨rfl, _⟩ := hobj j oj h2
      exact absurd rfl hij
    · have : id ≠ 0 := by
        have h1 : 1 ≤ id := hid
        omega
      exact if_neg this
  rcases h with ⟨rfl, rfl⟩ | ⟨ad, len, cap, rfl, hmx, hs⟩
  · have e : (Tm.llen (vt 0)).den.asI = 0 := by
      show (((ρ.val 0).asL.length : Nat) : Int) = 0
      rw [h0]; rfl
    have e0 : (Tm.ci 0).den.asI = 0 := rfl
    refine key ⟨0, 0, 0, 3, 0, true⟩ ⟨_, rfl, rfl, by decide, by rw [e0]; exact Int.le_refl _, by rw [e]; exact Int.le_refl _, ⟨by rw [e0, e]; exact Nat.le_refl _, by rw [e0, e]; exact Nat.le_refl _⟩, .inr ⟨rfl, e, rfl⟩⟩ ⟨_, rfl, ⟨rfl, ?_⟩, Nat.le_refl _, .inl ⟨rfl, rfl, ?_⟩⟩
    · show (ρ.val 0).asL.length * 3 = 0
      rw [h0]; rfl
    · show (ρ.val 0).asL = []
      rw [h0]; rfl
  · have ht : (vt 0).den.asL = L := by
      show (ρ.val 0).asL = L
      rw [h0]; rfl
    exact key ⟨ad.block, ad.off, cap, shPr.length, len * shPr.length, false⟩ (hs.val (by decide) ht rfl) (hs.rep ht rfl)
end
end Go.Proofs.Ytlbkficdelepeaa.Ab
