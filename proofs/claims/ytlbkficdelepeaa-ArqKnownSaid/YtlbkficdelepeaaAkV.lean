/-
  ArqKnown, called: it returns true and makes at most new blocks.
  No condition.
-/
import Derived.Test.YtlbkficdelepeaaAkF
import Derived.Test.YtlbkficdelepeaaAkC0
import Derived.Test.YtlbkficdelepeaaAkC1
import Derived.Test.YtlbkficdelepeaaAkC2
import Derived.Test.YtlbkficdelepeaaAkC3
namespace Go.Proofs.Ytlbkficdelepeaa.Ab
set_option linter.unusedSimpArgs false
set_option linter.unusedVariables false
open Go
set_option linter.unusedSectionVars false
noncomputable section
theorem okR_at (a : Nat) : ∀ (n k : Nat), okR a n = true → k < n → okI (a + k) = true
  | 0, k, _, h => absurd h (Nat.not_lt_zero _)
  | n + 1, k, h, hk => by
    have h' : (okI (a + n) && okR a n) = true := h
    rw [Bool.and_eq_true] at h'
    by_cases e : k = n
    · subst e; exact h'.1
    · exact okR_at a n k h'.2 (by omega)
theorem ok_all (i : Nat) (h : i < 400) : okI i = true := by
  have key : ∀ q, q < 20 → okR (20 * q) 20 = true := fun q hq => by
    match q, hq with
    | 0, _ => exact ok_0
    | 1, _ => exact ok_20
    | 2, _ => exact ok_40
    | 3, _ => exact ok_60
    | 4, _ => exact ok_80
    | 5, _ => exact ok_100
    | 6, _ => exact ok_120
    | 7, _ => exact ok_140
    | 8, _ => exact ok_160
    | 9, _ => exact ok_180
    | 10, _ => exact ok_200
    | 11, _ => exact ok_220
    | 12, _ => exact ok_240
    | 13, _ => exact ok_260
    | 14, _ => exact ok_280
    | 15, _ => exact ok_300
    | 16, _ => exact ok_320
    | 17, _ => exact ok_340
    | 18, _ => exact ok_360
    | 19, _ => exact ok_380
    | q + 20, h => exact absurd h (by omega)
  have := okR_at (20 * (i / 20)) 20 (i % 20) (key (i / 20) (by omega)) (Nat.mod_lt _ (by decide))
  rwa [show 20 * (i / 20) + i % 20 = i by omega] at this
theorem runK_of (i : Dat) : ∀ (f : Nat) {x xF : List Dat}, runK i f x = some xF → ∃ (N : Nat) (g : Nat → List Dat), g 0 = x ∧ (∀ k, k < N → apF 3 0 (g k) (nBkF i) = some (.normal, g (k + 1))) ∧ apF 3 0 (g N) (nBkF i) = some (.exit 2, xF)
  | 0, _, _, h => by cases h
  | f + 1, y, yF, h => by
    unfold runK at h
    rw [nowF_eq] at h
    split at h
    · rename_i y' h1
      obtain ⟨N, g, g0, gs, gl⟩ := runK_of i f h
      refine ⟨N + 1, fun k => bif Nat.beq k 0 then y else g (k - 1), rfl, fun k hk => ?_, ?_⟩
      · match k with
        | 0 =>
          show apF 3 0 y (nBkF i) = some (.normal, g 0)
          rw [g0]; exact h1
        | k + 1 => exact gs k (by omega)
      · exact gl
    · rename_i y' h1
      cases h
      exact ⟨0, fun _ => y, rfl, fun k hk => absurd hk (Nat.not_lt_zero _), h1⟩
    · cases h
abbrev rhoG (i : Nat) (v : List Dat) : Rho := ⟨fun n => bif Nat.blt n 1 then .dI (i : Int) else v.getD (n - 1) (.dI 0), fnE⟩
theorem rhoG_v {i : Nat} {v : List Dat} {j : Nat} : (rhoG i v).val (1 + j) = v.getD j (.dI 0) := by
  show (bif Nat.blt (1 + j) 1 then _ else v.getD (1 + j - 1) (.dI 0)) = _
  rw [blt_f (by omega), show 1 + j - 1 = j by omega]; rfl
theorem rhoG_0 {i : Nat} {v : List Dat} {n : Nat} (h : n < 1) : (rhoG i v).val n = .dI (i : Int) := by
  obtain rfl : n = 0 := by omega
  rfl
set_option maxRecDepth 100000 in
theorem wfAk : wfQT 1 3 nBk && wfQT 0 1 nAk = true := by kernel_rfl
set_option maxRecDepth 100000 in
theorem keyK1 : keyAt Try.prog fAk 7 1 = true := by kernel_rfl
set_option maxRecDepth 100000 in
theorem keyK0 : keyAt Try.prog fAk 2 0 = true := by kernel_rfl
set_option maxRecDepth 100000 in
theorem subK : loopsOf (lpBody Try.prog fAk 0) = ((lpList Try.prog fAk).drop 1).take 1 := by kernel_rfl
theorem cfK (ρ : Rho) (hf : ρ.fn = fnE) {α : Type} : @CfOK ρ α Try.prog (evFun Try.prog envKn0 1000) := @evFun_ok ρ _ noCount _ (env_of (tabKn_ok hf)) _ 1000
set_option maxRecDepth 100000 in
theorem gBk_ok {i : Nat} {v : List Dat} (h : runK (.dI (i : Int)) 30 v0K = some v) : GOk (rhoG i v) fAk 1 gBk := by
  obtain ⟨N, g, g0, gs, gl⟩ := runK_of _ _ h
  have hw := wfAk
  rw [Bool.and_eq_true] at hw
  have hs : ∀ k, k < N → stepK (rhoG i (g k)) nBk 1 3 = some (.normal, g (k + 1)) := fun k hk => by
    rw [nBkF_eq (fun _ => .dI (i : Int))]; exact gs k hk
  have hz : stepK (rhoG i (g N)) nBk 1 3 = some (.exit 2, v) := by
    rw [nBkF_eq (fun _ => .dI (i : Int))]; exact gl
  refine loopMV_ok noCount (rhoG i v) (fun k => rhoG i (g k)) N (fuel := 1000000) (cf := evFun Try.prog envKn0 1000) (lf := fun _ => none) (fun _ => TBk) (by simp) (fun _ => rfl) (fun k hk => cfK _ rfl) (fun k _ => by letI : Rho := rhoG i (g k); exact lf0_ok) (fun k _ => ⟨fun n hn => (rhoG_0 hn).trans (rhoG_0 hn).symm, rfl⟩) (fun k hk => ?_) ?_ (fun n hn => ?_)
  · show ∃ es, @Tree.sel _ (rhoG i (g k)) rBk = _ ∧ _
    rw [nBk_eq]
    exact stepK_eqs (hs k hk) hw.1 (fun n hn => (rhoG_0 hn).trans (rhoG_0 hn).symm) fun j hj => rhoG_v
  · show ∃ es, @Tree.sel _ (rhoG i (g N)) rBk = _ ∧ _
    rw [nBk_eq]
    exact stepK_eqs hz hw.1 (fun n hn => (rhoG_0 hn).trans (rhoG_0 hn).symm) fun j hj => rhoG_v
  · show (rhoG i (g 0)).val n = (match sBk n with
      | some t => @Tm.den (rhoG i v) t
      | none => (rhoG i v).val n)
    rw [g0]
    match n, hn with
    | 0, _ => rfl
    | 1, _ => rfl
    | 2, _ => rfl
    | 3, _ => rfl
theorem okI_of {i : Nat} (h : okI i = true) : ∃ v, runK (.dI (i : Int)) 30 v0K = some v ∧ stepK (rhoG i v) nAk 0 1 = some (.normal, [.dI ((i + 1 : Nat) : Int)]) := by
  unfold okI at h
  split at h
  · rename_i v hv
    rw [nowL_eq] at h
    split at h
    · rename_i n hn
      letI : Rho := rhoG i v
      rw [eqZ_eq _ _ h] at hn
      refine ⟨v, hv, ?_⟩
      rw [nAkF_eq (fun _ => .dI (i : Int))]
      exact hn
    · cases h
  · cases h
theorem okX_of {i : Nat} (h : okX i = true) : ∃ v, runK (.dI (i : Int)) 30 v0K = some v ∧ ∃ u, stepK (rhoG i v) nAk 0 1 = some (.exit 0, u) := by
  unfold okX at h
  split at h
  · rename_i v hv
    rw [nowL_eq] at h
    split at h
    · rename_i u hu
      refine ⟨v, hv, u, ?_⟩
      rw [nAkF_eq (fun _ => .dI (i : Int))]
      exact hu
    · cases h
  · cases h
def isNil : Eqs → Bool
  | [] => true
  | _ => false
/-- Ways out with nothing to say. -/
def exT : Tree (AX × Option Eqs) → Bool
  | .fail => true
  | .leaf p => match p.1, p.2 with
    | .normal, _ => true
    | _, some es => isNil es
    | _, none => true
  | .fork _ x y => exT x && exT y
theorem exT_ok {ρ : Rho} {x : AX} {es : Eqs} : ∀ (t : Tree (AX × Option Eqs)), @Tree.sel _ ρ t = some (x, some es) → x ≠ .normal → exT t = true → es = []
  | .fail, h, _, _ => by cases h
  | .leaf (y, o), h, hx, ht => by
    simp only [Tree.sel, Option.some.injEq, Prod.mk.injEq] at h
    obtain ⟨rfl, rfl⟩ := h
    cases y with
    | normal => exact absurd rfl hx
    | _ =>
      have ht' : isNil es = true := ht
      cases es with
      | nil => rfl
      | cons _ _ => cases ht'
  | .fork q s t, h, hx, ht => by
    simp only [exT, Bool.and_eq_true] at ht
    simp only [Tree.sel] at h
    cases hc : (@Tm.den ρ q).asB with
    | true => rw [hc] at h; exact exT_ok s h hx ht.1
    | false => rw [hc] at h; exact exT_ok t h hx ht.2
theorem runs_ex : ∃ g : Nat → List Dat, (∀ i : Nat, i ≤ 400 → runK (.dI (i : Int)) 30 v0K = some (g i)) ∧ (∀ i : Nat, i < 400 → stepK (rhoG i (g i)) nAk 0 1 = some (.normal, [.dI ((i + 1 : Nat) : Int)])) ∧ ∃ u, stepK (rhoG 400 (g 400)) nAk 0 1 = some (.exit 0, u) := by
  obtain ⟨vx, x1, x2⟩ := okX_of ok_x
  refine ⟨fun i => (runK (.dI (i : Int)) 30 v0K).getD [], fun i hi => ?_, fun i hi => ?_, ?_⟩
  · by_cases h : i < 400
    · obtain ⟨v, h1, _⟩ := okI_of (ok_all i h)
      show _ = some ((runK (.dI (i : Int)) 30 v0K).getD [])
      rw [h1]; rfl
    · obtain rfl : i = 400 := by omega
      show _ = some ((runK (.dI ((400 : Nat) : Int)) 30 v0K).getD [])
      rw [x1]; rfl
  · obtain ⟨v, h1, h2⟩ := okI_of (ok_all i hi)
    show stepK (rhoG i ((runK (.dI (i : Int)) 30 v0K).getD [])) nAk 0 1 = _
    rw [h1]; exact h2
  · show ∃ u, stepK (rhoG 400 ((runK (.dI ((400 : Nat) : Int)) 30 v0K).getD [])) nAk 0 1 = some (.exit 0, u)
    rw [x1]; exact x2
set_option maxRecDepth 100000 in
theorem gAk_ex : ∃ ρ : Rho, ρ.fn = fnE ∧ GOk ρ fAk 0 gAk := by
  obtain ⟨g, g1, g2, u, g3⟩ := runs_ex
  have hw := wfAk
  rw [Bool.and_eq_true] at hw
  refine ⟨rhoG 400 (g 400), rfl, ?_⟩
  refine loopMV_ok noCount (rhoG 400 (g 400)) (fun k => rhoG k (g k)) 400 (fuel := 1000000) (cf := evFun Try.prog envKn0 1000) (lf := lf1 7 gBk) (fun _ => TAk) (by simp) (fun _ => rfl) (fun k hk => cfK _ rfl) (fun k hk => lfSub_ok subK keyK1 (gBk_ok (g1 k hk))) (fun k _ => ⟨fun n hn => absurd hn (Nat.not_lt_zero _), rfl⟩) (fun k hk => ?_) ?_ (fun n hn => ?_)
  · show ∃ es, @Tree.sel _ (rhoG k (g k)) rAk = _ ∧ _
    rw [nAk_eq]
    refine stepK_eqs (g2 k hk) hw.2 (fun n hn => absurd hn (Nat.not_lt_zero _)) fun j hj => ?_
    obtain rfl : j = 0 := by omega
    rfl
  · show ∃ es, @Tree.sel _ (rhoG 400 (g 400)) rAk = _ ∧ _
    rw [nAk_eq]
    obtain ⟨es, hs, rfl⟩ := stepK_of _ g3
    refine ⟨es, hs, ?_⟩
    rw [exT_ok nAk hs (by simp) (by kernel_rfl)]; trivial
  · obtain rfl : n = 0 := by omega
    rfl
end
set_option maxRecDepth 100000 in
theorem arqKnown_w (w : World) : Calls Try.prog fAk #[] w fun e w' => e = .returned (.bool true) ∧ RowKit.Below w.heap.size w w' := by
  obtain ⟨ρ, hf, hg⟩ := gAk_ex
  letI := ρ
  have hE : EnvOK Try.prog envAk := envOne_ok (env_of (tabKn_ok hf)).fn keyK0 hg
  exact call_true (evFun_ok noCount hE 1000) (args := []) (Tree.allT_ok _ lawAk_all) (cargs := []) rfl w
end Go.Proofs.Ytlbkficdelepeaa.Ab
namespace Go.Proofs.Ytlbkficdelepeaa
open Go
theorem arqKnown_walk (w : World) : Calls Try.prog 6 #[] w fun e w' => e = .returned (.bool true) ∧ RowKit.Below w.heap.size w w' := Ab.arqKnown_w w
end Go.Proofs.Ytlbkficdelepeaa
