/-
  Summaries hold for other tables of functions that agree on what they use; chapter 15's for the table of chapter 24.
  Conditions: as each theorem tells.
-/
import Derived.Test.YtlbkficdelepeaaTlM
import Derived.Test.YtlbkficdelepeaaTjS
namespace Go.Proofs.Ytlbkficdelepeaa.Ab
set_option linter.unusedSimpArgs false
set_option linter.unusedVariables false
open Go
set_option linter.unusedSectionVars false
noncomputable section
def cloEq (M B : Nat) : Eqs → Bool
  | [] => true
  | (_, x, t) :: l => clo M B x && clo M B t && cloEq M B l
def cloTr (M B : Nat) : Tree (Option Eqs) → Bool
  | .fail => true
  | .leaf none => true
  | .leaf (some es) => cloEq M B es
  | .fork c x y => clo M B c && (cloTr M B x && cloTr M B y)
theorem sel_clo {M B : Nat} {ρ ρ' : Rho} (h : Agr M B ρ ρ') : ∀ (t : Tree (Option Eqs)), cloTr M B t = true → @Tree.sel _ ρ t = @Tree.sel _ ρ' t
  | .fail, _ => rfl
  | .leaf _, _ => rfl
  | .fork c x y, hw => by
    simp only [cloTr, Bool.and_eq_true] at hw
    simp only [Tree.sel, den_agr h c hw.1, sel_clo h x hw.2.1, sel_clo h y hw.2.2]
theorem sel_cloE {M B : Nat} {ρ : Rho} {es : Eqs} : ∀ (t : Tree (Option Eqs)), cloTr M B t = true → @Tree.sel _ ρ t = some (some es) → cloEq M B es = true
  | .fail, _, h => by cases h
  | .leaf none, _, h => by cases h
  | .leaf (some e), hw, h => by
    simp only [Tree.sel, Option.some.injEq] at h
    subst h; exact hw
  | .fork c x y, hw, h => by
    simp only [cloTr, Bool.and_eq_true] at hw
    simp only [Tree.sel] at h
    cases hc : (@Tm.den ρ c).asB with
    | true => rw [hc] at h; exact sel_cloE x hw.2.1 h
    | false => rw [hc] at h; exact sel_cloE y hw.2.2 h
theorem eqs_agr {M B : Nat} {a a' b b' : Rho} (h : Agr M B a a') (k : Agr M B b b') : ∀ {es : Eqs}, cloEq M B es = true → EqsOk a b es → EqsOk a' b' es
  | [], _, _ => trivial
  | (s, x, t) :: l, hc, he => by
    simp only [cloEq, Bool.and_eq_true] at hc
    refine ⟨?_, eqs_agr h k hc.2 he.2⟩
    have := he.1
    simp only at this ⊢
    rw [← den_agr h x hc.1.1, ← den_agr k t hc.1.2]
    exact this
theorem SumOK.change {P : Program} {env : Env} {f : FuncId} {S : Sum} {base r M B : Nat} {fn fn' : Nat → Dat → Dat} (h : SumOK P env f S base r fn) (hc : cloTr M B (S.tree P env f) = true) (hM : S.m ≤ M) (hfn : ∀ k d, k < B → fn k d = fn' k d) (hb : base + (M - S.m) ≤ B) (hr : base + r < B) : SumOK P env f S base r fn' := by
  intro ρ hf hok
  obtain ⟨es, h1, h2⟩ := h ⟨ρ.val, fn⟩ rfl (by rw [hfn _ _ hr]; exact hok)
  have hag : Agr M B ⟨ρ.val, fn⟩ ρ := ⟨fun _ _ => rfl, fun k d hk => by rw [hf]; exact hfn k d hk⟩
  have hag2 : Agr M B (rhoO S base ⟨ρ.val, fn⟩) (rhoO S base ρ) := by
    refine ⟨fun n hn => ?_, fun k d hk => by
      show fn k d = ρ.fn k d
      rw [hf]; exact hfn k d hk⟩
    show (bif Nat.blt n S.m then ρ.val n else fn (base + (n - S.m)) (tupD ρ.val S.us)) = (bif Nat.blt n S.m then ρ.val n else ρ.fn (base + (n - S.m)) (tupD ρ.val S.us))
    cases hn' : Nat.blt n S.m with
    | true => rfl
    | false =>
      simp only [cond_false]
      rw [hf]
      exact hfn _ _ (by omega)
  exact ⟨es, (sel_clo hag _ hc).symm.trans h1, eqs_agr hag2 hag (sel_cloE _ hc h1) h2⟩
/-- How far a judge comes, from event k on (f: at most so many). -/
def stopN (L : List (List Dat)) (n2 : Int) : Nat → Nat → Nat
  | 0, k => k
  | f + 1, k => bif (Jm (seqC L n2 k) (L.getD k []) 0).asB then stopN L n2 f (k + 1) else k
open Classical in
/-- What Accepts answers of a row: 0 how many are right, 1 whether all are; 2: of which rows it is said. -/
def accF (l : List Dat) (j : Nat) : Dat :=
  bif Nat.beq j 0 then .dI (stopN (l.getD 1 (.dI 0)).asL (l.getD 0 (.dI 0)).asI (l.getD 1 (.dI 0)).asL.length 0)
  else bif Nat.beq j 1 then .dB (Nat.beq (stopN (l.getD 1 (.dI 0)).asL (l.getD 0 (.dI 0)).asI (l.getD 1 (.dI 0)).asL.length 0) (l.getD 1 (.dI 0)).asL.length)
  else .dB (decide (l.getD 0 (.dI 0) = .dI (l.getD 0 (.dI 0)).asI ∧ RowsE (l.getD 1 (.dI 0)).asL ∧ (l.getD 1 (.dI 0)).asL.length ≤ 1000))
def fnU : Nat → Dat → Dat := fun k d => bif Nat.blt k 2048 then fnOf mSid k d else bif Nat.beq (k / 64) 40 then autF zF tJ 17 10 (cellsD d) (k % 64) else bif Nat.beq (k / 64) 48 then accF (cellsD d) (k % 64) else .dB true
theorem fnU_low {k : Nat} {d : Dat} (h : k < 2048) : fnOf mSid k d = fnU k d := by
  unfold fnU
  rw [show Nat.blt k 2048 = true by rw [Nat.blt_eq]; exact h, cond_true]
theorem fnU_J {j : Nat} {d : Dat} (h : j ≤ 10) : fnU (2560 + j) d = autF zF tJ 17 10 (cellsD d) j := by
  unfold fnU
  rw [show Nat.blt (2560 + j) 2048 = false by rw [Bool.eq_false_iff]; intro h; rw [Nat.blt_eq] at h; omega, cond_false, show (2560 + j) / 64 = 40 by omega, show (2560 + j) % 64 = j by omega, show Nat.beq 40 40 = true from rfl, cond_true]
theorem evJ_okU : SumOK Try.prog none0 fJE SJ 2560 10 fnU := aut_ok (B := 0) (fl := zF) rfl tJ_wf (fun k d hk => absurd hk (Nat.not_lt_zero _)) fun j d hj => fnU_J hj
theorem sumU_CG {ρ : Rho} (hf : ρ.fn = fnU) {f : FuncId} {S : Sum} {base r : Nat} (hS : SumE Try.prog f S base r fnU) : CG ρ f (sumG S base r) := fun args H o v H' _ h ho => sumG_ok noCount (by rw [hf]; exact hS) h ho
theorem noneU_all : ∀ ρ0 : Rho, ρ0.fn = fnU → @EnvOK ρ0 Try.prog none0 := fun ρ0 _ => by letI : Rho := ρ0; exact none0_ok
section
variable {P : Program} {env : Env} {f : FuncId} {S : Sum} {base r M : Nat} {t : Tree (Option Eqs)}
theorem SumOK.toU (h : SumOK P env f S base r (fnOf mSid)) (e : S.tree P env f = t) (hc : cloTr M 2048 t = true) (hM : S.m ≤ M) (hb : base + (M - S.m) ≤ 2048) (hr : base + r < 2048) : SumOK P env f S base r fnU :=
  h.change (M := M) (B := 2048) (by rw [e]; exact hc) hM (fun k d hk => fnU_low hk) hb hr
end
theorem tab0_okU {ρ : Rho} (hf : ρ.fn = fnU) : TabOK ρ tab0 := ⟨sumU_CG hf (SumOK.all noneU_all ((add_ok tAdd_eq).toU (M := 64) tAdd_eq (by kernel_rfl) (by decide) (by decide) (by decide))), sumU_CG hf (SumOK.all noneU_all ((way_ok tWay_eq).toU (M := 64) tWay_eq (by kernel_rfl) (by decide) (by decide) (by decide))), trivial⟩
theorem env0_allU : ∀ ρ0 : Rho, ρ0.fn = fnU → @EnvOK ρ0 Try.prog env0 := fun ρ0 hf => env_of (tab0_okU hf)
theorem tab1_okU {ρ : Rho} (hf : ρ.fn = fnU) : TabOK ρ tab1 := ⟨sumU_CG hf (SumOK.all env0_allU ((acks_ok tAcks_eq).toU (M := 64) tAcks_eq (by kernel_rfl) (by decide) (by decide) (by decide))), sumU_CG hf (SumOK.all noneU_all ((count_ok tCount_eq).toU (M := 64) tCount_eq (by kernel_rfl) (by decide) (by decide) (by decide))), sumU_CG hf (SumOK.all env0_allU ((acked_ok tAcked_eq).toU (M := 64) tAcked_eq (by kernel_rfl) (by decide) (by decide) (by decide))), sumU_CG hf (SumOK.all env0_allU ((take_ok tTake_eq).toU (M := 64) tTake_eq (by kernel_rfl) (by decide) (by decide) (by decide))), sumU_CG hf (SumOK.all noneU_all ((has_ok tHas_eq).toU (M := 64) tHas_eq (by kernel_rfl) (by decide) (by decide) (by decide))), tab0_okU hf⟩
theorem env1_allU : ∀ ρ0 : Rho, ρ0.fn = fnU → @EnvOK ρ0 Try.prog env1 := fun ρ0 hf => env_of (tab1_okU hf)
theorem tabR_ok {ρ : Rho} (hf : ρ.fn = fnU) : TabOK ρ tabR := ⟨sumU_CG hf (SumOK.all env1_allU ((push_ok tPush_eq).toU (M := 64) tPush_eq (by kernel_rfl) (by decide) (by decide) (by decide))), sumU_CG hf (SumOK.all env1_allU ((next_ok tNext_eq).toU (M := 64) tNext_eq (by kernel_rfl) (by decide) (by decide) (by decide))), sumU_CG hf (SumOK.all env1_allU ((hear_ok tHear_eq).toU (M := 64) tHear_eq (by kernel_rfl) (by decide) (by decide) (by decide))), sumU_CG hf (SumOK.all env1_allU ((tick_ok tTick_eq).toU (M := 64) tTick_eq (by kernel_rfl) (by decide) (by decide) (by decide))), trivial⟩
theorem envR_ok {ρ : Rho} (hf : ρ.fn = fnU) : @EnvOK ρ Try.prog envR := env_of (tabR_ok hf)
end
end Go.Proofs.Ytlbkficdelepeaa.Ab
