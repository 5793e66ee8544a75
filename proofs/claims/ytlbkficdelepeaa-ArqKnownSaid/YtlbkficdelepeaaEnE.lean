/-
  ArqEnds: its contracts, for the table of functions in which its helpers stand too.
  Conditions: as each theorem tells.
-/
import Derived.Test.YtlbkficdelepeaaEnG
import Derived.Test.YtlbkficdelepeaaChg
namespace Go.Proofs.Ytlbkficdelepeaa.Ab
set_option linter.unusedSimpArgs false
set_option linter.unusedVariables false
open Go
set_option linter.unusedSectionVars false
noncomputable section
theorem fnE_low {k : Nat} {d : Dat} (h : k < 2048) : fnOf mSid k d = fnE k d := by
  unfold fnE
  rw [show Nat.blt k 2048 = true by rw [Nat.blt_eq]; exact h, cond_true]
theorem sumE_CG {ρ : Rho} (hf : ρ.fn = fnE) {f : FuncId} {S : Sum} {base r : Nat} (hS : SumE Try.prog f S base r fnE) : CG ρ f (sumG S base r) := fun args H o v H' _ h ho => sumG_ok noCount (by rw [hf]; exact hS) h ho
theorem noneE_all : ∀ ρ0 : Rho, ρ0.fn = fnE → @EnvOK ρ0 Try.prog none0 := fun ρ0 _ => by letI : Rho := ρ0; exact none0_ok
section
variable {P : Program} {env : Env} {f : FuncId} {S : Sum} {base r M : Nat} {t : Tree (Option Eqs)}
theorem SumOK.toE (h : SumOK P env f S base r (fnOf mSid)) (e : S.tree P env f = t) (hc : cloTr M 2048 t = true) (hM : S.m ≤ M) (hb : base + (M - S.m) ≤ 2048) (hr : base + r < 2048) : SumOK P env f S base r fnE :=
  h.change (M := M) (B := 2048) (by rw [e]; exact hc) hM (fun k d hk => fnE_low hk) hb hr
end
theorem tab0_okE {ρ : Rho} (hf : ρ.fn = fnE) : TabOK ρ tab0 := ⟨sumE_CG hf (SumOK.all noneE_all ((add_ok tAdd_eq).toE (M := 64) tAdd_eq (by kernel_rfl) (by decide) (by decide) (by decide))), sumE_CG hf (SumOK.all noneE_all ((way_ok tWay_eq).toE (M := 64) tWay_eq (by kernel_rfl) (by decide) (by decide) (by decide))), trivial⟩
theorem env0_allE : ∀ ρ0 : Rho, ρ0.fn = fnE → @EnvOK ρ0 Try.prog env0 := fun ρ0 hf => env_of (tab0_okE hf)
theorem tab1_okE {ρ : Rho} (hf : ρ.fn = fnE) : TabOK ρ tab1 := ⟨sumE_CG hf (SumOK.all env0_allE ((acks_ok tAcks_eq).toE (M := 64) tAcks_eq (by kernel_rfl) (by decide) (by decide) (by decide))), sumE_CG hf (SumOK.all noneE_all ((count_ok tCount_eq).toE (M := 64) tCount_eq (by kernel_rfl) (by decide) (by decide) (by decide))), sumE_CG hf (SumOK.all env0_allE ((acked_ok tAcked_eq).toE (M := 64) tAcked_eq (by kernel_rfl) (by decide) (by decide) (by decide))), sumE_CG hf (SumOK.all env0_allE ((take_ok tTake_eq).toE (M := 64) tTake_eq (by kernel_rfl) (by decide) (by decide) (by decide))), sumE_CG hf (SumOK.all noneE_all ((has_ok tHas_eq).toE (M := 64) tHas_eq (by kernel_rfl) (by decide) (by decide) (by decide))), tab0_okE hf⟩
theorem env1_allE : ∀ ρ0 : Rho, ρ0.fn = fnE → @EnvOK ρ0 Try.prog env1 := fun ρ0 hf => env_of (tab1_okE hf)
theorem tabA7_okE {ρ : Rho} (hf : ρ.fn = fnE) : TabOK ρ tabA7 := ⟨sumE_CG hf (SumOK.all noneE_all ((has_ok tHas_eq).toE (M := 64) tHas_eq (by kernel_rfl) (by decide) (by decide) (by decide))), sumE_CG hf (SumOK.all env1_allE ((push_ok tPush_eq).toE (M := 64) tPush_eq (by kernel_rfl) (by decide) (by decide) (by decide))), sumE_CG hf (SumOK.all env1_allE ((next_ok tNext_eq).toE (M := 64) tNext_eq (by kernel_rfl) (by decide) (by decide) (by decide))), sumE_CG hf (SumOK.all env1_allE ((hear_ok tHear_eq).toE (M := 64) tHear_eq (by kernel_rfl) (by decide) (by decide) (by decide))), sumE_CG hf (SumOK.all env1_allE ((busy_ok tBusy_eq).toE (M := 64) tBusy_eq (by kernel_rfl) (by decide) (by decide) (by decide))), sumE_CG hf (SumOK.all env1_allE ((want_ok tWant_eq).toE (M := 64) tWant_eq (by kernel_rfl) (by decide) (by decide) (by decide))), sumE_CG hf (SumOK.all env1_allE ((tick_ok tTick_eq).toE (M := 64) tTick_eq (by kernel_rfl) (by decide) (by decide) (by decide))), trivial⟩
theorem tabV_okE {ρ : Rho} (hf : ρ.fn = fnE) : TabOK ρ tabV := ⟨true_CG (@works15 ρ), tab_app (tabA7_okE hf) (tab0_okE hf)⟩
theorem envV_allE : ∀ ρ0 : Rho, ρ0.fn = fnE → @EnvOK ρ0 Try.prog envV := fun ρ0 hf => env_of (tabV_okE hf)
/-! ### the helpers -/
theorem autE {f : FuncId} {S : Sum} {base cnt : Nat} {t : Tree (Option Eqs)} {F : FN 59 (List Dat)} (ht : S.tree Try.prog envV f = t) (hm : S.m = 59) (hus : S.us = List.range 59) (hw : wfT 59 2048 cnt t = true) (hF : ∀ l : List Dat, autK ⟨fun n => l.getD n (.dI 0), fnOf mSid⟩ t 59 cnt = apF 59 0 l F)
    (hfn : ∀ j d, j ≤ cnt → fnE (base + j) d = (apF 59 0 (cellsD d) F).getD j (.dB true)) : SumOK Try.prog envV f S base cnt fnE := by
  refine aut_ok (B := 2048) (fl := fnOf mSid) (by rw [hm]; exact hus) (by rw [ht, hm]; exact hw) (fun k d hk => (fnE_low hk).symm) fun j d hj => ?_
  rw [hfn j d hj, ht, hm, ← hF, autK_eq hj]
theorem fnE_at {b j : Nat} {d : Dat} {x : Dat} (hj : j < 64) (hb : 32 ≤ b) (h : (bif Nat.beq b 50 then (apF 59 0 (cellsD d) tSd0F).getD j (.dB true) else bif Nat.beq b 51 then (apF 59 0 (cellsD d) tSd1F).getD j (.dB true) else bif Nat.beq b 52 then (apF 59 0 (cellsD d) tHd0F).getD j (.dB true) else bif Nat.beq b 53 then (apF 59 0 (cellsD d) tHd1F).getD j (.dB true) else
    bif Nat.beq b 54 then (apF 59 0 (cellsD d) nRgF).getD j (.dB true) else bif Nat.beq b 55 then (apF 59 0 (cellsD d) tHl0F).getD j (.dB true) else bif Nat.beq b 56 then (apF 59 0 (cellsD d) tHl1F).getD j (.dB true) else bif Nat.beq b 60 then .dB (endsN (cellsD d)) else bif Nat.beq b 61 then .dB (rngL shPl d.asL) else bif Nat.beq b 62 then .dB (rngL shPr d.asL) else .dB true) = x) : fnE (b * 64 + j) d = x := by
  unfold fnE
  rw [show Nat.blt (b * 64 + j) 2048 = false by rw [Bool.eq_false_iff]; intro h; rw [Nat.blt_eq] at h; omega, show (b * 64 + j) / 64 = b by omega, show (b * 64 + j) % 64 = j by omega]
  exact h
theorem sd0_ok : SumOK Try.prog envV fSd (SSd 0) 3200 11 fnE := autE tSd0_eq rfl rfl (by kernel_rfl) tSd0F_eq fun j d hj => fnE_at (b := 50) (by omega) (by omega) rfl
theorem sd1_ok : SumOK Try.prog envV fSd (SSd 1) 3264 11 fnE := autE tSd1_eq rfl rfl (by kernel_rfl) tSd1F_eq fun j d hj => fnE_at (b := 51) (by omega) (by omega) rfl
theorem hd0_ok : SumOK Try.prog envV fHd (SHd 0) 3328 21 fnE := autE tHd0_eq rfl rfl (by kernel_rfl) tHd0F_eq fun j d hj => fnE_at (b := 52) (by omega) (by omega) rfl
theorem hd1_ok : SumOK Try.prog envV fHd (SHd 1) 3392 21 fnE := autE tHd1_eq rfl rfl (by kernel_rfl) tHd1F_eq fun j d hj => fnE_at (b := 53) (by omega) (by omega) rfl
theorem rg_ok : SumOK Try.prog envV fRg SRg 3456 1 fnE := autE nRg_eq rfl rfl (by kernel_rfl) nRgF_eq fun j d hj => fnE_at (b := 54) (by omega) (by omega) rfl
theorem hl0_ok : SumOK Try.prog envV fHd (SHl 0) 3520 3 fnE := autE tHl0_eq rfl rfl (by kernel_rfl) tHl0F_eq fun j d hj => fnE_at (b := 55) (by omega) (by omega) rfl
theorem hl1_ok : SumOK Try.prog envV fHd (SHl 1) 3584 3 fnE := autE tHl1_eq rfl rfl (by kernel_rfl) tHl1F_eq fun j d hj => fnE_at (b := 56) (by omega) (by omega) rfl
theorem orC_CG {ρ : Rho} {f : FuncId} {a b : CtrG} (ha : CG ρ f a) (hb : CG ρ f b) : CG ρ f (orC a b) := fun args H o v H' pc h ho => by
  unfold orC at h
  split at h
  · rename_i r hr
    cases h
    exact ha args H o v H' pc hr ho
  · exact hb args H o v H' pc h ho
theorem tabE_ok {ρ : Rho} (hf : ρ.fn = fnE) : TabOK ρ tabE := ⟨orC_CG (sumE_CG hf (SumOK.all envV_allE sd0_ok)) (sumE_CG hf (SumOK.all envV_allE sd1_ok)), orC_CG (orC_CG (sumE_CG hf (SumOK.all envV_allE hd0_ok)) (sumE_CG hf (SumOK.all envV_allE hd1_ok))) (orC_CG (sumE_CG hf (SumOK.all envV_allE hl0_ok)) (sumE_CG hf (SumOK.all envV_allE hl1_ok))), sumE_CG hf (SumOK.all envV_allE rg_ok), tabV_okE hf⟩
theorem envE_ok {ρ : Rho} (hf : ρ.fn = fnE) : @EnvOK ρ Try.prog envE := env_of (tabE_ok hf)
end
end Go.Proofs.Ytlbkficdelepeaa.Ab
