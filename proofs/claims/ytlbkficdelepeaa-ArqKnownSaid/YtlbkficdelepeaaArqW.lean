/-
  Chapter 15: the environment in which its laws are seen: every method as a contract.
  Conditions: as each theorem tells.
-/
import Derived.Test.YtlbkficdelepeaaSidK
namespace Go.Proofs.Ytlbkficdelepeaa.Ab
set_option linter.unusedSimpArgs false
set_option linter.unusedVariables false
open Go
noncomputable section
theorem sum_CG {ρ : Rho} (hf : ρ.fn = fnOf mSid) {f : FuncId} {S : Sum} {base r : Nat} (hS : SumE Try.prog f S base r (fnOf mSid)) : CG ρ f (sumG S base r) := fun args H o v H' _ h ho => sumG_ok noCount (by rw [hf]; exact hS) h ho
theorem none_all : ∀ ρ0 : Rho, ρ0.fn = fnOf mSid → @EnvOK ρ0 Try.prog none0 := fun ρ0 _ => none0_ok
theorem tab0_ok {ρ : Rho} (hf : ρ.fn = fnOf mSid) : TabOK ρ tab0 := ⟨sum_CG hf (SumOK.all none_all (add_ok tAdd_eq)), sum_CG hf (SumOK.all none_all (way_ok tWay_eq)), trivial⟩
theorem env0_all : ∀ ρ0 : Rho, ρ0.fn = fnOf mSid → @EnvOK ρ0 Try.prog env0 := fun ρ0 hf => env_of (tab0_ok hf)
theorem tab1_ok {ρ : Rho} (hf : ρ.fn = fnOf mSid) : TabOK ρ tab1 := ⟨sum_CG hf (SumOK.all env0_all (acks_ok tAcks_eq)), sum_CG hf (SumOK.all none_all (count_ok tCount_eq)), sum_CG hf (SumOK.all env0_all (acked_ok tAcked_eq)), sum_CG hf (SumOK.all env0_all (take_ok tTake_eq)), sum_CG hf (SumOK.all none_all (has_ok tHas_eq)), tab0_ok hf⟩
theorem env1_all : ∀ ρ0 : Rho, ρ0.fn = fnOf mSid → @EnvOK ρ0 Try.prog env1 := fun ρ0 hf => env_of (tab1_ok hf)
theorem tabS0_ok {ρ : Rho} (hf : ρ.fn = fnOf mSid) : TabOK ρ tabS0 := ⟨sum_CG hf (SumOK.all none_all (waits_okS tWaitsS_eq)), trivial⟩
theorem envS0_all : ∀ ρ0 : Rho, ρ0.fn = fnOf mSid → @EnvOK ρ0 Try.prog envS0 := fun ρ0 hf => env_of (tabS0_ok hf)
theorem tabS1_ok {ρ : Rho} (hf : ρ.fn = fnOf mSid) : TabOK ρ tabS1 := ⟨sum_CG hf (SumOK.all envS0_all (count_okS tCountS_eq)), sum_CG hf ackn_okS, sum_CG hf (SumOK.all none_all (take_okS tTakeS_eq)), sum_CG hf (SumOK.all none_all (has_okS tHasS_eq)), tabS0_ok hf⟩
theorem envS1_all : ∀ ρ0 : Rho, ρ0.fn = fnOf mSid → @EnvOK ρ0 Try.prog envS1 := fun ρ0 hf => env_of (tabS1_ok hf)
/-- What a law calls. -/
def tabA : List (Nat × CtrG) := [(30, sumG SHas 512 1), (36, sumG SPush 576 5), (33, sumG SNext 640 15), (37, sumG SHear 704 20), (34, sumG SBusy 768 3), (35, sumG SWant 832 2), (38, sumG STick 896 9), (25, sumG SView 960 13)]
def tabB : List (Nat × CtrG) := [(78, sumG SWaitsS 1280 1), (31, sumG SHasS 1408 1), (71, sumG SPushS 1472 5), (72, sumG SNextS 1536 15), (74, sumG SHearS 1728 17), (77, sumG SBusyS 1792 3), (76, sumG SWantS 1856 2), (75, sumG STickS 1920 9)]
theorem tabA_ok {ρ : Rho} (hf : ρ.fn = fnOf mSid) : TabOK ρ tabA := ⟨sum_CG hf (SumOK.all none_all (has_ok tHas_eq)), sum_CG hf (SumOK.all env1_all (push_ok tPush_eq)), sum_CG hf (SumOK.all env1_all (next_ok tNext_eq)), sum_CG hf (SumOK.all env1_all (hear_ok tHear_eq)), sum_CG hf (SumOK.all env1_all (busy_ok tBusy_eq)), sum_CG hf (SumOK.all env1_all (want_ok tWant_eq)), sum_CG hf (SumOK.all env1_all (tick_ok tTick_eq)), sum_CG hf (SumOK.all env1_all (view_ok tView_eq)), trivial⟩
theorem tabB_ok {ρ : Rho} (hf : ρ.fn = fnOf mSid) : TabOK ρ tabB := ⟨sum_CG hf (SumOK.all none_all (waits_okS tWaitsS_eq)), sum_CG hf (SumOK.all none_all (has_okS tHasS_eq)), sum_CG hf (SumOK.all envS1_all (push_okS tPushS_eq)), sum_CG hf (SumOK.all envS1_all (next_okS tNextS_eq)), sum_CG hf (SumOK.all envS1_all (hear_okS tHearS_eq)), sum_CG hf (SumOK.all envS1_all (busy_okS tBusyS_eq)), sum_CG hf (SumOK.all envS1_all (want_okS tWantS_eq)), sum_CG hf (SumOK.all envS1_all (tick_okS tTickS_eq)), trivial⟩
set_option maxRecDepth 100000 in
theorem works15_tree : Tree.allT (evFun Try.prog none0 1000 22 [] heap0 fun v _ => .leaf v) = true := by kernel_rfl
set_option maxRecDepth 100000 in
theorem works15 [ρ : Rho] (w : World) : Calls Try.prog 22 #[] w fun e w' => e = .returned (.bool true) ∧ RowKit.Below w.heap.size w w' :=
  call_true (evFun_ok noCount none0_ok 1000) (args := []) (Tree.allT_ok _ works15_tree) (cargs := []) rfl w
def tabL : List (Nat × CtrG) := (22, trueC) :: (tabA ++ tabB)
theorem tabL_ok {ρ : Rho} (hf : ρ.fn = fnOf mSid) : TabOK ρ tabL := ⟨true_CG (@works15 ρ), tab_app (tabA_ok hf) (tabB_ok hf)⟩
def envL : Env := ⟨tabGet tabL, fun _ _ => none⟩
theorem envL_ok {ρ : Rho} (hf : ρ.fn = fnOf mSid) : @EnvOK ρ Try.prog envL := env_of (tabL_ok hf)
end
end Go.Proofs.Ytlbkficdelepeaa.Ab
