/-
  MsgsKnown, called: it returns true and makes at most new blocks.
  No condition.
-/
import Derived.Test.YtamibbjpapkfeaaMsgKa0
import Derived.Test.YtamibbjpapkfeaaMsgKa1
import Derived.Test.YtamibbjpapkfeaaMsgKa2
import Derived.Test.YtamibbjpapkfeaaMsgKb0
import Derived.Test.YtamibbjpapkfeaaMsgKb1
namespace Go.Proofs.Ytamibbjpapkfeaa.Ab
set_option linter.unusedSimpArgs false
set_option linter.unusedVariables false
open Go
noncomputable section
theorem rows8 (k n : Nat) (hk : k ≤ 10) (hn : n < 32) : round8 .normal k n (n + 1) = true := by
  have key : ((List.range 32).all fun n => round8 .normal k n (n + 1)) = true := by
    match k, hk with
    | 0, _ => exact row8_0
    | 1, _ => exact row8_1
    | 2, _ => exact row8_2
    | 3, _ => exact row8_3
    | 4, _ => exact row8_4
    | 5, _ => exact row8_5
    | 6, _ => exact row8_6
    | 7, _ => exact row8_7
    | 8, _ => exact row8_8
    | 9, _ => exact row8_9
    | 10, _ => exact row8_10
    | k + 11, h => omega
  exact List.all_eq_true.1 key n (List.mem_range.2 hn)
theorem lasts8 (k : Nat) (hk : k ≤ 10) : round8 (.exit 2) k 32 32 = true := by
  match k, hk with
  | 0, _ => exact last8_0
  | 1, _ => exact last8_1
  | 2, _ => exact last8_2
  | 3, _ => exact last8_3
  | 4, _ => exact last8_4
  | 5, _ => exact last8_5
  | 6, _ => exact last8_6
  | 7, _ => exact last8_7
  | 8, _ => exact last8_8
  | 9, _ => exact last8_9
  | 10, _ => exact last8_10
  | k + 11, h => omega
theorem rows22 (t : Nat) (ht : t < 256) : round22 .normal t (t + 1) = true := by
  have key : ∀ q, q < 16 → ((List.range 16).all fun n => round22 .normal (16 * q + n) (16 * q + n + 1)) = true := fun q hq => by
    match q, hq with
    | 0, _ => exact row22_0
    | 1, _ => exact row22_1
    | 2, _ => exact row22_2
    | 3, _ => exact row22_3
    | 4, _ => exact row22_4
    | 5, _ => exact row22_5
    | 6, _ => exact row22_6
    | 7, _ => exact row22_7
    | 8, _ => exact row22_8
    | 9, _ => exact row22_9
    | 10, _ => exact row22_10
    | 11, _ => exact row22_11
    | 12, _ => exact row22_12
    | 13, _ => exact row22_13
    | 14, _ => exact row22_14
    | 15, _ => exact row22_15
    | q + 16, h => omega
  have := List.all_eq_true.1 (key (t / 16) (by omega)) (t % 16) (List.mem_range.2 (Nat.mod_lt _ (by decide)))
  rwa [show 16 * (t / 16) + t % 16 = t by omega] at this
theorem rows5 (k : Nat) (hk : k < 10) : round5 .normal k (k + 1) = true := List.all_eq_true.1 row5 k (List.mem_range.2 hk)
set_option maxRecDepth 100000 in
theorem keyK8 : keyAt Try.prog mKn 8 1 = true := by kernel_rfl
set_option maxRecDepth 100000 in
theorem keyK5 : keyAt Try.prog mKn 5 0 = true := by kernel_rfl
set_option maxRecDepth 100000 in
theorem keyK22 : keyAt Try.prog mKn 22 2 = true := by kernel_rfl
theorem cfZ (ρ : Rho) {α : Type} : @CfOK ρ α Try.prog (evFun Try.prog envZ0 1000) := @evFun_ok ρ _ noCount _ (@tabZ_ok ρ) _ 1000
theorem g8_ok (k : Nat) (hk : k ≤ 10) : GOk (rhoK k 32 256) mKn 1 g8 := by
  refine loopG_ok noCount (rhoK k 32 256) (fun n => rhoK k n 256) 32 (fuel := 1000000) (cf := evFun Try.prog envZ0 1000) (lf := fun _ => none) (by simp) rfl (fun n _ => cfZ _) (fun n _ => @lf0_ok Try.prog (rhoK k n 256) _)
    (fun n _ => ⟨fun i hi => ?_, rfl⟩) (fun n hn => chkR_ok (rows8 k n hk hn)) (chkR_ok (lasts8 k hk)) (fun i => ?_)
  · obtain rfl : i = 0 := by omega
    rfl
  · match i with
    | 0 => rfl
    | 1 => rfl
    | 2 => rfl
    | i + 3 => rfl
theorem lp8_ok (k : Nat) (hk : k ≤ 10) : @LpOK (rhoK k 32 256) Try.prog (lf1 8 g8) (lpBody Try.prog mKn 0) := by
  intro body hb g hl st o x st' hp hs ho
  have hall : ∀ body, body ∈ loopsOf (lpBody Try.prog mKn 0) → Nat.beq (loopKey body) 8 = true → body = lpBody Try.prog mKn 1 := by
    have : loopsOf (lpBody Try.prog mKn 0) = [lpBody Try.prog mKn 1] := by kernel_rfl
    rw [this]
    intro b hb _
    simpa using hb
  unfold lf1 at hl
  cases hkey : Nat.beq (loopKey body) 8 with
  | false => rw [hkey] at hl; cases hl
  | true =>
    rw [hkey] at hl
    simp only [cond_true, Option.some.injEq] at hl
    subst hl
    rw [hall body hb hkey]
    exact g8_ok k hk st o x st' hs ho
abbrev rhoF9 : Rho := rhoK 10 32 256
theorem g5_ok : GOk rhoF9 mKn 0 g5 := by
  refine loopG_ok noCount rhoF9 (fun k => rhoK k 32 256) 10 (fuel := 1000000) (cf := evFun Try.prog envZ0 1000) (lf := lf1 8 g8) (by simp) rfl (fun n _ => cfZ _) (fun k hk => lp8_ok k hk)
    (fun n _ => ⟨fun i hi => by omega, rfl⟩) (fun k hk => chkR_ok (rows5 k hk)) (chkR_ok last5) (fun i => ?_)
  match i with
  | 0 => rfl
  | 1 => rfl
  | 2 => rfl
  | i + 3 => rfl
theorem g22_ok : GOk rhoF9 mKn 2 g22 := by
  refine loopG_ok noCount rhoF9 (fun t => rhoK 10 32 t) 256 (fuel := 1000000) (cf := evFun Try.prog envZ0 1000) (lf := fun _ => none) (by simp) rfl (fun n _ => cfZ _) (fun n _ => @lf0_ok Try.prog (rhoK 10 32 n) _)
    (fun n _ => ⟨fun i hi => by omega, rfl⟩) (fun t ht => chkR_ok (rows22 t ht)) (chkR_ok last22) (fun i => ?_)
  match i with
  | 0 => rfl
  | 1 => rfl
  | 2 => rfl
  | i + 3 => rfl
def lfK : LoopF := fun k => bif Nat.beq k 5 then some g5 else bif Nat.beq k 22 then some g22 else none
theorem lfK_ok {fn : Func} {c : Code} (hf : Try.prog.funcs[mKn]? = some fn) (hc : fn.body = some c) : @LpOK rhoF9 Try.prog lfK c := by
  intro body hb g hl
  unfold lfK at hl
  cases e1 : Nat.beq (loopKey body) 5 with
  | true =>
    rw [e1] at hl
    exact @lf1_ok Try.prog rhoF9 _ _ _ keyK5 _ g5_ok _ _ hf hc body hb g (by unfold lf1; rw [e1]; exact hl)
  | false =>
    rw [e1] at hl
    simp only [cond_false] at hl
    cases e2 : Nat.beq (loopKey body) 22 with
    | true =>
      rw [e2] at hl
      exact @lf1_ok Try.prog rhoF9 _ _ _ keyK22 _ g22_ok _ _ hf hc body hb g (by unfold lf1; rw [e2]; exact hl)
    | false => rw [e2] at hl; cases hl
def envZ : Env := ⟨tabGet tabZ, fun f => bif Nat.beq f mKn then lfK else fun _ => none⟩
theorem envZ_ok : @EnvOK rhoF9 Try.prog envZ := by
  letI : Rho := rhoF9
  refine ⟨(@tabZ_ok rhoF9).fn, fun f fn c h1 h2 => ?_⟩
  unfold envZ
  simp only
  cases h : Nat.beq f mKn with
  | false => exact @lf0_ok Try.prog rhoF9 _
  | true =>
    obtain rfl := Nat.eq_of_beq_eq_true h
    exact lfK_ok h1 h2
end
set_option maxRecDepth 100000 in
theorem msgsKnown_w (w : World) : Calls Try.prog mKn #[] w fun e w' => e = .returned (.bool true) ∧ RowKit.Below w.heap.size w w' := by
  letI ρ : Rho := rhoF9
  refine call_bool (evFun_ok noCount envZ_ok 1000) (args := []) ?_ (cargs := []) rfl w
  have : chkB (@Tree.sel _ rhoF9 (evFun Try.prog envZ 1000 mKn [] heap0 (fun v _ => .leaf v))) = true := by kernel_rfl
  exact chkB_ok this
end Go.Proofs.Ytamibbjpapkfeaa.Ab
namespace Go.Proofs.Ytamibbjpapkfeaa
open Go
theorem msgsKnown_walk (w : World) : Calls Try.prog 6 #[] w fun e w' => e = .returned (.bool true) ∧ RowKit.Below w.heap.size w w' := Ab.msgsKnown_w w
end Go.Proofs.Ytamibbjpapkfeaa
