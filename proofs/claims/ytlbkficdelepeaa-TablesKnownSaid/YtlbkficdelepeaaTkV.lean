/-
  TablesKnown, called: it returns true and makes at most new blocks.
  No condition.
-/
import Derived.Test.YtlbkficdelepeaaTkL
namespace Go.Proofs.Ytlbkficdelepeaa.Ab
set_option linter.unusedSimpArgs false
set_option linter.unusedVariables false
open Go
set_option linter.unusedSectionVars false
set_option maxRecDepth 100000 in
theorem r11_chk : chkT (pStep 2 .u8 6) rt11K Fr11 = true := by kernel_rfl
set_option maxRecDepth 100000 in
theorem x11_chk : chkT (pExit (.exit 4)) rt11K Fx11 = true := by kernel_rfl
set_option maxRecDepth 100000 in
theorem r7_chk : chkT (pStep 1 .i64 2) rt7K Fr7 = true := by kernel_rfl
set_option maxRecDepth 100000 in
theorem x7_chk : chkT (pExit (.exit 2)) rt7K Fx7 = true := by kernel_rfl
set_option maxRecDepth 100000 in
theorem r4_chk : chkT (pStep 0 .i64 1) rt4K Fr4 = true := by kernel_rfl
set_option maxRecDepth 100000 in
theorem x4_chk : chkT (pExit (.exit 0)) rt4K Fx4 = true := by kernel_rfl
set_option maxRecDepth 100000 in
theorem law_all : Tree.allT lawTkn = true := by kernel_rfl
set_option maxRecDepth 100000 in
theorem key11 : keyAt Try.prog fTk0 11 2 = true := by kernel_rfl
set_option maxRecDepth 100000 in
theorem key7 : keyAt Try.prog fTk0 7 1 = true := by kernel_rfl
set_option maxRecDepth 100000 in
theorem key4 : keyAt Try.prog fTk0 4 0 = true := by kernel_rfl
set_option maxRecDepth 100000 in
theorem sub7 : loopsOf (lpBody Try.prog fTk0 1) = ((lpList Try.prog fTk0).drop 2).take 1 := by kernel_rfl
set_option maxRecDepth 100000 in
theorem sub4 : loopsOf (lpBody Try.prog fTk0 0) = ((lpList Try.prog fTk0).drop 1).take 2 := by kernel_rfl
noncomputable section
/-- The letters at trace i, frame n, kind k. -/
abbrev rhoN (i n k : Nat) : Rho := ⟨fun j => bif Nat.beq j 0 then .dI (i : Int) else bif Nat.beq j 1 then .dI (n : Int) else bif Nat.beq j 2 then .dI (k : Int) else bif Nat.beq j 3 then .dB (decide ((n : Int) < 24)) else bif Nat.beq j 4 then .dI (IntKind.u8.wrap ((n : Int).tmod 12)) else bif Nat.beq j 5 then .dB (decide ((n : Int).tmod 24 < 12)) else .dI 0, fnK⟩
theorem cfN (ρ : Rho) (h : ρ.fn = fnK) {α : Type} : @CfOK ρ α Try.prog (evFun Try.prog envK0 1000) := @evFun_ok ρ _ noCount _ (env_of (tabK_ok h)) _ 1000
theorem u8add {k : Nat} (h : k < 10) : IntKind.u8.wrap ((k : Int) + 1) = ((k + 1 : Nat) : Int) := by
  simp [IntKind.wrap, IntKind.signed, IntKind.bits]
  omega
theorem u8rng (n : Nat) : 0 ≤ IntKind.u8.wrap ((n : Int).tmod 12) ∧ IntKind.u8.wrap ((n : Int).tmod 12) ≤ 255 := by
  simp [IntKind.wrap, IntKind.signed, IntKind.bits]
  omega
theorem noB {n k : Nat} (h : n ≠ k) : Nat.beq n k = false := by
  rw [Bool.eq_false_iff]; intro h'; exact h (Nat.eq_of_beq_eq_true h')
theorem rngs {ρ : Rho} {l : List (Tm × Int × Int)} (h : ∀ p ∈ l, p.2.1 ≤ (@Tm.den ρ p.1).asI ∧ (@Tm.den ρ p.1).asI ≤ p.2.2) {s : List (Nat × Int)} (hs : ∀ p ∈ s, (@Tm.den ρ (.var p.1)).asI = p.2) : @Fc.Ok ρ ⟨s, [], [], l, [], false⟩ :=
  ⟨hs, fun p hp => (by cases hp), fun p hp => (by cases hp), h, fun p hp => (by cases hp), rfl⟩
section
variable {i n : Nat} (hi : i < 8)
include hi
theorem g11K_ok (hn : n ≤ 48) : GOk (rhoN i n 10) fTk0 2 g11K := by
  refine loopN_ok noCount (rhoN i n 10) (fun k => rhoN i n k) 10 (fuel := 1000000) (cf := evFun Try.prog envK0 1000) (lf := fun _ => none) (by simp) rfl (fun k _ => cfN _ rfl) (fun k _ => @lf0_ok Try.prog (rhoN i n k) _) (fun k _ => ⟨fun j hj => ?_, rfl⟩) (fun k hk => ?_) ?_ (fun j => ?_)
  · match j, hj with
    | 0, _ => rfl
    | 1, _ => rfl
  · refine step_ok (F := Fr11) r11_chk (rngs (fun p hp => ?_) fun p hp => (by cases hp)) ?_ fun j _ hj => ?_
    · simp only [List.mem_cons, List.not_mem_nil, or_false] at hp
      rcases hp with rfl | rfl | rfl | rfl
      · show (0 : Int) ≤ (i : Int) ∧ (i : Int) ≤ 7
        omega
      · show (0 : Int) ≤ (n : Int) ∧ (n : Int) ≤ 48
        omega
      · show (0 : Int) ≤ (k : Int) ∧ (k : Int) ≤ 9
        omega
      · exact u8rng n
    · show ((k + 1 : Nat) : Int) = IntKind.u8.wrap ((k : Int) + 1)
      rw [u8add hk]
    · show (bif Nat.beq j 0 then _ else bif Nat.beq j 1 then _ else bif Nat.beq j 2 then _ else _) = (bif Nat.beq j 0 then _ else bif Nat.beq j 1 then _ else bif Nat.beq j 2 then _ else _)
      rw [noB hj]; rfl
  · refine exit_ok (F := Fx11) x11_chk (rngs (fun p hp => ?_) fun p hp => ?_)
    · simp only [List.mem_cons, List.not_mem_nil, or_false] at hp
      rcases hp with rfl | rfl | rfl
      · show (0 : Int) ≤ (i : Int) ∧ (i : Int) ≤ 7
        omega
      · show (0 : Int) ≤ (n : Int) ∧ (n : Int) ≤ 48
        omega
      · exact u8rng n
    · simp only [List.mem_cons, List.not_mem_nil, or_false] at hp
      subst hp; rfl
  · match j with
    | 0 => rfl
    | 1 => rfl
    | 2 => rfl
    | 3 => rfl
    | 4 => rfl
    | 5 => rfl
    | j + 6 => rfl
theorem g7K_ok : GOk (rhoN i 48 10) fTk0 1 g7K := by
  refine loopN_ok noCount (rhoN i 48 10) (fun n => rhoN i n 10) 48 (fuel := 1000000) (cf := evFun Try.prog envK0 1000) (lf := lf1 11 g11K) (by simp) rfl (fun k _ => cfN _ rfl) (fun n hn => ?_) (fun k _ => ⟨fun j hj => ?_, rfl⟩) (fun n hn => ?_) ?_ (fun j => ?_)
  · exact lfSub_ok sub7 key11 (g11K_ok hi hn)
  · match j, hj with
    | 0, _ => rfl
  · refine step_ok (F := Fr7) r7_chk (rngs (fun p hp => ?_) fun p hp => (by cases hp)) ?_ fun j hj hne => ?_
    · simp only [List.mem_cons, List.not_mem_nil, or_false] at hp
      rcases hp with rfl | rfl | rfl | rfl
      · show (0 : Int) ≤ (i : Int) ∧ (i : Int) ≤ 7
        omega
      · show (0 : Int) ≤ (n : Int) ∧ (n : Int) ≤ 47
        omega
      · exact u8rng n
      · show (0 : Int) ≤ (i : Int).tmod 4 ∧ (i : Int).tmod 4 ≤ 3
        rw [Int.tmod_eq_emod_of_nonneg (by omega)]
        omega
    · show ((n + 1 : Nat) : Int) = IntKind.i64.wrap ((n : Int) + 1)
      rw [i64wrap (by omega) (by omega)]
      omega
    · obtain rfl : j = 0 := by omega
      show Dat.dI (i : Int) = Dat.dI (i : Int)
      rfl
  · refine exit_ok (F := Fx7) x7_chk (rngs (fun p hp => ?_) fun p hp => ?_)
    · simp only [List.mem_cons, List.not_mem_nil, or_false] at hp
      subst hp
      show (0 : Int) ≤ (i : Int) ∧ (i : Int) ≤ 7
      omega
    · simp only [List.mem_cons, List.not_mem_nil, or_false] at hp
      subst hp; rfl
  · match j with
    | 0 => rfl
    | 1 => rfl
    | 2 => rfl
    | 3 => rfl
    | 4 => rfl
    | 5 => rfl
    | j + 6 => rfl
end
theorem g4K_ok : GOk (rhoN 8 48 10) fTk0 0 g4K := by
  refine loopN_ok noCount (rhoN 8 48 10) (fun i => rhoN i 48 10) 8 (fuel := 1000000) (cf := evFun Try.prog envK0 1000) (lf := lf1 7 (gdL (.ib .lss .i64 (vt 0) (.ci 8)) g7K)) (by simp) rfl (fun k _ => cfN _ rfl) (fun i hi => ?_) (fun k _ => ⟨fun j hj => absurd hj (Nat.not_lt_zero _), rfl⟩) (fun i hi => ?_) ?_ (fun j => ?_)
  · refine lfSub_ok sub4 key7 (gdL_ok fun h => g7K_ok ?_)
    rw [lss_t] at h
    have h1 : (i : Int) < 8 := h.1
    omega
  · refine step_ok (F := Fr4) r4_chk (rngs (fun p hp => ?_) fun p hp => (by cases hp)) ?_ fun j hj hne => absurd (show j = 0 by omega) hne
    · simp only [List.mem_cons, List.not_mem_nil, or_false] at hp
      subst hp
      show (0 : Int) ≤ (i : Int) ∧ (i : Int) ≤ 7
      omega
    · show ((i + 1 : Nat) : Int) = IntKind.i64.wrap ((i : Int) + 1)
      rw [i64wrap (by omega) (by omega)]
      omega
  · refine exit_ok (F := Fx4) x4_chk (rngs (fun p hp => by cases hp) fun p hp => ?_)
    simp only [List.mem_cons, List.not_mem_nil, or_false] at hp
    subst hp; rfl
  · match j with
    | 0 => rfl
    | 1 => rfl
    | 2 => rfl
    | 3 => rfl
    | 4 => rfl
    | 5 => rfl
    | j + 6 => rfl
theorem envTkn_ok : @EnvOK (rhoN 8 48 10) Try.prog envTkn := envOne_ok (@EnvOK.fn (rhoN 8 48 10) _ _ (env_of (tabK_ok (ρ := rhoN 8 48 10) rfl))) key4 g4K_ok
end
set_option maxRecDepth 100000 in
theorem tablesKnown_w (w : World) : Calls Try.prog fTk0 #[] w fun e w' => e = .returned (.bool true) ∧ RowKit.Below w.heap.size w w' := by
  letI ρ : Rho := rhoN 8 48 10
  exact call_true (evFun_ok noCount envTkn_ok 1000) (args := []) (Tree.allT_ok _ law_all) (cargs := []) rfl w
end Go.Proofs.Ytlbkficdelepeaa.Ab
namespace Go.Proofs.Ytlbkficdelepeaa
open Go
set_option maxRecDepth 100000 in
theorem tablesKnown_walk (w : World) : Calls Try.prog 10 #[] w fun e w' => e = .returned (.bool true) ∧ RowKit.Below w.heap.size w w' := Ab.tablesKnown_w w
end Go.Proofs.Ytlbkficdelepeaa
