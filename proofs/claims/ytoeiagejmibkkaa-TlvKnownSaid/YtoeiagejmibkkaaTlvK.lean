/-
  TlvKnown, called: it returns true and makes at most new blocks.
  No condition.
-/
import Derived.Test.YtoeiagejmibkkaaTlvJ1
import Derived.Test.YtoeiagejmibkkaaTlvJ2
import Derived.Test.YtoeiagejmibkkaaTlvJ3
import Derived.Test.YtoeiagejmibkkaaTlvJ4
namespace Go.Proofs.Ytoeiagejmibkkaa.Ab
set_option linter.unusedSimpArgs false
set_option linter.unusedVariables false
open Go
noncomputable section
theorem tlvRows (n : Nat) (hn : n < 256) : tlvRound .normal n ((n + 1 : Nat) : Int) = true := by
  have key : ∀ k, k < 16 → tlvRow k = true := fun k hk => by
    match k, hk with
    | 0, _ => exact tlvRow0
    | 1, _ => exact tlvRow1
    | 2, _ => exact tlvRow2
    | 3, _ => exact tlvRow3
    | 4, _ => exact tlvRow4
    | 5, _ => exact tlvRow5
    | 6, _ => exact tlvRow6
    | 7, _ => exact tlvRow7
    | 8, _ => exact tlvRow8
    | 9, _ => exact tlvRow9
    | 10, _ => exact tlvRow10
    | 11, _ => exact tlvRow11
    | 12, _ => exact tlvRow12
    | 13, _ => exact tlvRow13
    | 14, _ => exact tlvRow14
    | 15, _ => exact tlvRow15
    | n + 16, h => omega
  have := List.all_eq_true.1 (key (n / 16) (by omega)) (n % 16) (List.mem_range.2 (Nat.mod_lt _ (by decide)))
  rwa [show 16 * (n / 16) + n % 16 = n by omega] at this
set_option maxRecDepth 100000 in
theorem tlvLast : tlvRound (.exit 0) 256 256 = true := by kernel_rfl
theorem round1 {x : AX} {n : Nat} {m : Int} (h : tlvRound x n m = true) : RoundF Try.prog (lpBody Try.prog 6 0) 90 [(1, .int .i64 (n : Int))] (toExit x) [(1, .int .i64 m)] :=
  @round_int Try.prog (rho1 0) noCount _ (@evFun_ok (rho1 0) _ noCount _ (@envT_ok (rho1 0)) _ 1000) _ _ (@lf0_ok Try.prog (rho1 0) _) _ _ _ _ _ _ _ (show @VR (rho1 0) (fun _ => none) (.int .i64 n) (.int .i64 (n : Int)) from rfl) h
def envTK : Env := ⟨fnT, fun f => bif Nat.beq f 6 then lf1 2 (lpFlat 90 [1] [.int .i64 0] (.exit 0) [1] [.int .i64 256]) else fun _ => none⟩
theorem envTK_ok [ρ : Rho] : EnvOK Try.prog envTK := ⟨fnT_ok, fun f fn c h1 h2 => by
  unfold envTK
  simp only
  cases h : Nat.beq f 6 with
  | false => exact lf0_ok
  | true =>
    obtain rfl := Nat.eq_of_beq_eq_true h
    refine lf1_ok (i := 0) (by kernel_rfl) (fun st o x st' hg => ?_) h1 h2
    refine loop_int (N := 256) (by simp [toExit]) (fun n hn => ?_) ?_ hg
    · exact round1 (tlvRows n hn)
    · exact round1 tlvLast⟩
end
set_option maxRecDepth 100000 in
theorem tlvKnown_w (w : World) : Calls Try.prog 6 #[] w fun e w' => e = .returned (.bool true) ∧ RowKit.Below w.heap.size w w' := by
  letI ρ : Rho := rho1 0
  refine call_bool (evFun_ok noCount envTK_ok 1000) (args := []) ?_ (cargs := []) rfl w
  have : evFun Try.prog envTK 1000 6 [] heap0 (fun v _ => .leaf v) = .leaf (.bool true) := by kernel_rfl
  rw [this]; rfl
end Go.Proofs.Ytoeiagejmibkkaa.Ab
namespace Go.Proofs.Ytoeiagejmibkkaa
open Go
theorem tlvKnown_walk (w : World) : Calls Try.prog 6 #[] w fun e w' => e = .returned (.bool true) ∧ RowKit.Below w.heap.size w w' := Ab.tlvKnown_w w
end Go.Proofs.Ytoeiagejmibkkaa
