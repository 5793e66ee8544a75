/-
  MscKnown, called: it returns true and makes at most new blocks.
  No condition.
-/
import Derived.Test.YtmnflfjcfkblbaaAbL
import Derived.Test.YtmnflfjcfkblbaaMscB
import Derived.Test.YtmnflfjcfkblbaaMscA
namespace Go.Proofs.Ytmnflfjcfkblbaa.Ab
set_option linter.unusedSimpArgs false
set_option linter.unusedVariables false
open Go
noncomputable section
def getL : List AV → Heap → Option (Tm × AV × Heap)
  | [s], H => match tmS s with
    | some t => some (iopT .leq .i64 (lenT t) (.ci 1000), .bool true, H)
    | none => none
  | _, _ => none
def putL : List AV → Heap → Option (Tm × AV × Heap)
  | [s], H => match stTm s with
    | some (a, h, _) => some (andT (octT a) (octT h), .bool true, H)
    | none => none
  | _, _ => none
def backL : List AV → Heap → Option (Tm × AV × Heap)
  | [s, s', v], H => match stTm s, stTm s', tmS v with
    | some (a, h, _), some (a', h', _), some _ => some (andT (andT (octT a) (octT h)) (andT (octT a') (octT h')), .bool true, H)
    | _, _, _ => none
  | _, _ => none
def mscLoop : LoopF := lf1 2 (lpFlat 101 [1] [.int .i64 0] (.exit 0) [1] [.int .i64 256])
def fnK (f : FuncId) : Option (List AV → Heap → Option (Tm × AV × Heap)) := bif Nat.beq f 8 then some getL else bif Nat.beq f 7 then some putL else bif Nat.beq f 10 then some putL else
  bif Nat.beq f 9 then some backL else bif Nat.beq f 26 then some trueC else none
/-- Without the loop's contract, and with it. -/
def envK0 : Env := ⟨fnK, fun _ _ => none⟩
def envK : Env := ⟨fnK, fun f => bif Nat.beq f 11 then mscLoop else fun _ => none⟩
variable [ρ : Rho]
theorem leqL {t : Tm} {n : Int} (ho : (iopT .leq .i64 (lenT t) (.ci n)).den.asB = true) : (t.den.asS.length : Int) ≤ n := by
  rw [iopT_den, lenT_den] at ho
  have ho' : decide ((t.den.asS.length : Int) ≤ n) = true := ho
  simpa using ho'
theorem fnK_ok : ∀ f g, fnK f = some g → ∀ args H o v H', PC H → g args H = some (o, v, H') → o.den.asB = true → CallS Try.prog f args H v H' ∧ LG H H' := by
  intro f g hg args H o v H' hp hgs ho
  simp only [fnK] at hg
  cases h0 : Nat.beq f 8 with
  | true =>
    simp only [h0, cond_true, Option.some.injEq] at hg; subst hg
    obtain rfl := Nat.eq_of_beq_eq_true h0
    unfold getL at hgs
    split at hgs
    · split at hgs
      · rename_i t ht
        cases hgs
        have hl := leqL ho
        refine ⟨callS_new fun μ cargs w hv => ?_, LG.refl _⟩
        obtain ⟨x, l, hx, rfl, rfl⟩ := hv
        obtain rfl := hx.tmS ht
        exact (mscGet_walk t.den.asS (by unfold maxLen; omega) w).mono fun e w' he => ⟨_, he.1, rfl, he.2⟩
      · cases hgs
    · cases hgs
  | false =>
  simp only [h0, cond_false] at hg
  cases h1 : Nat.beq f 7 with
  | true =>
    simp only [h1, cond_true, Option.some.injEq] at hg; subst hg
    obtain rfl := Nat.eq_of_beq_eq_true h1
    unfold putL at hgs
    split at hgs
    · split at hgs
      · rename_i a b t ht
        cases hgs
        rw [andT_den] at ho
        simp only [Bool.and_eq_true] at ho
        obtain ⟨b1, b2⟩ := octT_den ho.1
        obtain ⟨b3, b4⟩ := octT_den ho.2
        refine ⟨callS_new fun μ cargs w hv => ?_, LG.refl _⟩
        obtain ⟨x, l, hx, rfl, rfl⟩ := hv
        obtain ⟨rfl, e1, e2⟩ := stTm_VR ht hx
        exact (mscPut_w (datStat t.den).d (by rw [e1]; exact b1) (by rw [e1]; exact b2) _ _ _ _ _ _ (datStat t.den).br (by rw [e2]; exact b3) (by rw [e2]; exact b4) w).mono fun e w' he => ⟨_, he.1, rfl, he.2⟩
      · cases hgs
    · cases hgs
  | false =>
  simp only [h1, cond_false] at hg
  cases h2 : Nat.beq f 10 with
  | true =>
    simp only [h2, cond_true, Option.some.injEq] at hg; subst hg
    obtain rfl := Nat.eq_of_beq_eq_true h2
    unfold putL at hgs
    split at hgs
    · split at hgs
      · rename_i a b t ht
        cases hgs
        rw [andT_den] at ho
        simp only [Bool.and_eq_true] at ho
        obtain ⟨b1, b2⟩ := octT_den ho.1
        obtain ⟨b3, b4⟩ := octT_den ho.2
        refine ⟨callS_new fun μ cargs w hv => ?_, LG.refl _⟩
        obtain ⟨x, l, hx, rfl, rfl⟩ := hv
        obtain ⟨rfl, e1, e2⟩ := stTm_VR ht hx
        exact (mscBits_w (datStat t.den).d (by rw [e1]; exact b1) (by rw [e1]; exact b2) _ _ _ _ _ _ (datStat t.den).br (by rw [e2]; exact b3) (by rw [e2]; exact b4) w).mono fun e w' he => ⟨_, he.1, rfl, he.2⟩
      · cases hgs
    · cases hgs
  | false =>
  simp only [h2, cond_false] at hg
  cases h3 : Nat.beq f 9 with
  | true =>
    simp only [h3, cond_true, Option.some.injEq] at hg; subst hg
    obtain rfl := Nat.eq_of_beq_eq_true h3
    unfold backL at hgs
    split at hgs
    · split at hgs
      · rename_i a b t a' b' t' u ht ht' hu
        cases hgs
        rw [andT_den] at ho
        simp only [Bool.and_eq_true] at ho
        obtain ⟨o1, o2⟩ := ho
        rw [andT_den] at o1 o2
        simp only [Bool.and_eq_true] at o1 o2
        obtain ⟨b1, b2⟩ := octT_den o1.1
        obtain ⟨b3, b4⟩ := octT_den o1.2
        obtain ⟨c1, c2⟩ := octT_den o2.1
        obtain ⟨c3, c4⟩ := octT_den o2.2
        refine ⟨callS_new fun μ cargs w hv => ?_, LG.refl _⟩
        obtain ⟨x, l, hx, ⟨y, l', hy, ⟨z, l'', hz, rfl, rfl⟩, rfl⟩, rfl⟩ := hv
        obtain ⟨rfl, e1, e2⟩ := stTm_VR ht hx
        obtain ⟨rfl, e3, e4⟩ := stTm_VR ht' hy
        obtain rfl := hz.tmS hu
        exact (mscBack_w (datStat t.den) (datStat t'.den) (by rw [e1]; exact b1) (by rw [e1]; exact b2) (by rw [e2]; exact b3) (by rw [e2]; exact b4) (by rw [e3]; exact c1) (by rw [e3]; exact c2) (by rw [e4]; exact c3) (by rw [e4]; exact c4) u.den.asS w).mono fun e w' he => ⟨_, he.1, rfl, he.2⟩
      · cases hgs
    · cases hgs
  | false =>
  simp only [h3, cond_false] at hg
  cases h6 : Nat.beq f 26 with
  | true =>
    simp only [h6, cond_true, Option.some.injEq] at hg; subst hg
    obtain rfl := Nat.eq_of_beq_eq_true h6
    unfold trueC at hgs
    split at hgs
    · cases hgs; exact ⟨works_ok msc_works, LG.refl _⟩
    · cases hgs
  | false => simp [h6] at hg
theorem envK0_ok : EnvOK Try.prog envK0 := envOK_fn fnK_ok fun _ _ => rfl
end
noncomputable section
abbrev rho1 (n : Int) : Rho := ⟨fun _ => .dI n, fun _ d => d⟩
def mscRound (x : AX) (n : Nat) (m : Int) : Bool := @chkOut (rho1 n) (@Tree.sel _ (rho1 n) (evCode Try.prog (evFun Try.prog envK0 1000) (fun _ => none) 100000 (lpBody Try.prog 11 0) ⟨101, [(1, .sint .i64 (.var 0))], heap0, []⟩ (outK 101 [1]))) x m
set_option maxRecDepth 100000 in
theorem mscRounds : ((List.range 256).all fun n => mscRound .normal n ((n + 1 : Nat) : Int)) = true := by kernel_rfl
set_option maxRecDepth 100000 in
theorem mscLast : mscRound (.exit 0) 256 256 = true := by kernel_rfl
theorem round1 {x : AX} {n : Nat} {m : Int} (h : mscRound x n m = true) : RoundF Try.prog (lpBody Try.prog 11 0) 101 [(1, .int .i64 (n : Int))] (toExit x) [(1, .int .i64 m)] :=
  @round_int Try.prog (rho1 n) noCount _ (@evFun_ok (rho1 n) _ noCount _ (@envK0_ok (rho1 n)) _ 1000) _ _ (@lf0_ok Try.prog (rho1 n) _) _ _ _ _ _ _ _ (show @VR (rho1 n) (fun _ => none) (.sint .i64 (.var 0)) (.int .i64 (n : Int)) from rfl) h
variable [ρ : Rho]
theorem envK_ok : EnvOK Try.prog envK := ⟨fnK_ok, fun f fn c h1 h2 => by
  unfold envK
  simp only
  cases h : Nat.beq f 11 with
  | false => exact lf0_ok
  | true =>
    obtain rfl := Nat.eq_of_beq_eq_true h
    refine lf1_ok (i := 0) (by kernel_rfl) (fun st o x st' hg => ?_) h1 h2
    refine loop_int (N := 256) (by simp [toExit]) (fun n hn => ?_) ?_ hg
    · exact round1 (List.all_eq_true.1 mscRounds n (List.mem_range.2 hn))
    · exact round1 mscLast⟩
end
set_option maxRecDepth 100000 in
theorem mscKnown_w (w : World) : Calls Try.prog 11 #[] w fun e w' => e = .returned (.bool true) ∧ RowKit.Below w.heap.size w w' := by
  letI ρ : Rho := rho1 0
  refine call_bool (evFun_ok noCount envK_ok 1000) (args := []) ?_ (cargs := []) rfl w
  have : evFun Try.prog envK 1000 11 [] heap0 (fun v _ => .leaf v) = .leaf (.bool true) := by kernel_rfl
  rw [this]; rfl
end Go.Proofs.Ytmnflfjcfkblbaa.Ab
namespace Go.Proofs.Ytmnflfjcfkblbaa
open Go
theorem mscKnown_walk (w : World) : Calls Try.prog 11 #[] w fun e w' => e = .returned (.bool true) ∧ RowKit.Below w.heap.size w w' := Ab.mscKnown_w w
end Go.Proofs.Ytmnflfjcfkblbaa
