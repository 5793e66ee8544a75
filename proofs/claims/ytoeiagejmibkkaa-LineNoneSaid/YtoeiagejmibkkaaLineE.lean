/-
  strings.Repeat and the examples of layer 12 (line) as contracts of the evaluator; LineNone, called.
  Conditions: arguments as the model reads them.
-/
import Derived.Test.YtoeiagejmibkkaaAbL
import Derived.Test.YtoeiagejmibkkaaShelf
import Derived.Test.YtoeiagejmibkkaaBase
namespace Go.Proofs.Ytoeiagejmibkkaa.Ab
set_option linter.unusedSimpArgs false
set_option linter.unusedVariables false
open Go
noncomputable section
theorem noCountL : NoCount Try.prog := noCount_of (by kernel_rfl) (by kernel_rfl)
abbrev rhoN : Rho := ⟨fun _ => .dI 0, fun _ d => d⟩
def repC : List AV → Heap → Option (Tm × AV × Heap)
  | [.str l, .int k (.ofNat c)], H => bif eqK k .i64 && (Nat.ble (l.length * c) 1000 && Nat.ble c 1000) then some (.cb true, .str (Lib.repeatL l c), H) else none
  | _, _ => none
def trueL : List AV → Heap → Option (Tm × AV × Heap)
  | [], H => some (.cb true, .bool true, H)
  | _, _ => none
def envR : Env := ⟨fun f => bif Nat.beq f 80 then some repC else none, fun _ _ => none⟩
def envN : Env := ⟨fun f => bif Nat.beq f 39 then some trueL else none, fun _ _ => none⟩
variable [ρ : Rho]
theorem envR_ok : EnvOK Try.prog envR := envOK_fn (fun f g hg args H o v H' _ hgs _ => by
  simp only [envR] at hg
  cases h0 : Nat.beq f 80 with
  | true =>
    simp only [h0, cond_true, Option.some.injEq] at hg; subst hg
    obtain rfl := Nat.eq_of_beq_eq_true h0
    unfold repC at hgs
    split at hgs
    · rename_i H l k c
      cases hq : (eqK k .i64 && (Nat.ble (l.length * c) 1000 && Nat.ble c 1000)) with
      | false => rw [hq] at hgs; cases hgs
      | true =>
        rw [hq] at hgs; cases hgs
        simp only [Bool.and_eq_true] at hq
        obtain rfl := eqK_eq _ _ hq.1
        have q1 := Nat.le_of_ble_eq_true hq.2.1
        have q2 := Nat.le_of_ble_eq_true hq.2.2
        refine ⟨callS_new fun μ cargs w hv => ?_, LG.refl _⟩
        obtain ⟨_, _, rfl, ⟨_, _, rfl, rfl, rfl⟩, rfl⟩ := hv
        exact (Try.strings_Repeat ⟨l.toArray⟩ c w (by omega) (by show l.toArray.size * c ≤ _; rw [List.size_toArray]; omega)).mono fun e w' he => ⟨_, he.1, rfl, he.2⟩
    · cases hgs
  | false => simp [h0] at hg) fun _ _ => rfl
end
set_option maxRecDepth 100000 in
theorem line_works (w : World) : Calls Try.prog 39 #[] w fun e w' => e = .returned (.bool true) ∧ RowKit.Below w.heap.size w w' := by
  letI ρ : Rho := rhoN
  refine call_bool (evFun_ok noCountL envR_ok 1000) (args := []) ?_ (cargs := []) rfl w
  have : evFun Try.prog envR 1000 39 [] heap0 (fun v _ => .leaf v) = .leaf (.bool true) := by kernel_rfl
  rw [this]; rfl
section
variable [ρ : Rho]
theorem envN_ok : EnvOK Try.prog envN := envOK_fn (fun f g hg args H o v H' _ hgs _ => by
  simp only [envN] at hg
  cases h0 : Nat.beq f 39 with
  | true =>
    simp only [h0, cond_true, Option.some.injEq] at hg; subst hg
    obtain rfl := Nat.eq_of_beq_eq_true h0
    unfold trueL at hgs
    split at hgs
    · cases hgs; exact ⟨works_ok line_works, LG.refl _⟩
    · cases hgs
  | false => simp [h0] at hg) fun _ _ => rfl
end
abbrev rhoLN (s : List UInt8) (n k a b m : Int) : Rho := ⟨fun i => [Dat.dS s, .dI n, .dI k, .dI a, .dI b, .dI m].getD i (.dI 0), fun _ d => d⟩
set_option maxRecDepth 100000 in
theorem none_tree : Tree.allT (evFun Try.prog envN 1000 12 [.sstr (.var 0), .sint .i64 (.var 1), .agg [.sint .u8 (.var 2), .sint .i64 (.var 3), .sint .u8 (.var 4), .sint .i64 (.var 5)]] heap0 fun v _ => .leaf v) = true := by kernel_rfl
end Go.Proofs.Ytoeiagejmibkkaa.Ab
namespace Go.Proofs.Ytoeiagejmibkkaa
open Go Go.Proofs.Ytoeiagejmibkkaa.Ab
set_option maxRecDepth 100000 in
theorem lineNone_walk (s : List UInt8) (_hs : s.length ≤ maxLen) (n : Int) (_wn : (Lit.int .i64 n).wf = true) (k : Int) (_wk : (Lit.int .u8 k).wf = true) (a : Int) (_wa : (Lit.int .i64 a).wf = true) (b : Int) (_wb : (Lit.int .u8 b).wf = true) (m : Int) (_wm : (Lit.int .i64 m).wf = true) (w : World) :
    Calls Try.prog 12 #[.string ⟨s.toArray⟩, .int .i64 n, .agg #[.int .u8 k, .int .i64 a, .int .u8 b, .int .i64 m]] w fun e w' => e = .returned (.bool true) ∧ RowKit.Below w.heap.size w w' := by
  letI ρ : Rho := rhoLN s n k a b m
  exact call_true (evFun_ok noCountL envN_ok 1000) (args := [.sstr (.var 0), .sint .i64 (.var 1), .agg [.sint .u8 (.var 2), .sint .i64 (.var 3), .sint .u8 (.var 4), .sint .i64 (.var 5)]]) (Tree.allT_ok _ none_tree)
    (cargs := [.string ⟨s.toArray⟩, .int .i64 n, .agg #[.int .u8 k, .int .i64 a, .int .u8 b, .int .i64 m]]) ⟨_, _, rfl, ⟨_, _, rfl, ⟨_, _, ⟨[_, _, _, _], ⟨_, _, rfl, ⟨_, _, rfl, ⟨_, _, rfl, ⟨_, _, rfl, rfl, rfl⟩, rfl⟩, rfl⟩, rfl⟩, rfl⟩, rfl, rfl⟩, rfl⟩, rfl⟩ w
end Go.Proofs.Ytoeiagejmibkkaa
