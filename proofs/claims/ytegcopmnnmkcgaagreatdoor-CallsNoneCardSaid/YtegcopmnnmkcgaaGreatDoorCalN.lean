/-
  CallsNone, called: it returns true and makes at most new blocks.
  Conditions: arguments as the model reads them.
-/
import Derived.Test.YtegcopmnnmkcgaaGreatDoorAbL
import Derived.Test.YtegcopmnnmkcgaaGreatDoorBase
namespace Go.Proofs.YtegcopmnnmkcgaaGreatDoor.Ab
set_option linter.unusedSimpArgs false
set_option linter.unusedVariables false
open Go
theorem noCountC : NoCount Tryz.prog := noCount_of (by kernel_rfl) (by kernel_rfl)
def env0 : Env := ⟨fun _ => none, fun _ _ => none⟩
theorem env0_ok [ρ : Rho] : EnvOK Tryz.prog env0 := envOK_fn (fun f g hg => by cases hg) fun _ _ => rfl
set_option maxRecDepth 100000 in
theorem works_tree : Tree.allT (evFun Tryz.prog env0 1000 4 [] heap0 fun v _ => .leaf v) = true := by kernel_rfl
set_option maxRecDepth 100000 in
theorem works_calls [ρ : Rho] (w : World) : Calls Tryz.prog 4 #[] w fun e w' => e = .returned (.bool true) ∧ RowKit.Below w.heap.size w w' :=
  call_true (evFun_ok noCountC env0_ok 1000) (args := []) (Tree.allT_ok _ works_tree) (cargs := []) rfl w
/-- The contract of works alone. -/
def trueC : List AV → Heap → Option (Tm × AV × Heap)
  | [], H => some (.cb true, .bool true, H)
  | _, _ => none
theorem true_ok [ρ : Rho] {f : FuncId} (h : ∀ w, Calls Tryz.prog f #[] w fun e w' => e = .returned (.bool true) ∧ RowKit.Below w.heap.size w w') {args : List AV} {H : Heap} {o : Tm} {v : AV} {H' : Heap} (hgs : trueC args H = some (o, v, H')) : CallS Tryz.prog f args H v H' ∧ LG H H' := by
  unfold trueC at hgs
  split at hgs
  · cases hgs; exact ⟨works_ok h, LG.refl _⟩
  · cases hgs
def envW : Env := ⟨fun f => bif Nat.beq f 4 then some trueC else none, fun _ _ => none⟩
theorem envW_ok [ρ : Rho] : EnvOK Tryz.prog envW := envOK_fn (fun f g hg args H o v H' hp h ho => by
  simp only [envW] at hg
  cases hb : Nat.beq f 4 with
  | false => rw [hb] at hg; cases hg
  | true =>
    simp only [hb, cond_true, Option.some.injEq] at hg; subst hg
    obtain rfl := Nat.eq_of_beq_eq_true hb
    exact true_ok works_calls h) fun _ _ => rfl
abbrev rhoN (i : Int) (k d : Int) (n : Int) (s : List UInt8) : Rho := ⟨fun j => [Dat.dI i, .dI k, .dI d, .dI n, .dS s].getD j (.dI 0), fun _ d => d⟩
abbrev callA : AV := .agg [.sint .i64 (.var 0), .sint .u8 (.var 1), .sint .u8 (.var 2), .sint .i64 (.var 3), .sstr (.var 4)]
set_option maxRecDepth 100000 in
theorem none_tree : Tree.allT (evFun Tryz.prog envW 1000 3 [callA] heap0 fun v _ => .leaf v) = true := by kernel_rfl
end Go.Proofs.YtegcopmnnmkcgaaGreatDoor.Ab
namespace Go.Proofs.YtegcopmnnmkcgaaGreatDoor
open Go Go.Proofs.YtegcopmnnmkcgaaGreatDoor.Ab
set_option maxRecDepth 100000 in
theorem callsNone_walk (i : Int) (_wi : (Lit.int .i64 i).wf = true) (k : Int) (_wk : (Lit.int .u8 k).wf = true) (d : Int) (_wd : (Lit.int .u8 d).wf = true) (n : Int) (_wn : (Lit.int .i64 n).wf = true) (s : List UInt8) (_hs : s.length ≤ maxLen) (w : World) :
    Calls Tryz.prog 3 #[.agg #[.int .i64 i, .int .u8 k, .int .u8 d, .int .i64 n, .string ⟨s.toArray⟩]] w fun e w' => e = .returned (.bool true) ∧ RowKit.Below w.heap.size w w' := by
  letI ρ : Rho := rhoN i k d n s
  exact call_true (evFun_ok noCountC envW_ok 1000) (args := [callA]) (Tree.allT_ok _ none_tree)
    (cargs := [.agg #[.int .i64 i, .int .u8 k, .int .u8 d, .int .i64 n, .string ⟨s.toArray⟩]]) ⟨_, _, ⟨[_, _, _, _, _], ⟨_, _, rfl, ⟨_, _, rfl, ⟨_, _, rfl, ⟨_, _, rfl, ⟨_, _, rfl, rfl, rfl⟩, rfl⟩, rfl⟩, rfl⟩, rfl⟩, rfl⟩, rfl, rfl⟩ w
end Go.Proofs.YtegcopmnnmkcgaaGreatDoor
