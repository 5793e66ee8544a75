/-
  TablesNone, called: it returns true and makes at most new blocks.
  Conditions: arguments as the model reads them.
-/
import Derived.Test.YtlbkficdelepeaaAbF
import Derived.Test.YtlbkficdelepeaaBase
namespace Go.Proofs.Ytlbkficdelepeaa.Ab.Tn
set_option linter.unusedSimpArgs false
set_option linter.unusedVariables false
open Go
theorem noCountT : NoCount Try.prog := noCount_of (by kernel_rfl) (by kernel_rfl)
def env0 : Env := ⟨fun _ => none, fun _ _ => none⟩
theorem env0_ok [ρ : Rho] : EnvOK Try.prog env0 := envOK_fn (fun f g hg => by cases hg) fun _ _ => rfl
abbrev rhoE (k d : Int) (c : Bool) (fk : Int) (pf : Bool) (ns nr : Int) (s : List UInt8) : Rho := ⟨fun i => [Dat.dI k, .dI d, .dB c, .dI fk, .dB pf, .dI ns, .dI nr, .dS s].getD i (.dI 0), fun _ d => d⟩
abbrev evA : AV := .agg [.sint .u8 (.var 0), .sint .u8 (.var 1), .sbool (.var 2), .sint .u8 (.var 3), .sbool (.var 4), .sint .u8 (.var 5), .sint .u8 (.var 6), .sstr (.var 7)]
set_option maxRecDepth 100000 in
theorem none_tree : Tree.allT (evFun Try.prog env0 1000 52 [evA] heap0 fun v _ => .leaf v) = true := by kernel_rfl
end Go.Proofs.Ytlbkficdelepeaa.Ab.Tn
namespace Go.Proofs.Ytlbkficdelepeaa
open Go Go.Proofs.Ytlbkficdelepeaa.Ab Go.Proofs.Ytlbkficdelepeaa.Ab.Tn
set_option maxRecDepth 100000 in
theorem tablesNone_walk (k : Int) (_wk : (Lit.int .u8 k).wf = true) (d : Int) (_wd : (Lit.int .u8 d).wf = true) (c : Bool) (fk : Int) (_wfk : (Lit.int .u8 fk).wf = true) (pf : Bool) (ns : Int) (_wns : (Lit.int .u8 ns).wf = true) (nr : Int) (_wnr : (Lit.int .u8 nr).wf = true) (s : List UInt8) (_hs : s.length ≤ maxLen) (w : World) :
    Calls Try.prog 52 #[.agg #[.int .u8 k, .int .u8 d, .bool c, .int .u8 fk, .bool pf, .int .u8 ns, .int .u8 nr, .string ⟨s.toArray⟩]] w fun e w' => e = .returned (.bool true) ∧ RowKit.Below w.heap.size w w' := by
  letI ρ : Rho := rhoE k d c fk pf ns nr s
  exact call_true (evFun_ok noCountT env0_ok 1000) (args := [evA]) (Tree.allT_ok _ none_tree)
    (cargs := [.agg #[.int .u8 k, .int .u8 d, .bool c, .int .u8 fk, .bool pf, .int .u8 ns, .int .u8 nr, .string ⟨s.toArray⟩]]) ⟨_, _, ⟨[_, _, _, _, _, _, _, _], ⟨_, _, rfl, ⟨_, _, rfl, ⟨_, _, rfl, ⟨_, _, rfl, ⟨_, _, rfl, ⟨_, _, rfl, ⟨_, _, rfl, ⟨_, _, rfl, rfl, rfl⟩, rfl⟩, rfl⟩, rfl⟩, rfl⟩, rfl⟩, rfl⟩, rfl⟩, rfl⟩, rfl, rfl⟩ w
end Go.Proofs.Ytlbkficdelepeaa
