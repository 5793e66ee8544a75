import Derived.Test.YtamibbjpapkfeaaAbS16
import Derived.Below
namespace Go.Proofs.Ytamibbjpapkfeaa.Ab
set_option linter.unusedSimpArgs false
set_option linter.unusedVariables false
open Go
set_option linter.unusedSectionVars false
variable [Rho]
section
variable {P : Program}
theorem heap0_rep (w : World) : Rep (fun _ => none) heap0.get w := ⟨fun id o h => (by cases h), fun i j oi oj li lj h => (by cases h)⟩
theorem heap0_dom : Dom (fun _ => none) heap0.next := fun _ _ => rfl
theorem heap0_pc : PC heap0 := fun p hp => by cases hp
/-- A call on values that hold no reference: what is said of it is what it answers, and it may make new blocks. -/
theorem call_flat {cf : CallF AV} (hc : CfOK P cf) {f : FuncId} {args : List AV} {v : AV} (h : (cf f args heap0 fun v _ => .leaf v).sel = some v) {cargs : List Value} (ha : VRs (fun _ => none) args cargs) (w : World) :
    Calls P f cargs.toArray w fun e w' => ∃ μ' c, e = .returned c ∧ VR μ' v c ∧ RowKit.Below w.heap.size w w' := by
  obtain ⟨v', H', h1, _, h2, _⟩ := hc f args heap0 _ v heap0_pc h
  cases h1
  refine (h2 _ w cargs ha (heap0_rep w) heap0_dom).mono fun e w' he => ?_
  obtain ⟨μ', c, h1, h2, h3⟩ := he
  refine ⟨μ', c, h1, h2, h3.os, h3.tape, h3.output, h3.size, fun k hk => h3.keep k hk fun m => ?_⟩
  obtain ⟨j, o, l, m1, _⟩ := m
  cases m1
theorem call_bool {cf : CallF AV} (hc : CfOK P cf) {f : FuncId} {args : List AV} {b : Bool} (h : (cf f args heap0 fun v _ => .leaf v).sel = some (.bool b)) {cargs : List Value} (ha : VRs (fun _ => none) args cargs) (w : World) :
    Calls P f cargs.toArray w fun e w' => e = .returned (.bool b) ∧ RowKit.Below w.heap.size w w' := by
  refine (call_flat hc h ha w).mono fun e w' he => ?_
  obtain ⟨μ', c, h1, h2, h3⟩ := he
  cases h2
  exact ⟨h1, h3⟩
#print axioms call_bool
end
end Go.Proofs.Ytamibbjpapkfeaa.Ab
