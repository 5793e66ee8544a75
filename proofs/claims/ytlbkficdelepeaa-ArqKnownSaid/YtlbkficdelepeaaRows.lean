/-
  No cell of these rows narrows 'for every input' (looked for: loops, veiled, ifaces, maps, wideKeys, modest, calm, conditions, laid).
  DERIVED. THE GIVEN ROWS OF THIS SEAT. 8 by the template 'for every input the law returns true; each argument reads behind the call as it read before'; 0 by the template 'total and deterministic' (their statements: YtlbkficdelepeaaTotals.lean).
  GIVEN WITH THE SEED: the statements are not yours to turn. If you find one false, say at which input.
  Laid BY PROGRAM, IN A SANDBOX (cutbox-rows.mjs): the forced cells as the released guide's own fill.sh prints them over the translation 00654e76a9262735… (all of the seat's roots in one cut). By AI agents, Wed Nov 11 2026. No macro, syntax, notation, axiom, sorry.
-/
import Derived.Test.YtlbkficdelepeaaChecked
import GoSem.Claim
import GoSem.ClaimJoined
import GoSem.ClaimMapViews
import Derived.JoinedTies
import Derived.KernelRfl
namespace Go.Proofs.Ytlbkficdelepeaa
/- THE CELL 'sum', in the pinned program and in every row, IS THE sha256 OF THE DUMP (.gsa) THAT YtlbkficdelepeaaProg.lean LOADS. Nothing in Lean hashes anything: it is a label: what it is worth is what the hold of that sum in a sandbox is worth. -/
noncomputable def Try.pinned : Pinned := { name := "ytlbkficdelepeaa", sum := "00654e76a9262735632461e617f4132ba0b143f14673fa43190f1008442381a6", checked := Try.checked }
namespace Rows
def none {H : Type} : Left H := { results := [], args := [] }

/-- 'partylinelaw24.TablesJudge': WHATEVER THE INPUT: true; the input reads as it did. -/
def tablesJudgeSpec : ChangeSpec := { name := "tablesJudge", fn := fun _ => fun
  | [d1, d2] => { results := [.lit (.bool true)], args := [d1, d2] }
  | _ => none }
def tablesJudgeRow : OpenClaim := { program := "ytlbkficdelepeaa", sum := "00654e76a9262735632461e617f4132ba0b143f14673fa43190f1008442381a6", func := "partyline/partylinelaw24.TablesJudge", spec := "tablesJudge", plainKeys := false, apart := false }
def TablesJudgeSaid : Prop := tablesJudgeRow.holds Try.pinned (OpenSpec.ofChange tablesJudgeSpec)

/-- ITS FALSE NEIGHBOUR: 'it returns false'. Refute it at one input. -/
def tablesJudgeWrong : ChangeSpec := { name := "tablesJudge", fn := fun _ => fun
  | [d1, d2] => { results := [.lit (.bool false)], args := [d1, d2] }
  | _ => none }
def TablesJudgeWrongFalsely : Prop := tablesJudgeRow.holds Try.pinned (OpenSpec.ofChange tablesJudgeWrong)

/-- 'partylinelaw15.ArqPair': WHATEVER THE INPUT: true; the input reads as it did. -/
def arqPairSpec : ChangeSpec := { name := "arqPair", fn := fun _ => fun
  | [d1, d2, d3, d4] => { results := [.lit (.bool true)], args := [d1, d2, d3, d4] }
  | _ => none }
def arqPairRow : OpenClaim := { program := "ytlbkficdelepeaa", sum := "00654e76a9262735632461e617f4132ba0b143f14673fa43190f1008442381a6", func := "partyline/partylinelaw15.ArqPair", spec := "arqPair", plainKeys := false, apart := false }
def ArqPairSaid : Prop := arqPairRow.holds Try.pinned (OpenSpec.ofChange arqPairSpec)

/-- ITS FALSE NEIGHBOUR: 'it returns false'. Refute it at one input. -/
def arqPairWrong : ChangeSpec := { name := "arqPair", fn := fun _ => fun
  | [d1, d2, d3, d4] => { results := [.lit (.bool false)], args := [d1, d2, d3, d4] }
  | _ => none }
def ArqPairWrongFalsely : Prop := arqPairRow.holds Try.pinned (OpenSpec.ofChange arqPairWrong)

/-- 'partylinelaw15.ArqPlays': WHATEVER THE INPUT: true; the input reads as it did. -/
def arqPlaysSpec : ChangeSpec := { name := "arqPlays", fn := fun _ => fun
  | [d1, d2, d3, d4] => { results := [.lit (.bool true)], args := [d1, d2, d3, d4] }
  | _ => none }
def arqPlaysRow : OpenClaim := { program := "ytlbkficdelepeaa", sum := "00654e76a9262735632461e617f4132ba0b143f14673fa43190f1008442381a6", func := "partyline/partylinelaw15.ArqPlays", spec := "arqPlays", plainKeys := false, apart := false }
def ArqPlaysSaid : Prop := arqPlaysRow.holds Try.pinned (OpenSpec.ofChange arqPlaysSpec)

/-- ITS FALSE NEIGHBOUR: 'it returns false'. Refute it at one input. -/
def arqPlaysWrong : ChangeSpec := { name := "arqPlays", fn := fun _ => fun
  | [d1, d2, d3, d4] => { results := [.lit (.bool false)], args := [d1, d2, d3, d4] }
  | _ => none }
def ArqPlaysWrongFalsely : Prop := arqPlaysRow.holds Try.pinned (OpenSpec.ofChange arqPlaysWrong)

/-- 'partylinelaw15.ArqKnown': WHATEVER THE INPUT: true; the input reads as it did. -/
def arqKnownSpec : ChangeSpec := { name := "arqKnown", fn := fun _ => fun
  | [] => { results := [.lit (.bool true)], args := [] }
  | _ => none }
def arqKnownRow : OpenClaim := { program := "ytlbkficdelepeaa", sum := "00654e76a9262735632461e617f4132ba0b143f14673fa43190f1008442381a6", func := "partyline/partylinelaw15.ArqKnown", spec := "arqKnown", plainKeys := false, apart := false }
def ArqKnownSaid : Prop := arqKnownRow.holds Try.pinned (OpenSpec.ofChange arqKnownSpec)

/-- ITS FALSE NEIGHBOUR: 'it returns false'. Refute it at one input. -/
def arqKnownWrong : ChangeSpec := { name := "arqKnown", fn := fun _ => fun
  | [] => { results := [.lit (.bool false)], args := [] }
  | _ => none }
def ArqKnownWrongFalsely : Prop := arqKnownRow.holds Try.pinned (OpenSpec.ofChange arqKnownWrong)

/-- 'partylinelaw12.LineOrder': WHATEVER THE INPUT: true; the input reads as it did. -/
def lineOrderSpec : ChangeSpec := { name := "lineOrder", fn := fun _ => fun
  | [d] => { results := [.lit (.bool true)], args := [d] }
  | _ => none }
def lineOrderRow : OpenClaim := { program := "ytlbkficdelepeaa", sum := "00654e76a9262735632461e617f4132ba0b143f14673fa43190f1008442381a6", func := "partyline/partylinelaw12.LineOrder", spec := "lineOrder", inPlace := ["internal/abi.NoEscape", "internal/bytealg.MakeNoZero"], unfollowed := true, recurses := true, plainKeys := false, apart := false }
def LineOrderSaid : Prop := lineOrderRow.holds Try.pinned (OpenSpec.ofChange lineOrderSpec)

/-- ITS FALSE NEIGHBOUR: 'it returns false'. Refute it at one input. -/
def lineOrderWrong : ChangeSpec := { name := "lineOrder", fn := fun _ => fun
  | [d] => { results := [.lit (.bool false)], args := [d] }
  | _ => none }
def LineOrderWrongFalsely : Prop := lineOrderRow.holds Try.pinned (OpenSpec.ofChange lineOrderWrong)

/-- 'partylinelaw24.TablesLink': WHATEVER THE INPUT: true; the input reads as it did. -/
def tablesLinkSpec : ChangeSpec := { name := "tablesLink", fn := fun _ => fun
  | [d1, d2] => { results := [.lit (.bool true)], args := [d1, d2] }
  | _ => none }
def tablesLinkRow : OpenClaim := { program := "ytlbkficdelepeaa", sum := "00654e76a9262735632461e617f4132ba0b143f14673fa43190f1008442381a6", func := "partyline/partylinelaw24.TablesLink", spec := "tablesLink", plainKeys := false, apart := false }
def TablesLinkSaid : Prop := tablesLinkRow.holds Try.pinned (OpenSpec.ofChange tablesLinkSpec)

/-- ITS FALSE NEIGHBOUR: 'it returns false'. Refute it at one input. -/
def tablesLinkWrong : ChangeSpec := { name := "tablesLink", fn := fun _ => fun
  | [d1, d2] => { results := [.lit (.bool false)], args := [d1, d2] }
  | _ => none }
def TablesLinkWrongFalsely : Prop := tablesLinkRow.holds Try.pinned (OpenSpec.ofChange tablesLinkWrong)

/-- 'partylinelaw24.TablesOther': WHATEVER THE INPUT: true; the input reads as it did. -/
def tablesOtherSpec : ChangeSpec := { name := "tablesOther", fn := fun _ => fun
  | [d1, d2, d3, d4] => { results := [.lit (.bool true)], args := [d1, d2, d3, d4] }
  | _ => none }
def tablesOtherRow : OpenClaim := { program := "ytlbkficdelepeaa", sum := "00654e76a9262735632461e617f4132ba0b143f14673fa43190f1008442381a6", func := "partyline/partylinelaw24.TablesOther", spec := "tablesOther", plainKeys := false, apart := false }
def TablesOtherSaid : Prop := tablesOtherRow.holds Try.pinned (OpenSpec.ofChange tablesOtherSpec)

/-- ITS FALSE NEIGHBOUR: 'it returns false'. Refute it at one input. -/
def tablesOtherWrong : ChangeSpec := { name := "tablesOther", fn := fun _ => fun
  | [d1, d2, d3, d4] => { results := [.lit (.bool false)], args := [d1, d2, d3, d4] }
  | _ => none }
def TablesOtherWrongFalsely : Prop := tablesOtherRow.holds Try.pinned (OpenSpec.ofChange tablesOtherWrong)

/-- 'partylinelaw24.TablesKnown': WHATEVER THE INPUT: true; the input reads as it did. -/
def tablesKnownSpec : ChangeSpec := { name := "tablesKnown", fn := fun _ => fun
  | [] => { results := [.lit (.bool true)], args := [] }
  | _ => none }
def tablesKnownRow : OpenClaim := { program := "ytlbkficdelepeaa", sum := "00654e76a9262735632461e617f4132ba0b143f14673fa43190f1008442381a6", func := "partyline/partylinelaw24.TablesKnown", spec := "tablesKnown", plainKeys := false, apart := false }
def TablesKnownSaid : Prop := tablesKnownRow.holds Try.pinned (OpenSpec.ofChange tablesKnownSpec)

/-- ITS FALSE NEIGHBOUR: 'it returns false'. Refute it at one input. -/
def tablesKnownWrong : ChangeSpec := { name := "tablesKnown", fn := fun _ => fun
  | [] => { results := [.lit (.bool false)], args := [] }
  | _ => none }
def TablesKnownWrongFalsely : Prop := tablesKnownRow.holds Try.pinned (OpenSpec.ofChange tablesKnownWrong)

/- THE SECOND FORM. 'bulk': how many values and letters a reading holds, each counted each time it is reached (what is shared counts as often as it is met; a slice's spare places count too). A statement '..UptoSaid' is the law's where the arguments, and the package variables that the reading takes, are together of bulk at most 1048576: NARROWER than '..Said'. Prove '..Said' where nothing that the law and all that it calls make is longer than what came in: it says more and counts as full. Else prove '..UptoSaid'. A law counts once. -/
mutual
def uptoBulk {H : Type} : DataW H → Nat
  | .lit (.string bytes) => bytes.length + 1
  | .lit _ => 1
  | .nil => 1
  | .ptr d => uptoBulk d + 1
  | .slice elems spare => uptoBulkAll elems + uptoBulkAll spare + 1
  | .agg parts => uptoBulkAll parts + 1
  | .iface _ d => uptoBulk d + 1
  | .map entries => uptoBulkEntries entries + 1
  | .held _ => 1
def uptoBulkAll {H : Type} : List (DataW H) → Nat
  | [] => 0
  | d :: r => uptoBulk d + uptoBulkAll r
def uptoBulkEntries {H : Type} : List (Lit × DataW H) → Nat
  | [] => 0
  | x :: r => uptoBulkEntry x + uptoBulkEntries r
def uptoBulkEntry {H : Type} : Lit × DataW H → Nat
  | (.string bytes, d) => bytes.length + uptoBulk d + 1
  | (_, d) => uptoBulk d + 1
 end
def uptoSmall : (H : Type) → List (DataW H) → Bool := fun _ ds => decide (uptoBulkAll ds ≤ 1048576)
def OpenSpec.upto (s : _root_.Go.ChangeSpec) : _root_.Go.OpenSpec := { _root_.Go.OpenSpec.ofChange s with cond := some uptoSmall }

/-- 'partylinelaw24.TablesJudge', WHERE WHAT IT READS IS OF BULK AT MOST 1048576: true; the input reads as it did. -/
def tablesJudgeUptoRow : OpenClaim := { program := "ytlbkficdelepeaa", sum := "00654e76a9262735632461e617f4132ba0b143f14673fa43190f1008442381a6", func := "partyline/partylinelaw24.TablesJudge", spec := "tablesJudge", plainKeys := false, apart := false, narrowed := true }
def TablesJudgeUptoSaid : Prop := tablesJudgeUptoRow.holds Try.pinned (OpenSpec.upto tablesJudgeSpec)

/-- 'partylinelaw15.ArqPair', WHERE WHAT IT READS IS OF BULK AT MOST 1048576: true; the input reads as it did. -/
def arqPairUptoRow : OpenClaim := { program := "ytlbkficdelepeaa", sum := "00654e76a9262735632461e617f4132ba0b143f14673fa43190f1008442381a6", func := "partyline/partylinelaw15.ArqPair", spec := "arqPair", plainKeys := false, apart := false, narrowed := true }
def ArqPairUptoSaid : Prop := arqPairUptoRow.holds Try.pinned (OpenSpec.upto arqPairSpec)

/-- 'partylinelaw15.ArqPlays', WHERE WHAT IT READS IS OF BULK AT MOST 1048576: true; the input reads as it did. -/
def arqPlaysUptoRow : OpenClaim := { program := "ytlbkficdelepeaa", sum := "00654e76a9262735632461e617f4132ba0b143f14673fa43190f1008442381a6", func := "partyline/partylinelaw15.ArqPlays", spec := "arqPlays", plainKeys := false, apart := false, narrowed := true }
def ArqPlaysUptoSaid : Prop := arqPlaysUptoRow.holds Try.pinned (OpenSpec.upto arqPlaysSpec)

/-- 'partylinelaw15.ArqKnown', WHERE WHAT IT READS IS OF BULK AT MOST 1048576: true; the input reads as it did. -/
def arqKnownUptoRow : OpenClaim := { program := "ytlbkficdelepeaa", sum := "00654e76a9262735632461e617f4132ba0b143f14673fa43190f1008442381a6", func := "partyline/partylinelaw15.ArqKnown", spec := "arqKnown", plainKeys := false, apart := false, narrowed := true }
def ArqKnownUptoSaid : Prop := arqKnownUptoRow.holds Try.pinned (OpenSpec.upto arqKnownSpec)

/-- 'partylinelaw12.LineOrder', WHERE WHAT IT READS IS OF BULK AT MOST 1048576: true; the input reads as it did. -/
def lineOrderUptoRow : OpenClaim := { program := "ytlbkficdelepeaa", sum := "00654e76a9262735632461e617f4132ba0b143f14673fa43190f1008442381a6", func := "partyline/partylinelaw12.LineOrder", spec := "lineOrder", inPlace := ["internal/abi.NoEscape", "internal/bytealg.MakeNoZero"], unfollowed := true, recurses := true, plainKeys := false, apart := false, narrowed := true }
def LineOrderUptoSaid : Prop := lineOrderUptoRow.holds Try.pinned (OpenSpec.upto lineOrderSpec)

/-- 'partylinelaw24.TablesLink', WHERE WHAT IT READS IS OF BULK AT MOST 1048576: true; the input reads as it did. -/
def tablesLinkUptoRow : OpenClaim := { program := "ytlbkficdelepeaa", sum := "00654e76a9262735632461e617f4132ba0b143f14673fa43190f1008442381a6", func := "partyline/partylinelaw24.TablesLink", spec := "tablesLink", plainKeys := false, apart := false, narrowed := true }
def TablesLinkUptoSaid : Prop := tablesLinkUptoRow.holds Try.pinned (OpenSpec.upto tablesLinkSpec)

/-- 'partylinelaw24.TablesOther', WHERE WHAT IT READS IS OF BULK AT MOST 1048576: true; the input reads as it did. -/
def tablesOtherUptoRow : OpenClaim := { program := "ytlbkficdelepeaa", sum := "00654e76a9262735632461e617f4132ba0b143f14673fa43190f1008442381a6", func := "partyline/partylinelaw24.TablesOther", spec := "tablesOther", plainKeys := false, apart := false, narrowed := true }
def TablesOtherUptoSaid : Prop := tablesOtherUptoRow.holds Try.pinned (OpenSpec.upto tablesOtherSpec)

/-- 'partylinelaw24.TablesKnown', WHERE WHAT IT READS IS OF BULK AT MOST 1048576: true; the input reads as it did. -/
def tablesKnownUptoRow : OpenClaim := { program := "ytlbkficdelepeaa", sum := "00654e76a9262735632461e617f4132ba0b143f14673fa43190f1008442381a6", func := "partyline/partylinelaw24.TablesKnown", spec := "tablesKnown", plainKeys := false, apart := false, narrowed := true }
def TablesKnownUptoSaid : Prop := tablesKnownUptoRow.holds Try.pinned (OpenSpec.upto tablesKnownSpec)

end Rows
end Go.Proofs.Ytlbkficdelepeaa
